/- Lemmas. -/
import Derived.Test.YtkhphoonnkoipaaGreatDoorVaak
import Derived.Test.YtkhphoonnkoipaaGreatDoorVaam
set_option linter.all false
set_option maxHeartbeats 4000000
set_option maxRecDepth 4000
open Go.Proofs.Tryz Go.RowKit Go.Lib
open Option renaming none→J,some→U
open Bool renaming true→ai,false→ab
open Decidable renaming decide→au
open Go renaming World→af,Calls→aq,results→bK
open Go.RowKit renaming Below→ah,Hid→aj
open Go.Proofs.Tryz renaming prog→ak
namespace Go.Proofs.YtkhphoonnkoipaaGreatDoor
theorem ajr:∃(F:af→af) (Gs:af→Value),(∀W,(convert 9 109 (.string (({ data:=#[48,49,50,51,52,53,54,55,56,57,65,66,67,68,69,70,71,72,73,74,75,76,77,78,79,80,81,82,83,84,85,86,87,88,89,90] }:ByteArray).extract 0 10))).run ak W=.ok (Gs W) (F W))∧∀W,wv (F W) (Gs W) o.gB∧ah W.heap.size W (F W)∧W.heap.size+1≤(F W).heap.size:=by
 have e:({ data:=#[48,49,50,51,52,53,54,55,56,57,65,66,67,68,69,70,71,72,73,74,75,76,77,78,79,80,81,82,83,84,85,86,87,88,89,90] }:ByteArray).extract 0 10=ax o.gB:=by
  apply xx;rw[Ed];rfl
 rw[e];have key:∀W:af,wv (bytesWorld W 5 (ax o.gB)) (.slice (U ⟨W.heap.size,0,J⟩) (ax o.gB).size (grownCap W (ax o.gB).size 0 5)) o.gB∧W.heap.size+1≤(bytesWorld W 5 (ax o.gB)).heap.size:=by
  intro W;have h:=cB.ofString W W.heap.size 5 (ax o.gB) (by decide) (aC _);have a1:=h.yb (by decide);obtain⟨g,cap,aD,_,aY,_⟩:=a1;injection aD with fK ml WB;injection fK with fK;injection fK with fK;rw[←fK] at aY;exact⟨⟨W.heap.size,_,rfl,aY,fun j x bP=>h.cellAt (KI bP)⟩,aY⟩
 exact⟨fun W=>bytesWorld W 5 (ax o.gB),fun W=>.slice (U ⟨W.heap.size,0,J⟩) (ax o.gB).size (grownCap W (ax o.gB).size 0 5),fun W=>Lib.run_convert_string_bytes (P:=ak) W 9 109 5 (ax o.gB) jH mL ke,fun W=>⟨(key W).1,bytesWorld_below W 5 (ax o.gB),(key W).2⟩⟩
theorem KP (c:UInt8) (t:List UInt8):(ax (c::t)).extract 1 (t.length+1)=ax t:=by
 apply xx;rw[Ed];apply Array.toList_inj.1;simp
def sD (w:af) (l:List UInt8) (e:Ending) (w':af):Prop:=((∃n,o.fl 10 l n∧e=.returned (e7 n))∨((∀n,¬ o.fl 10 l n)∧e=.returned (.tuple #[cO ab [],.int .i64 93])))∧ah w.heap.size w w'
theorem KQ (l:List UInt8) (w:af) (ao:l.length≤300000) (h:l=[]∨l=[45]∨(∃r,l=45::48::r)∨∃d r,l=48::d::r) :
 aq ak 52 #[.string (ax l),.int .i64 10] w (sD w l):=by
 have lZ:aj (∀n,¬ o.fl 10 l n):=I (by
  rcases h with rfl | rfl | ⟨r,rfl⟩ | ⟨d,r,rfl⟩
  ·exact o.X3
  ·exact o.X4
  ·exact o.X6 r
  ·exact o.X7 d r)
 have ht:aj (∀bW:af,ah w.heap.size w bW→sD w l (.returned (.tuple #[.agg #[.bool ab,.string ⟨#[]⟩],.int .i64 93])) bW):=I (fun bW ad=>⟨.inr ⟨lZ.out,rfl⟩,ad⟩);obtain⟨ag,a6⟩:∃ag,w.alloc (.cells #[.bool ab,.string ⟨#[]⟩] 46)=ag:=⟨_,rfl⟩;have cY:aj (aI ag w.heap.size 46 (.bool ab) (.string ⟨#[]⟩)):=I (by rw[←a6];exact aI.new _ _ _ _);have cQ:aj (ah w.heap.size w ag):=I (by rw[←a6];exact (aK _ _).alloc (aC _) _);obtain⟨cn,bY,fA,gW⟩:=cY.out.cells;have bd:=cY.out.set (.bool ab) (.string ⟨#[]⟩);obtain⟨aM,aG,_,_⟩:=bd.cells;have hW:=I (fG cQ.out (aC _) (.bool ab) (.string ⟨#[]⟩));clear bd;rcases h with rfl | rfl | ⟨r,rfl⟩ | ⟨d,r,rfl⟩
 ·go_enter zD,zz;go_wp2_with fail;all_goals exact bI (v:=.tuple #[.agg #[.bool ab,.string ⟨#[]⟩],.int .i64 93]) (by simp[bK,zu,go_sem,aM,aG]) rfl (ht.out _ hW.out)
 ·have aH:(ax [45]).extract 1 1=⟨#[]⟩:=by apply xx;rw[Ed];rfl
  go_enter zD,zz;go_wp2_with fail;all_goals exact bI (v:=.tuple #[.agg #[.bool ab,.string ⟨#[]⟩],.int .i64 93]) (by simp[bK,zu,go_sem,aM,aG]) rfl (ht.out _ hW.out)
 ·have ef:=KP 45 (48::r);have b5:(ax (45::48::r)).size=(48::r).length+1:=rfl;have ar:∀h:0<(ax (45::48::r)).size,(ax (45::48::r))[0]'h=45:=fun _=>rfl;have wB:(ax (48::r)).size=(48::r).length:=rfl;have wC:∀h:0<(ax (48::r)).size,(ax (48::r))[0]'h=48:=fun _=>rfl;have tJ:(ax (48::r)).toList.isEmpty=ab:=by rw[lL];rfl
  obtain⟨N,cW⟩:∃N,(48::r).length=N:=⟨_,rfl⟩;have ajs:1≤N:=by rw[←cW];simp
  rw[cW] at ef b5 wB;generalize ax (45::48::r)=S at *;generalize ax (48::r)=T at *;have aE:0<S.size:=by omega
  have an:=ar aE;have lQ:0<T.size:=by omega
  have mu:=wC lQ;have pc:au ((0:Int)<(S.size:Int))=ai:=bE (by omega);go_enter zD,zz;go_wp2_with fail;all_goals exact bI (v:=.tuple #[.agg #[.bool ab,.string ⟨#[]⟩],.int .i64 93]) (by simp[bK,zu,go_sem,aM,aG]) rfl (ht.out _ hW.out)
 ·have b5:(ax (48::d::r)).size=r.length+2:=rfl;have ar:∀h:0<(ax (48::d::r)).size,(ax (48::d::r))[0]'h=48:=fun _=>rfl;have ajt:(ax (48::d::r)).toList.isEmpty=ab:=by rw[lL];rfl
  have aju:((ax (48::d::r)).toList==[48])=ab:=by rw[lL];show ((48::d::r:List UInt8)==[48])=ab;rw[cH];intro e;cases e
  generalize ax (48::d::r)=S at *;have aE:0<S.size:=by omega
  have an:=ar aE;have pc:au ((0:Int)<(S.size:Int))=ai:=bE (by omega);go_enter zD,zz;go_wp2_with fail;all_goals exact bI (v:=.tuple #[.agg #[.bool ab,.string ⟨#[]⟩],.int .i64 93]) (by simp[bK,zu,go_sem,aM,aG]) rfl (ht.out _ hW.out)
theorem X8 {t:List UInt8} {k:Nat} (h:k<t.length):o.ep 10 ((t.map o.dg).take (k+1))=o.ep 10 ((t.map o.dg).take k)*10+o.dg t[k]:=by
 rw[o.ai8 10 _ (by rw[rh];exact h),xq]
theorem RB (g:Bool) (t:List UInt8) (w:af) (ao:t.length≤300000) (ar:t≠[]) (hh:t.head? = U 48→t.length=1) (aY:g=ai→t.head?≠U 48) (hm:g=ab→t.head?≠U 45) :
 aq ak 52 #[.string (ax (if g then 45::t else t)),.int .i64 10] w (sD w (if g then 45::t else t)):=by
 obtain⟨V,cA⟩:∃V,o.ep 10 (t.map o.dg)=V:=⟨_,rfl⟩;have rJ:aj ((∀c ∈ t,c ∈ o.gB)→∀bW:af,ah w.heap.size w bW→sD w (if g then 45::t else t) (.returned (e7 (cy g V))) bW):=I (fun aL bW ad=>⟨.inl ⟨_,by rw[←cA];exact o.X1 ar aL hh aY,rfl⟩,ad⟩);have u2:aj (∀c ∈ t,c ∉ o.gB→∀bW:af,ah w.heap.size w bW→sD w (if g then 45::t else t) (.returned (.tuple #[.agg #[.bool ab,.string ⟨#[]⟩],.int .i64 93])) bW):=I (fun c an aB bW ad=>⟨.inr ⟨o.X2 an aB hm,rfl⟩,ad⟩);obtain⟨hY,hZ,gr,gC⟩:∃f s e,e7 (cy g V)=.tuple #[.agg #[.bool f,.string s],.int .i64 e]:=by
  unfold e7;split
  ·exact⟨_,_,_,rfl⟩
  ·exact⟨_,_,_,rfl⟩
 have nf:aj (4294967296^1024≤V→e7 (cy g V)=.tuple #[.agg #[.bool ab,.string ⟨#[]⟩],.int .i64 92]):=I (fun ad=>by
  unfold e7;rw[aU]
  ·rfl
  ·intro h;unfold o.bO at h;rw[show (cy g V).natAbs=V by unfold cy;split<;>omega] at h;have e:(256:Nat)^4096=4294967296^1024:=by have:=o.Gd 1024;rwa[show 4*1024=4096 from rfl] at this
   rw[e] at h;exact absurd h (Nat.not_lt.2 ad))
 have l2:aj (∀W v,b2 W v (o.wd V)→(o.wd V).length≤10000→aq ak 57 #[.agg #[v,.bool g]] W (fun e w'=>e=.returned (e7 (cy g V))∧ah W.heap.size W w')):=I (fun W v aa ae=>Ao v g V _ W rfl aa ae);rw[gC] at l2 rJ nf;have F9:aj (∀k,o.ep 10 ((t.map o.dg).take k)≤V):=I (fun k=>by rw[←cA];exact o.XS (by decide) _ k);obtain⟨F,Gs,Gt,hF⟩:=ajr;obtain⟨ag,a6⟩:∃ag,w.alloc (.cells #[.bool ab,.string ⟨#[]⟩] 46)=ag:=⟨_,rfl⟩;have dt:aj (aI ag w.heap.size 46 (.bool ab) (.string ⟨#[]⟩)):=I (by rw[←a6];exact aI.new _ _ _ _);have cQ:aj (ah w.heap.size w ag):=I (by rw[←a6];exact (aK _ _).alloc (aC _) _);have u3:=Gt ag;obtain⟨bS,dP,dY⟩:=hF ag;generalize F ag=cG at *;generalize Gs ag=gn at *;have dH:w.heap.size+1≤ag.heap.size:=by rw[←a6];simp
 have CS:=I (dt.out.below dP);have bL:=I (chain cQ.out dP (by omega));have ki:=I bS;obtain⟨awQ,Xi,rfl,ajv,Ce⟩:=bS;obtain⟨cn,bY,fA,gW⟩:=CS.out.cells;clear Gt hF dP ajv Ce dt cQ F Gs;obtain⟨c,an⟩:∃c,t.head? = U c:=by
  cases t with
  | nil=>exact absurd rfl ar
  | cons c t=>exact⟨c,rfl⟩
 have iM:=I (x2 t);have wB:(ax t).size=t.length:=rfl;have tJ:(ax t).toList.isEmpty=ab:=by
  rw[lL];cases t with
  | nil=>exact absurd rfl ar
  | cons c t=>rfl
 have wC:∀h:0<(ax t).size,(ax t)[0]'h=c:=fun h=>by
  cases t with
  | nil=>exact absurd rfl ar
  | cons d t=>simp at an;subst an;rfl
 have lT:1≤t.length:=List.length_pos_iff.2 ar;have wD:t=[48]→((ax t).toList==[48])=ai:=fun e=>by subst e;rw[lL];rfl
 have ef:=KP 45 t;have b5:(ax (45::t)).size=t.length+1:=rfl;have pS:∀h:0<(ax (45::t)).size,(ax (45::t))[0]'h=45:=fun _=>rfl;obtain⟨n,aB⟩:∃n,t.length=n:=⟨_,rfl⟩;have bU:=I aB;rw[aB] at wB lT ef b5 ao;have fT:g=ab→c=48→t=[48]:=fun _ e=>by
  subst e;have:=hh an;cases t with
  | nil=>exact absurd rfl ar
  | cons d t=>
    simp at an;subst an;simp at this;subst this;rfl
 have tK:g=ai→c≠48:=fun e aT=>aY e (by rw[an,aT]);have kf:g=ab→c≠45:=fun e aT=>hm e (by rw[an,aT]);have cM:=I cA;clear cA gC hh aY hm an ar;have lQ:0<(ax t).size:=by rw[wB];exact lT
 have mu:=wC lQ;clear wC;cases g;case' true=>
  simp only[oW] at rJ u2 ⊢;have tL:((c.toNat:Int)==48)=ab:=by
   rw[cH];intro e;exact tK rfl (UInt8.toNat_inj.1 (by rw[show (48:UInt8).toNat=48 from rfl];omega))
  generalize ax (45::t)=S at *;generalize ax t=T at *;have aE:0<S.size:=by omega
  have ajw:=pS aE;have pc:au ((0:Int)<(S.size:Int))=ai:=bE (by omega);clear fT tK kf wD pS aB;go_enter zD,zz;go_wp2_with fail
 case' false=>
  simp only[oL,oV] at rJ u2 ⊢;have ajx:((c.toNat:Int)==45)=ab:=by
   rw[cH];intro e;exact kf rfl (UInt8.toNat_inj.1 (by rw[show (45:UInt8).toNat=45 from rfl];omega))
  have pc:au ((0:Int)<((ax t).size:Int))=ai:=bE (by omega);by_cases tL:c=48;case' pos=>
   have dZ:=wD (fT rfl tL);have RC:((c.toNat:Int)==48)=ai:=by rw[tL];rfl
   clear fT tK kf wD pS aB ef b5;generalize ax t=T at *;go_enter zD,zz;go_wp2_with fail
  case' neg=>
   have RC:((c.toNat:Int)==48)=ab:=by
    rw[cH];intro e;exact tL (UInt8.toNat_inj.1 (by rw[show (48:UInt8).toNat=48 from rfl];omega))
   clear fT tK kf wD pS aB ef b5;generalize ax t=T at *;go_enter zD,zz;go_wp2_with fail
 all_goals
  go_loop [49] (fun i=>∃k:Nat,k≤n∧i=.int .i64 k∧aj (∀c ∈ t.take k,c ∈ o.gB)) (fun i=>n-(RowKit.intOf i).toNat);case atStart=>exact⟨0,il _,rfl,I (by simp)⟩
  case round=>
   obtain⟨k,aA,rfl,kB⟩:=hrel;by_cases bV:k<n
   ·have eM:k<t.length:=by rw[bU.out];exact bV
    have q:k<T.size:=by omega
    have jP:T[k]'q=t[k]:=iM.out.get eM q (by omega);have u4:t[k] ∈ t:=jc eM;have bc:=I (show t.take (k+1)=t.take k++[t[k]] from kc eM);obtain⟨d,aL⟩:∃d,t[k]=d:=⟨_,rfl⟩;rw[aL] at jP u4 bc;have tM:=I (aiV _ o.gB d cG ki.out (by decide));have RD:=I u4;clear aL eM u4;by_cases kH:d ∈ o.gB
    ·have CW:=I kH;rw[bE kH] at tM;clear kH;go_wp2_with fail;refine tM.out.mono ?_;rintro e w' ⟨rfl,rfl⟩;go_wp2;go_round;case rel=>
      refine⟨k+1,by omega,by go_num,I (fun c an=>?_)⟩;rw[bc.out] at an;rcases List.mem_append.1 an with an | an
      ·exact kB.out c an
      ·rw[List.mem_singleton.1 an];exact CW.out
     case measure=>simp[RowKit.intOf];omega
    ·have bZ:=I (u2.out d RD.out kH);rw[bx kH] at tM;have bd:=CS.out.set (.bool ab) (.string ⟨#[]⟩);obtain⟨aM,aG,_,_⟩:=bd.cells;have hW:=I (fG bL.out (aC _) (.bool ab) (.string ⟨#[]⟩));clear kH bd;go_wp2_with fail;refine tM.out.mono ?_;rintro e w' ⟨rfl,rfl⟩;go_wp2;refine bI (v:=.tuple #[.agg #[.bool ab,.string ⟨#[]⟩],.int .i64 93]) (by simp[bK,zu,go_sem,aM,aG]) rfl (bZ.out _ hW.out)
   ·obtain rfl:k=n:=by omega
    have dM:aj (∀c ∈ t,c ∈ o.gB):=I (by
     have:=kB.out;rwa[fp (by rw[bU.out];exact aC _)] at this)
    clear kB bV aA;go_wp2;go_loopw [9,62] (fun x i wr=>∃(j:Nat) (xs:List Nat),j≤k∧i=.int .i64 j∧rB wr cG.heap.size x xs∧o.dI xs∧o.n' xs∧aj (o.num xs=o.ep 10 ((t.map o.dg).take j))∧xs.length≤1024∧ah cG.heap.size cG wr) (fun _ i _=>k-(RowKit.intOf i).toNat);case atStart=>exact⟨0,[],il _,rfl,aiG _ _,fun x hx=>by simp at hx,.inl rfl,I (by simp[o.num,o.ep]),by simp,aK _ _⟩
    case round=>
     obtain⟨j,xs,bP,rfl,dq,f',tN,jj,gH,ad⟩:=hrel;have jC:=I dq;have mZ:=I f';have iO:=I tN;have ay:=I ad;obtain⟨cx,ct,rfl⟩:=dq.form;have KR:=I (CS.out.under ad (by omega));have qq:=ad.size;clear dq f' tN ad;by_cases bV:j<k
     ·have eM:j<t.length:=by rw[bU.out];exact bV
      have q:j<T.size:=by omega
      have jP:T[j]'q=t[j]:=iM.out.get eM q (by omega);have kH:t[j] ∈ o.gB:=dM.out _ (jc eM);have wE:=X8 eM;obtain⟨d,aL⟩:∃d,t[j]=d:=⟨_,rfl⟩;rw[aL] at jP kH wE;have KS:=(o.wA d).1 kH;have ajy:=I (XJ _ o.gB d wr (ki.out.below ay.out ki.out.lt) (by decide));obtain⟨rK,aE⟩:∃rK,o.dg d=rK:=⟨_,rfl⟩;have ajz:aj (∀r,o.Gc o.gB d r→r=(rK:Nat)):=I (fun r h=>by rw[←aE];exact o.ajn h kH);rw[aE] at wE KS;have yl:=I (aiK _ xs 10 rK cG.heap.size wr jC.out mZ.out iO.out (by omega) (by decide) (by decide) (by omega) qq);have KT:=I (show o.num xs*10+rK=o.ep 10 ((t.map o.dg).take (j+1)) by rw[wE,jj.out]);clear aL eM kH wE aE;go_wp2_with fail;refine ajy.out.mono ?_;rintro e w' ⟨r,rfl,aF,rfl⟩;obtain rfl:=ajz.out r aF;have awR:((rK:Nat):Int)%4294967296=((rK:Nat):Int):=by omega
      clear aF;go_wp2_with fail;refine yl.out.mono ?_;rintro e cf ⟨v5,zs,rfl,KU,RE,KV,Gu,bf,awS⟩;rw[KT.out] at Gu;obtain⟨ajA,ajB,rfl⟩:=KU.form;have ajC:=I KU;have ajD:=I RE;have KW:=I KV;have ajE:=I Gu;have dc:=I (ay.out.trans bf);have yd:=I (KR.out.under bf (by omega));by_cases aX:zs.length≤1024
      ·have KX:au ((1024:Int)<(zs.length:Int))=ab:=bx (by omega);clear KU RE KV Gu bf;go_wp2;go_roundw;case rel=>exact⟨j+1,zs,by omega,by go_num,ajC.out,ajD.out,KW.out,ajE.out,aX,dc.out⟩
       case measure=>simp[RowKit.intOf];omega
      ·have KX:au ((1024:Int)<(zs.length:Int))=ai:=bE (by omega);have u5:aj (4294967296^1024≤V):=I (by
        have aa:=o.F7 KV (by intro e;rw[e] at aX;simp at aX);have ae:=F9.out (j+1);rw[←Gu] at ae;exact o.ai2 (a:=1024) (cp aa ae) (show 1024≤zs.length-1 by omega))
       have bd:=yd.out.set (.bool ab) (.string ⟨#[]⟩);obtain⟨aM,aG,_,_⟩:=bd.cells;have hW:=I (fG (bL.out.trans (dc.out.mono (by omega))) (aC _) (.bool ab) (.string ⟨#[]⟩));obtain⟨_,_,f0,f1⟩:=yd.out.cells;have og:=I (fun bW hs=>nf.out u5.out ▸ rJ.out dM.out bW hs);clear KU RE KV Gu bf bd aX u5 nf;go_wp2;refine bI (v:=.tuple #[.agg #[.bool ab,.string ⟨#[]⟩],.int .i64 92]) (by simp[bK,zu,go_sem,aM,aG]) rfl (og.out _ hW.out)
     ·obtain rfl:j=k:=by omega
      have kG:xs=o.wd V:=o.Kv mZ.out iO.out (by
       rw[jj.out,fp (by rw[rh,bU.out];exact aC _)];exact cM.out)
      have eX:=jC.out.rd;have uS:b2 wr (.slice cx xs.length ct) (o.wd V):=by rw[←kG];exact eX
      have RF:=I (l2.out wr _ uS (by rw[←kG];omega));have og:=I (rJ.out dM.out);clear eX uS kG bV;go_wp2_with fail;refine RF.out.mono ?_;rintro e cw ⟨rfl,cL⟩;have Gv:=I (KR.out.below cL);obtain⟨_,_,f0,f1⟩:=Gv.out.cells;have bd:=Gv.out.set (.bool hY) (.string hZ);obtain⟨aM,aG,_,_⟩:=bd.cells;have hW:=I (fG (chain (bL.out.trans (ay.out.mono (by omega))) cL (by omega)) (aC _) (.bool hY) (.string hZ));clear bd cL;go_wp2;refine bI (v:=.tuple #[.agg #[.bool hY,.string hZ],.int .i64 gr]) (by simp[bK,zu,go_sem,aM,aG]) rfl (og.out _ hW.out)
theorem X9 (l:List UInt8) (w:af) (ao:l.length≤300000):aq ak 52 #[.string (ax l),.int .i64 10] w (sD w l):=by
 cases l with
 | nil=>exact KQ [] w ao (.inl rfl)
 | cons c r=>
   by_cases an:c=45
   ·subst an;cases r with
    | nil=>exact KQ [45] w ao (.inr (.inl rfl))
    | cons d r=>
      by_cases aL:d=48
      ·subst aL;exact KQ _ w ao (.inr (.inr (.inl ⟨r,rfl⟩)))
      ·have h:=RB ai (d::r) w (by simp at ao ⊢;omega) (by simp) (by simp[aL]) (by simp[aL]) (by simp);exact h
   ·by_cases Gw:c=48
    ·subst Gw;cases r with
     | nil=>exact RB ab [48] w (by simp) (by simp) (by simp) (by simp) (by simp)
     | cons d r=>exact KQ _ w ao (.inr (.inr (.inr ⟨d,r,rfl⟩)))
    ·exact RB ab (c::r) w ao (by simp) (by simp[Gw]) (by simp) (by simp[an])
theorem o.getD_set_ne {zs:List Nat} {k j v:Nat} (h:k≠j):(zs.set k v).getD j 0=zs.getD j 0:=by
 rw[e5,e5,NB h]
theorem amc (e6 fz:Value) (fk iw:List Nat) (w:af) (hx:b2 w e6 fk) (aW:b2 w fz iw) (rv:fk.length≤3000) (ry:iw.length≤3000) (hJ:o.dI fk) (rz:o.dI iw) :
 aq ak 59 #[e6,fz] w (x6 w (o.num fk*o.num iw)):=by
 obtain⟨i0,aV,eo,eP,eL⟩:=oU sr;obtain⟨Kx,Ky,rfl⟩:=hx.form;obtain⟨Q4,Q5,rfl⟩:=aW.form;have b9:=I hx;have hi:=I aW;have sv:=I hJ;have uU:=I rz;clear hx aW hJ rz;obtain⟨n,aB⟩:∃n,fk.length=n:=⟨_,rfl⟩;obtain⟨m,hm⟩:∃m,iw.length=m:=⟨_,rfl⟩;rw[aB] at rv b9;rw[hm] at hi ry;rw[aB,hm];have bU:=I aB;have di:=I hm;obtain⟨V,cA⟩:∃V,o.num fk*o.num iw=V:=⟨_,rfl⟩;rw[cA];have cM:=I cA;clear aB hm cA;go_enter func59,ntmps59;go_wp2_with (at_make;refine s8 _ rfl _ _ 83 rfl w.heap.size 96 i0 (.int .u32 0) 1 qd aV eo eP .i64 .i64 _ _ (n+m) rfl rfl (by omega) (by omega) (by rw[eL];omega) (by unfold maxLen;omega) (by simp) ?_);intro cq h7 gm;obtain⟨g,eT⟩:∃g,w.heap.size=g:=⟨_,rfl⟩;have cj:=x7 h7;rw[eT] at cj ⊢;have cQ:=I (show ah g w cq from (aK _ _).grown gm (by omega) (fun k aA=>by cases aA));have fF:=I cj;have ly:=I eT;clear h7 gm aV eo eP eL cj eT;go_wp2;go_loopw [6,7,8,9,10,11,20] (fun _ _ _ _ _ _ i wr=>∃(k:Nat) (zs:List Nat),k≤n∧i=.int .i64 k∧fc wr g zs∧zs.length=n+m∧o.dI zs∧(∀j,k+m≤j→zs.getD j 0=0)∧aj (o.num zs=o.num (fk.take k)*o.num iw)∧ah g w wr) (fun _ _ _ _ _ _ i _=>n-(RowKit.intOf i).toNat);case atStart=>exact⟨0,List.replicate (n+m) 0,il _,rfl,fF.out,by simp,o.z8 _,fun j _=>by simp[e5,Nt];split<;>rfl,I (by rw[o.FZ];simp[o.num]),cQ.out⟩
 case round=>
  obtain⟨k,zs,aA,rfl,cj,eH,f',eo,jj,ad⟩:=hrel;have ay:=I ad;have lV:=I eH;have mZ:=I f';have mq:=I eo;have pN:=I cj;by_cases bV:k<n
  ·obtain⟨pP,Ab,Ac,fO⟩:=b9.out.at (k:=k) (by rw[bU.out];exact bV);have Ad:wr.cell? ⟨pP,k,J⟩=U (.int .u32 (fk.getD k 0:Nat)):=by
    rw[ay.out.cell (p:=⟨pP,k,J⟩) (by have:=ly.out;show pP<_;omega)];exact fO
   subst Ab;have aa7:=o.ia sv.out k;have qT:aj (o.num (fk.take (k+1))=o.num (fk.take k)+4294967296^k*fk.getD k 0):=I (o.mY fk k);obtain⟨a,aS⟩:∃a,fk.getD k 0=a:=⟨_,rfl⟩;rw[aS] at Ad aa7 qT;obtain⟨wp,G8⟩:∃x,x=wr:=⟨wr,rfl⟩;subst G8;clear cj eH f' eo ad fO Ac aS;go_wp2;go_loopw [8,9,10,11,27] (fun c _ _ _ i wr=>∃(q df:Nat) (ys:List Nat),q≤m∧df<4294967296∧c=.int .u64 df∧i=.int .i64 q∧fc wr g ys∧ys.length=n+m∧o.dI ys∧(∀j,k+m≤j→ys.getD j 0=0)∧aj (o.num ys+4294967296^(k+q)*df=o.num zs+4294967296^k*(a*o.num (iw.take q)))∧ah g w wr) (fun _ _ _ _ i _=>m-(RowKit.intOf i).toNat);case atStart=>exact⟨0,0,zs,il _,by decide,rfl,rfl,pN.out,lV.out,mZ.out,mq.out,I (by simp[o.num]),ay.out⟩
   case round=>
    obtain⟨q,df,ys,aE,mj,rfl,rfl,cj,eH,f',eo,p4,ad⟩:=hrel;have bL:=I ad;have aa8:=I eH;have SX:=I f';have aa9:=I eo;have uV:=I cj;by_cases qA:q<m
    ·have hU:k+q<ys.length:=by rw[eH];omega
     have gz:=cj.cell hU;have lA:=cj.free (k+q);obtain⟨Dk,F1,tg,gP⟩:=hi.out.at (k:=q) (by rw[di.out];exact qA);have Q8:wr.cell? ⟨Dk,q,J⟩=U (.int .u32 (iw.getD q 0:Nat)):=by
      rw[bL.out.cell (p:=⟨Dk,q,J⟩) (by have:=ly.out;show Dk<_;omega)];exact gP
     subst F1;have k1:=o.ia uU.out q;have aa':=o.ia SX.out (k+q);have kk:=I (o.aiq (ys:=iw) (zs:=ys) (i:=k) (k:=q) (a:=a) (c:=df) hU p4.out);obtain⟨b,hs⟩:∃b,iw.getD q 0=b:=⟨_,rfl⟩;rw[hs] at Q8 k1 kk;obtain⟨z,aX⟩:∃z,ys.getD (k+q) 0=z:=⟨_,rfl⟩;rw[aX] at gz aa' kk;obtain⟨dH,dY⟩:=o.Xk aa7 k1 aa' mj;have amd:a*b≤4294967295*4294967295:=kz (by omega) (by omega);obtain⟨AR,kW⟩:∃p,a*b=p:=⟨_,rfl⟩;rw[kW] at dH dY amd kk;have axw:(a:Int)*(b:Int)=(AR:Int):=by rw[←kW];simp
     have SY:IntKind.u64.wrap (AR:Int)=(AR:Int):=by rw[ha];omega
     have SZ:IntKind.u64.wrap ((AR:Int)+(z:Int))=(AR:Int)+(z:Int):=by rw[ha];omega
     obtain⟨s,a1⟩:∃s,AR+z+df=s:=⟨_,rfl⟩;rw[a1] at dH dY kk;have uH:IntKind.u64.wrap ((AR:Int)+(z:Int)+(df:Int))=(s:Int):=by rw[ha];omega
     have axx:IntKind.u64.wrap (a:Int)=(a:Int):=by rw[ha];omega
     have axy:IntKind.u64.wrap (b:Int)=(b:Int):=by rw[ha];omega
     have ame:IntKind.u64.wrap (z:Int)=(z:Int):=by rw[ha];omega
     obtain⟨d,aL⟩:∃d,s%4294967296=d:=⟨_,rfl⟩;obtain⟨c',iS⟩:∃c',s/4294967296=c':=⟨_,rfl⟩;rw[aL,iS] at kk;rw[iS] at dY;have aiM:(s:Int)%4294967296=(d:Int):=by omega
     have KD:(s:Int)/4294967296=(c':Int):=by omega
     have hL:d<4294967296:=by omega
     have S0:IntKind.i64.wrap ((k:Int)+(q:Int))=((k+q:Nat):Int):=by rw[sb];omega
     have S1:(k:Int)+(q:Int)=((k+q:Nat):Int):=by omega
     have G9:=I (uV.out.set (k+q) d);have bu:=I (bL.out.setCell (p:=⟨g,k+q,J⟩) (aC g) (.int .u32 (d:Nat)));have S2:k+q<n+m:=by omega
     obtain⟨lj,jr⟩:∃p,k+q=p:=⟨_,rfl⟩;rw[jr] at gz lA S0 S1 G9 bu S2;have kN:=I jr;clear cj eH f' eo ad gP tg hU kW a1 aL iS hs aX jr;go_wp2;go_roundw;case rel=>
      exact⟨q+1,c',ys.set lj d,by omega,dY,rfl,by go_num,G9.out,by rw[mh];exact aa8.out,SX.out.set lj hL,fun j bP=>by rw[o.getD_set_ne (by have:=kN.out;omega)];exact aa9.out j bP,I (by rw[←kN.out];exact kk.out),bu.out⟩
     case measure=>simp[RowKit.intOf];omega
    ·obtain rfl:q=m:=by omega
     have hU:k+q<ys.length:=by rw[eH];omega
     have gz:=cj.cell hU;have lA:=cj.free (k+q);have S3:=eo (k+q) (aC _);rw[S3] at gz;have S4:=o.CD ys (k+q) df hU;rw[S3,oQ,jd] at S4;have nI:aj (o.num (ys.set (k+q) df)=o.num (fk.take (k+1))*o.num iw):=I (by
      have ae:=p4.out;rw[fp (by rw[di.out];exact aC _),jj.out] at ae;rw[S4,ae,qT.out,ff,cE])
     have XB:(df:Int)%4294967296=(df:Int):=by omega
     have S0:IntKind.i64.wrap ((k:Int)+(q:Int))=((k+q:Nat):Int):=by rw[sb];omega
     have S1:(k:Int)+(q:Int)=((k+q:Nat):Int):=by omega
     have G9:=I (uV.out.set (k+q) df);have bu:=I (bL.out.setCell (p:=⟨g,k+q,J⟩) (aC g) (.int .u32 (df:Nat)));have S2:k+q<n+q:=by omega
     obtain⟨lj,jr⟩:∃p,k+q=p:=⟨_,rfl⟩;rw[jr] at gz lA S0 S1 G9 bu S2 nI;have kN:=I jr;clear cj eH f' eo ad hU S4 S3 jr;go_wp2;go_roundw;case rel=>
      exact⟨k+1,ys.set lj df,by omega,by go_num,G9.out,by rw[mh];exact aa8.out,SX.out.set lj mj,fun j bP=>by rw[o.getD_set_ne (by have:=kN.out;omega)];exact aa9.out j (by omega),nI,bu.out⟩
     case measure=>simp[RowKit.intOf];omega
  ·obtain rfl:k=n:=by omega
   have aba:o.num zs=V:=by
    rw[jj.out,fp (by rw[bU.out];exact aC _)];exact cM.out
   have bc:=I (qv _ _ wr (pN.out.rd (cap:=k+m) (by rw[lV.out];exact aC _)) (by rw[lV.out];omega));have et:=I (o.tC mZ.out aba);rw[lV.out] at bc;clear cj eH f' eo ad aba;go_wp2_with fail;refine bc.out.mono ?_;rintro e cc ⟨v3,rfl,kg,rfl⟩;rw[et.out] at kg;have kX:=I kg;obtain⟨yi,rc,rfl⟩:=kg.form;clear kg;go_wp2;go_ret;exact⟨_,rfl,kX.out,by rw[ly.out];exact ay.out⟩
namespace o
theorem abd {ys:List Nat} {i d:Nat}:(ys.set i d).take i=ys.take i:=NG (aC i)
theorem abe {ys:List Nat} {i d:Nat} (h:i<ys.length):(ys.set i d).getD i 0=d:=by
 rw[e5,Nx h];rfl
theorem abf {us vs ys:List Nat} {i c b d lo c' b' g:Nat} (aV:i<ys.length) (h:num (ys.take i)+g*num (vs.take i)=num (us.take i)+4294967296^i*(c+b)) (aL:us.getD i 0+4294967296*b'=d+lo+b) (a1:g*vs.getD i 0+c=lo+4294967296*c') :
 num ((ys.set i d).take (i+1))+g*num (vs.take (i+1))=num (us.take (i+1))+4294967296^(i+1)*(c'+b'):=by
 rw[mY,mY,mY,abd,abe aV,ei];generalize us.getD i 0=u at *;generalize vs.getD i 0=v at *;have aH:g*(num (vs.take i)+4294967296^i*v)=g*num (vs.take i)+4294967296^i*(g*v):=by
  rw[fP];congr 1;ac_rfl
 have aT:c+b+d+g*v=u+4294967296*(c'+b'):=by omega
 have b8:4294967296^i*(c+b)+4294967296^i*d+4294967296^i*(g*v)=4294967296^i*u+4294967296^i*(4294967296*(c'+b')):=by
  rw[←fP,←fP,←fP,aT]
 rw[aH,cE];omega
theorem abg {us vs ys:List Nat} {i k d k':Nat} (aV:i<ys.length) (h:num (ys.take i)+4294967296^i*k=num (us.take i)+num (vs.take i)) (aL:us.getD i 0+vs.getD i 0+k=d+4294967296*k') :
 num ((ys.set i d).take (i+1))+4294967296^(i+1)*k'=num (us.take (i+1))+num (vs.take (i+1)):=by
 rw[mY,mY,mY,abd,abe aV,ei];generalize us.getD i 0=u at *;generalize vs.getD i 0=v at *;have b8:4294967296^i*u+4294967296^i*v+4294967296^i*k=4294967296^i*d+4294967296^i*(4294967296*k'):=by
  rw[←fP,←fP,←fP,aL]
 rw[cE];omega
theorem amg {P N bo V g q b:Nat} (cA:0<V) (cW:N<P) (lB:bo<P) (ad:b≤1) (h:N+g*V=bo+P*b) (aa:bo/V≤g) (ae:g≤bo/V+1) (aE:bo/V=q):(b=0→g=q∧N=bo%V)∧(b=1→g=q+1∧N+V=bo%V+P):=by
 have u4:=ky bo V;rw[aE] at u4 aa ae;have hm:=eW bo cA;rw[dx V q] at u4;have aY:g=q∨g=q+1:=by omega
 constructor
 ·intro e;subst e;rcases aY with rfl | rfl
  ·exact⟨rfl,by omega⟩
  ·rw[ff,fW] at h;omega
 ·intro e;subst e;rcases aY with rfl | rfl
  ·omega
  ·rw[ff,fW] at h;exact⟨rfl,by omega⟩
theorem amh {P F N bo V k:Nat} (cA:bo%V<P) (hF:F<P) (aA:k≤1) (h:F+P*k=N+V) (cW:N+V=bo%V+P):F=bo%V:=by
 have:k=0∨k=1:=by omega
 rcases this with rfl | rfl<;>omega
theorem ami (us:List Nat) (m:Nat) (h:us.length=m+3):num us=((us.getD (m+2) 0*4294967296+us.getD (m+1) 0)*4294967296+us.getD m 0)*4294967296^m+num (us.take m):=by
 have aa:=mY us m;have ae:=mY us (m+1);have aJ:=mY us (m+2);rw[fp (by omega:us.length≤m+2+1)] at aJ;rw[aJ,ae,aa,ei,ei,ei];generalize us.getD (m+2) 0=a;generalize us.getD (m+1) 0=b;generalize us.getD m 0=c;generalize num (us.take m)=r;generalize 4294967296^m=C;rw[ff,ff,ff];have aH:C*4294967296*4294967296*a=a*4294967296*4294967296*C:=by ac_rfl
 have aT:C*4294967296*b=b*4294967296*C:=by ac_rfl
 have b8:C*c=c*C:=dx _ _;rw[aH,aT,b8];omega
theorem amj (us:List Nat) (m:Nat) (h:us.length=m+2):num us=(us.getD (m+1) 0*4294967296+us.getD m 0)*4294967296^m+num (us.take m):=by
 have aa:=mY us m;have ae:=mY us (m+1);rw[fp (by omega:us.length≤m+1+1)] at ae;rw[ae,aa,ei];generalize us.getD (m+1) 0=b;generalize us.getD m 0=c;generalize num (us.take m)=r;generalize 4294967296^m=C;rw[ff];have aT:C*4294967296*b=b*4294967296*C:=by ac_rfl
 have b8:C*c=c*C:=dx _ _;rw[aT,b8];omega
theorem amk {us vs:List Nat} {m:Nat} (hu:us.length=m+3) (aD:vs.length=m+2) (S6:dI us) (ib:dI vs) (half:2147483648≤vs.getD (m+1) 0) (bV:num us<num vs*4294967296) :
 abb.h9 4294967296 (4294967296^m) (us.getD (m+2) 0) (us.getD (m+1) 0) (us.getD m 0) (num (us.take m)) (vs.getD (m+1) 0) (vs.getD m 0) (num (vs.take m)) (num us) (num vs) where
 c:=dK (by decide)
 u:=ami us m hu
 v:=amj vs m aD
 mE:=by
  have:=n9 (S6.take m);rwa[gN,h2 (by omega)] at this
 jD:=by
  have:=n9 (ib.take m);rwa[gN,h2 (by omega)] at this
 cd:=ia S6 _
 cF:=ia S6 _
 fw:=ia ib _
 lP:=ia ib _
 half:=by omega
 lt:=bV
end o
namespace o
theorem aml {pre us post:List Nat} {p i:Nat} (hp:pre.length=p) (aV:i<us.length):(pre++(us++post)).getD (p+i) 0=us.getD i 0:=by
 subst hp;rw[e5,e5,Bx (by omega),show pre.length+i-pre.length=i by omega,II aV]
theorem amm {pre us post:List Nat} {p i d:Nat} (hp:pre.length=p) (aV:i<us.length):(pre++(us++post)).set (p+i) d=pre++(us.set i d++post):=by
 subst hp;rw[Nz _ _ (by omega),show pre.length+i-pre.length=i by omega,List.set_append_left _ _ aV]
end o
theorem abh (u:Nat) {v:Nat} (aD:v<4294967296):u*4294967296 ||| v=u*4294967296+v:=by
 have h:=oJ (i:=32) (b:=v) aD u;rw[dx (2^32) u] at h;exact h.symm
theorem amn {a b:Nat} (aS:a<18446744073709551616) (ad:b<18446744073709551616) (kW:a ||| b<18446744073709551616):bits .or .u64 (a:Int) (b:Int)=((a ||| b:Nat):Int):=by
 have kA:(2:Nat)^IntKind.u64.bits=18446744073709551616:=rfl;have hw:∀n:Nat,n<18446744073709551616→IntKind.u64.wrap (n:Int)=n:=fun n aB=>by rw[ha];omega
 simp only[bits,oK,vL,ns,kA];rw[eF aS,eF ad,hw _ kW]
theorem abi {u v:Nat} (hu:u<4294967296) (aD:v<4294967296):bits .or .u64 ((u:Int)*4294967296) (v:Int)=((u*4294967296+v:Nat):Int):=by
 have aH:(u:Int)*4294967296=((u*4294967296:Nat):Int):=by rw[Oh];rfl
 rw[aH,amn (by omega) (by omega) (by rw[abh u aD];omega),abh u aD]
structure oA (w:af) (g:Nat) (pre us post:List Nat) (p n N:Nat):Prop where
 row:fc w g (pre++(us++post))
 hp:pre.length=p
 aB:us.length=n
 cW:p+n+post.length=N
 ws:o.dI us
theorem oA.cell {w:af} {g:Nat} {pre us post:List Nat} {p n N:Nat} (h:oA w g pre us post p n N) {i:Nat} (aV:i<n):w.cell? ⟨g,p+i,J⟩=U (.int .u32 (us.getD i 0:Nat)):=by
 have aa:=h.row.cell (k:=p+i) (by rw[ey,ey,h.hp,h.aB];omega);rwa[o.aml h.hp (by rw[h.aB];exact aV)] at aa
theorem oA.set {w:af} {g:Nat} {pre us post:List Nat} {p n N:Nat} (h:oA w g pre us post p n N) {i d:Nat} (aV:i<n) (aL:d<4294967296):oA (w.setCell ⟨g,p+i,J⟩ (.int .u32 (d:Nat))) g pre (us.set i d) post p n N:=by
 have aa:=h.row.set (p+i) d;rw[o.amm h.hp (by rw[h.aB];exact aV)] at aa;exact⟨aa,h.hp,by rw[mh];exact h.aB,h.cW,h.ws.set i aL⟩
theorem oA.drew {w:af} {g:Nat} {pre us post:List Nat} {p n N:Nat} (h:oA w g pre us post p n N):oA w.drew g pre us post p n N:=⟨h.row,h.hp,h.aB,h.cW,h.ws⟩
structure lk (g:Nat) (w w':af):Prop where
 low:ah g w w'
 rest:∀k,k≠g→w'.heap[k]? = w.heap[k]?
theorem lk.refl (g:Nat) (w:af):lk g w w:=⟨aK _ _,fun _ _=>rfl⟩
theorem lk.drew {g:Nat} {a w:af} (h:lk g a w):lk g a w.drew:=⟨h.low.drew,h.rest⟩
theorem lk.setCell {g:Nat} {a w:af} (h:lk g a w) {p:Addr} (hp:p.block=g) (u:Value):lk g a (w.setCell p u):=
 ⟨h.low.setCell (by omega) u,fun k aA=>by rw[←h.rest k aA];simp only[World.setCell,lp];rw[aU (by omega)]⟩
theorem lk.cell {g:Nat} {w w':af} (h:lk g w w') {p:Addr} (hp:p.block<g):w'.cell? p=w.cell? p:=h.low.cell hp
namespace o
theorem Dl (xs:List Nat) {k:Nat} (h:k≤xs.length):num xs=num (xs.take k)+4294967296^k*num (xs.drop k):=by
 have:=xW (xs.take k) (xs.drop k);rwa[xi,gN,h2 h] at this
structure rU (us cur qs:List Nat) (V k:Nat):Prop where
 ws:dI cur
 len:cur.length=us.length
 low:cur.take k=us.take k
 rest:num (cur.drop k)=num (us.drop k)%V
 quo:num (qs.drop k)=num (us.drop k)/V
theorem rU.start {us qs:List Nat} {V k:Nat} (hw:dI us) (h:num (us.drop k)<V) (aE:num (qs.drop k)=0):rU us us qs V k:=
 ⟨hw,rfl,rfl,(eF h).symm,by rw[aE,nu h]⟩
theorem rU.open {us cur qs:List Nat} {V j n:Nat} (h:rU us cur qs V (j+1)) (hu:dI us) (cA:V<4294967296^n) (pR:0<V) (bP:j+n<us.length) :
 ∃pre mid post,cur=pre++(mid++post)∧pre.length=j∧mid.length=n+1∧j+(n+1)+post.length=us.length∧dI mid∧num post=0∧dI post∧pre=us.take j∧num mid=us.getD j 0+4294967296*(num (us.drop (j+1))%V)∧num mid<V*4294967296:=by
 have ao:=h.len;have p2:j<cur.length:=by omega
 have amr:cur.getD j 0=us.getD j 0:=by
  have aa:=eS (fun l=>l.getD j 0) h.low;simpa[e5,rb] using aa
 have aH:=Aa cur j p2;rw[h.rest,amr] at aH;have aF:num (us.drop (j+1))%V<V:=eW _ pR;have hx:=ia hu j;have aT:=Dl (cur.drop (j+1)) (k:=n) (by rw[zo];omega);rw[sf,h.rest] at aT;have aX:num (cur.drop (j+1+n))=0:=by
  rcases kd (num (cur.drop (j+1+n)))with ar | ar
  ·exact ar
  ·have:=gp (4294967296^n) ar;omega
 have b8:=Dl (cur.drop j) (k:=n+1) (by rw[zo];omega);rw[sf,show j+(n+1)=j+1+n by omega,aX,oQ,jd,aH] at b8;refine⟨cur.take j,(cur.drop j).take (n+1),cur.drop (j+1+n),?_,?_,?_,?_,(h.ws.drop _).take _,aX,h.ws.drop _,?_,b8.symm,?_⟩
 ·have:(cur.drop j).drop (n+1)=cur.drop (j+1+n):=by rw[sf];congr 1;omega
  rw[←this,xi,xi]
 ·rw[gN];omega
 ·rw[gN,zo];omega
 ·rw[zo];omega
 ·have aa:=eS (List.take j) h.low;rwa[OD,OD,h2 (by omega)] at aa
 ·rw[←b8];have aJ:(num (us.drop (j+1))%V+1)*4294967296≤V*4294967296:=fD _ aF;omega
theorem rU.next {us cur qs pre mid post LL:List Nat} {V j n:Nat} (h:rU us cur qs V (j+1)) (pR:0<V) (bP:j+n<us.length) (aE:j<qs.length) (e:cur=pre++(mid++post)) (hp:pre.length=j) (fE:pre=us.take j) (hm:mid.length=n+1) (aX:num post=0)
 (aB:num mid=us.getD j 0+4294967296*(num (us.drop (j+1))%V)) (hd:LL.length=n+1) (hw:dI LL) (qt:num LL=num mid%V) :
 rU us (pre++(LL++post)) (qs.set j (num mid/V)) V j:=by
 have ao:=h.len;have G8:dI post:=fun x hx=>h.ws x (by rw[e];simp[hx]);have ams:dI pre:=fun x hx=>h.ws x (by rw[e];simp[hx]);have p2:j<us.length:=by omega
 have aH:=Aa us j p2;have aL:num (us.drop j)=V*(4294967296*(num (us.drop (j+1))/V))+num mid:=by
  have:=ky (num (us.drop (j+1))) V;rw[aB,aH];have ae:4294967296*(V*(num (us.drop (j+1))/V)+num (us.drop (j+1))%V)=V*(4294967296*(num (us.drop (j+1))/V))+4294967296*(num (us.drop (j+1))%V):=by
   rw[fP];congr 1;ac_rfl
  rw[this] at ae;omega
 refine⟨?_,?_,?_,?_,?_⟩
 ·intro x hx;simp only[I7] at hx;rcases hx with hx | hx | hx
  ·exact ams x hx
  ·exact hw x hx
  ·exact G8 x hx
 ·rw[←ao,e];simp[hm,hd]
 ·rw[Nl (by omega),fp (by omega),fE]
 ·rw[Nk (by omega),zd (by omega),se,xW,aX,oQ,jd,qt,aL,Nat.mul_add_mod]
 ·rw[Aa _ j (by rw[mh];exact aE),show (qs.set j (num mid/V)).drop (j+1)=qs.drop (j+1) from BF (by omega),h.quo,e5,Nx aE,aL,Nat.mul_add_div pR];simp only[Option.getD_some];omega
theorem amt {V m:Nat} (pR:0<V) (hm:m<V*4294967296):m/V<4294967296:=by
 rw[kQ pR,dx];exact hm
theorem rU.done {us cur qs:List Nat} {V n bo:Nat} (h:rU us cur qs V 0) (lB:num us=bo) (cA:V<4294967296^n) (pR:0<V) (aB:n≤cur.length):num qs=bo/V∧num (cur.take n)=bo%V:=by
 have aa:=h.rest;have ae:=h.quo;simp only[xu] at aa ae;rw[lB] at aa ae;refine⟨ae,?_⟩;have e:=Dl cur aB;have aF:bo%V<V:=eW _ pR;have aX:num (cur.drop n)=0:=by
  rcases kd (num (cur.drop n))with ar | ar
  ·exact ar
  ·have:=gp (4294967296^n) ar;omega
 rw[aX,oQ,jd] at e;rw[←e,aa]
theorem amu {V n:Nat} (aa:4294967296^n≤V) (ae:V<4294967296^(n+1)):(wd V).length=n+1:=by
 have ar:wd V≠[]:=fun e=>by
  have:=eA V;rw[e] at this;simp[num] at this;have:=dK (n:=n) (show 0<4294967296 by decide);omega
 have aS:=F7 (uT V) ar;have ad:=n9 (fa V);rw[eA] at aS ad;have ao:0<(wd V).length:=List.length_pos_iff.2 ar;have bD:(wd V).length-1<n+1:=(BA (a:=4294967296) (by decide)).1 (gQ aS ae);have cX:n<(wd V).length:=(BA (a:=4294967296) (by decide)).1 (gQ aa ad);omega
theorem amv {B n t L:Nat} (aB:(wd B).length=n+1) (bn:(wd B).getD n 0=t) (aa:2^(L-1)≤t) (ae:t<2^L) (S':0<L) (hH:L≤32) :
 (wd (B*2^(32-L))).length=n+1∧2147483648≤(wd (B*2^(32-L))).getD n 0∧B*2^(32-L)<4294967296^(n+1)∧4294967296^n*2^(32-L)≤B*2^(32-L):=by
 have e:=Dl (wd B) (k:=n) (by omega);have nm:=Aa (wd B) n (by omega);rw[show (wd B).drop (n+1)=[] from zd (by omega),bn] at nm;rw[nm,eA] at e;simp only[num,oQ,jd] at e;have jg:=n9 ((fa B).take n);rw[gN,h2 (by omega)] at jg;obtain⟨P,hI⟩:∃P,4294967296^n=P:=⟨_,rfl⟩;obtain⟨s,a1⟩:∃s,2^(32-L)=s:=⟨_,rfl⟩;have axA:0<P:=by rw[←hI];exact dK (by decide)
 have oC:0<s:=by rw[←a1];exact ez _
 have dH:2^L*s=4294967296:=by rw[←a1,←cm,show L+(32-L)=32 by omega]
 have dY:2^(L-1)*s=2147483648:=by rw[←a1,←cm,show L-1+(32-L)=31 by omega]
 rw[hI] at e jg;rw[a1,hI,ei,hI];have rr:1≤t:=by have:=ez (L-1);omega
 have cd:P*t≤B:=by omega
 have cF:B<P*(t+1):=by rw[fP];omega
 have c1:P*2147483648≤B*s:=by
  calc P*2147483648=P*(2^(L-1)*s):=by rw[dY]
   _≤P*(t*s):=gp _ (fD _ aa)
   _=P*t*s:=(cE _ _ _).symm
   _≤B*s:=fD _ cd
 have c2:B*s<P*4294967296:=by
  calc B*s<P*(t+1)*s:=jG cF oC
   _=P*((t+1)*s):=cE _ _ _
   _≤P*(2^L*s):=gp _ (fD _ ae)
   _=P*4294967296:=by rw[dH]
 have hlen:(wd (B*s)).length=n+1:=amu (by rw[hI];exact cp (by omega) c1) (by rw[ei,hI];exact c2);refine⟨hlen,?_,c2,?_⟩
 ·have f:=Dl (wd (B*s)) (k:=n) (by omega);have fd:=Aa (wd (B*s)) n (by omega);rw[show (wd (B*s)).drop (n+1)=[] from zd (by omega)] at fd;rw[fd,eA,hI] at f;simp only[num,oQ,jd] at f;have amw:=n9 ((fa (B*s)).take n);rw[gN,h2 (by omega),hI] at amw;generalize (wd (B*s)).getD n 0=x at *;rcases eh x 2147483648 with hx | hx
  ·have:=gp P (show x+1≤2147483648 from hx);rw[fP] at this;omega
  ·exact hx
 ·have:P*s≤P*t*s:=by
   rw[cE];exact gp _ (V6 _ rr)
  exact cp this (fD _ cd)
theorem amx {A B s k G' nB:Nat} {us:List Nat} (aA:k+nB=G'+1) (aa:1≤nB) (be:A<4294967296^G') (az:4294967296^(nB-1)≤B) (a1:0<s) (hu:num us=A*s) (ao:us.length=G'+1):num (us.drop k)<B*s:=by
 have e:=Dl us (k:=k) (by omega);rw[hu] at e;have ae:4294967296^k*num (us.drop k)≤A*s:=by omega
 have aJ:A*s<4294967296^G'*s:=jG be a1;have bQ:4294967296^G'=4294967296^k*4294967296^(nB-1):=by rw[←cm];congr 1;omega
 rw[bQ,cE] at aJ;have dm:4294967296^k*num (us.drop k)<4294967296^k*(4294967296^(nB-1)*s):=gQ ae aJ;have ga:=Nq dm;exact cv ga (fD _ az)
end o
namespace o
def oB:List Nat→Nat→List Nat
 | [],_=>[]
 | x::xs,c=>(4294967295-x+c)%4294967296::oB xs ((4294967295-x+c)/4294967296)
theorem S7:∀(xs:List Nat) (c:Nat),(oB xs c).length=xs.length
 | [],_=>rfl
 | _::xs,_=>by simp only[oB,ch,S7 xs]
theorem S8:∀(xs:List Nat) (c:Nat),dI (oB xs c)
 | [],_=>by intro x hx;cases hx
 | x::xs,c=>by
   intro y aW;simp only[oB,uB] at aW;rcases aW with rfl | aW
   ·exact eW _ (by decide)
   ·exact S8 xs _ y aW
end o
theorem amo {x:Nat} (hx:x<4294967296):bits .xor .u32 (if IntKind.u32.signed=ai then -1 else IntKind.u32.max) (x:Int)=((4294967295-x:Nat):Int):=Rb hx
theorem abj (g N cap:Nat) (zs:List Nat) (w:af) (cj:fc w g zs) (cW:zs.length=N) (agZ:N≤10000) (f':o.dI zs) :
 aq ak 133 #[.slice (U ⟨g,0,J⟩) N cap] w fun e w'=>e=.returned (.tuple #[])∧fc w' g (o.oB zs 1)∧lk g w w':=by
 have fF:=I cj;have mZ:=I f';have bU:=I cW;clear cj f' cW;go_enter func133,ntmps133;go_wp2;go_loopw [2,8] (fun c i wr=>∃(k df:Nat) (pre post:List Nat),k≤N∧df≤1∧c=.int .u64 df∧i=.int .i64 k∧fc wr g (pre++post)∧pre.length=k∧k+post.length=N∧aj (o.dI post)∧aj (pre++o.oB post df=o.oB zs 1)∧lk g w wr) (fun _ i _=>N-(RowKit.intOf i).toNat);case atStart=>exact⟨0,1,[],zs,il _,aC _,rfl,rfl,fF.out,rfl,by rw[hc];exact bU.out,mZ,I rfl,lk.refl _ _⟩
 case round=>
  obtain⟨k,df,pre,post,aA,mj,rfl,rfl,cj,hP,S9,f',hinv,ad⟩:=hrel;have ay:=I ad;have bG:=I cj;have qW:=I hP;by_cases bV:k<N
  ·obtain⟨x,post,rfl⟩:∃x l,post=x::l:=by
    cases post with
    | nil=>simp at S9;omega
    | cons x l=>exact⟨x,l,rfl⟩
   have hx:x<4294967296:=f'.out x (by simp);have gz:wr.cell? ⟨g,k,J⟩=U (.int .u32 (x:Nat)):=by
    have aa:=cj.cell (k:=k) (by rw[ey];simp only[ch] at *;omega);rwa[e5,Bx (by omega),hP,oR] at aa
   have lA:=cj.free k;have SZ:=amo hx;obtain⟨s,a1⟩:∃s,4294967295-x+df=s:=⟨_,rfl⟩;have o':s<8589934592:=by omega
   have dY:((4294967295-x:Nat):Int)+(df:Int)=(s:Int):=by omega
   have uV:=I (show fc (wr.setCell ⟨g,k,J⟩ (.int .u32 ((s%4294967296:Nat):Int))) g ((pre++[s%4294967296])++post) from by
    have aa:=cj.set k (s%4294967296);rwa[Nz _ _ (by omega),hP,oR,List.set_cons_zero,show pre++(s%4294967296)::post=(pre++[s%4294967296])++post by simp] at aa)
   have bu:=I (ad.setCell (p:=⟨g,k,J⟩) rfl (.int .u32 ((s%4294967296:Nat):Int)));have amp:=I (show (pre++[s%4294967296])++o.oB post (s/4294967296)=o.oB zs 1 from by
    rw[←hinv.out,←a1];simp[o.oB])
   have amq:=I (show o.dI post from fun y aW=>f'.out y (BE _ aW));clear cj ad hinv f' hx hP;simp only[ch] at S9;go_wp2;go_roundw;case rel=>
    exact⟨k+1,s/4294967296,pre++[s%4294967296],post,by omega,by omega,by go_num,by go_num,uV.out,by rw[ey,qW.out];rfl,by omega,amq,amp,bu.out⟩
   case measure=>simp[RowKit.intOf];omega
  ·obtain rfl:k=N:=by omega
   have ar:post=[]:=List.length_eq_zero_iff.1 (by omega);subst ar;have qw:=I (show fc wr g (o.oB zs 1) from by
    rw[←hinv.out];simpa[o.oB] using cj)
   clear cj ad hinv f' hP S9;go_wp2;go_end0;exact⟨rfl,qw.out,ay.out⟩
theorem apm (M:Int) (k:Nat) (w:af) (dy:M.natAbs≤9223372036854775808) (aA:k≤2000) :
 aq ak 41 #[bz M,.int .i64 k] w fun e w'=>e=.returned (.tuple #[bz (M*2^k),.int .i64 0])∧ah w.heap.size w w':=by
 have hp:(9223372036854775808:Nat)*2^k<256^4096:=by
  obtain⟨n,aB⟩:∃n,n=4096:=⟨_,rfl⟩;have aH:(256:Nat)^n=2^(8*n):=by rw[mi]
  rw[←aB,aH,show (9223372036854775808:Nat)=2^63 by decide,←cm];exact Nat.pow_lt_pow_right (by decide) (by omega)
 have cA:M.natAbs*2^k<256^4096:=gQ (fD _ dy) hp;have pR:M.natAbs<256^4096:=gQ (Nu _ (dK (by decide))) cA;have h:=Rf (au (M<0)) (o.bs M.natAbs) k w (o.oa pR) (o.Ah pR (by simp;omega)) (by omega) (by rw[o.CJ];exact o.oa cA);refine h.mono ?_;rintro e w' ⟨rfl,az⟩;refine⟨?_,az⟩;rw[o.CJ,o.sy];unfold bz;have Kq:(0:Int)<2^k:=Int.pow_pos (by decide);have ayF:0<2^k:=dK (by decide);have aH:(M*2^k).natAbs=M.natAbs*2^k:=by rw[Jb,Int.natAbs_pow];rfl
 have aT:au (M*2^k<0)=(au (M<0) && !decide (M.natAbs*2^k=0)):=by
  by_cases aB:M<0
  ·rw[bE (Nr aB Kq),bE aB,bx (by intro ar;rcases Nat.mul_eq_zero.1 ar with ar | ar<;>omega)];rfl
  ·rw[bx (by have:=EM (show 0≤M by omega) (Jj Kq);omega),bx aB];rfl
 rw[aH,aT]
theorem acV (a b f c:Nat) (e M t:Int) (w:af) (aS:a<18446744073709551616) (bd:a%9223372036854775808<9218868437227405312) (ad:av.j0 a=b) (hx:Mn b f e) (A3:f<18446744073709551616) (an:av.lr f 53=c)
 (dy:floatToIntVal .f64 c .i64=U M) (ayG:M.natAbs≤9007199254740992) (ayH:-2000≤e∧e≤2000) (rr:e<53→floatToIntVal .f64 b .i64=U t∧t.natAbs≤9007199254740992) (Ui:53≤e→t=M*2^(e-53).toNat) :
 aq ak 93 #[.int .u64 a] w fun bm w'=>bm=.returned (.tuple #[bz t,.int .i64 0])∧ah w.heap.size w w':=by
 have mG:av.dC a=ab:=by simp[av.dC];omega
 have bZ:=I (fun w=>FI a aS w);rw[bE bd] at bZ;have bc:=I (fun w=>acT a w mG);rw[ad] at bc;have b9:=I hx;have cD:=I (fun w=>Uh f 53 w A3 (by omega));rw[an] at cD;have zZ:=fun w=>Wa (P:=ak) (w:=w) 102 2 .f64 .i64 c M (by kernel_rfl) (by kernel_rfl) dy;have bF:=I (fun w=>Kg M w (by omega) (by omega));rw[KG (by omega) (by omega)] at bF;obtain⟨k,aA⟩:∃k:Nat,max (e-53) 0=k:=⟨(e-53).toNat,by omega⟩;have aN:=I (fun w=>apm M k w (by omega) (by omega));by_cases he:e<53
 ·obtain⟨aE,ayI⟩:=rr he;have FU:=fun w=>Wa (P:=ak) (w:=w) 102 2 .f64 .i64 b t (by kernel_rfl) (by kernel_rfl) aE;have sq:=I (fun w=>Kg t w (by omega) (by omega));rw[KG (by omega) (by omega)] at sq;clear rr Ui aE dy an hx ad bd;go_enter func93,PF;go_wp2_with (first | (refine (h3 _ _).mono ?_;rintro e w' ⟨rfl,rfl⟩) | (refine (bZ.out _).mono ?_;rintro e w' ⟨rfl,rfl⟩) | (refine (bc.out _).mono ?_;rintro e w' ⟨rfl,rfl⟩) | (refine (b9.out _).mono ?_;rintro e w' ⟨rfl,rfl⟩) | (refine (cD.out _).mono ?_;rintro e w' ⟨rfl,rfl⟩));refine (bF.out _).mono ?_;rintro lG aP ⟨rfl,az⟩;have dP:ah (w.heap.size+1) (w.alloc (.cells #[.bool ab,.string ⟨#[]⟩] 46)) aP:=az.mono (by simp);have bS:aP.heap[w.heap.size]? = U (.cells #[.bool ab,.string ⟨#[]⟩] 46):=by rw[dP.block _ (by omega)];exact fX _ _
  have eY:=I (show ah w.heap.size w aP from ((aK _ _).alloc (aC _) _).trans (dP.mono (by omega)));have bG:=I bS;clear az dP bS;have dd:=I (show bz M=.agg #[.bool (au (M<0)),.string (ax (o.bs M.natAbs))] from rfl);rw[dd.out];generalize au (M<0)=g at dd ⊢;generalize ax (o.bs M.natAbs)=S at dd ⊢;go_wp2_with fail;rw[←dd.out];refine (aN.out _).mono ?_;rintro lG cc ⟨rfl,hf⟩;have A4:ah aP.heap.size aP cc:=((aK _ _).alloc (aC _) _).trans (hf.mono (by simp));have kX:=I (show cc.heap[w.heap.size]? = U (.cells #[.bool ab,.string ⟨#[]⟩] 46) by rw[A4.block _ (Array.getElem?_eq_some_iff.1 bG.out).1];exact bG.out);have Mo:=I (eY.out.trans (A4.mono eY.out.size));clear dd hf A4 eY bG;have dd:=I (show bz (M*2^k)=.agg #[.bool (au (M*2^k<0)),.string (ax (o.bs (M*2^k).natAbs))] from rfl);rw[dd.out];generalize au (M*2^k<0)=g1 at dd ⊢;generalize ax (o.bs (M*2^k).natAbs)=qx at dd ⊢;go_wp2_with (first | (refine (bc.out _).mono ?_;rintro e w' ⟨rfl,rfl⟩));refine (sq.out _).mono ?_;rintro lG aQ ⟨rfl,j2⟩;obtain⟨q3,hf⟩:∃q3,cc.heap.size=q3:=⟨_,rfl⟩;have Mp:ah (q3+1) (cc.alloc (.cells #[.bool g1,.string qx] 46)) aQ:=j2.mono (by simp;omega);have bV:w.heap.size<q3:=by rw[←hf];exact (Array.getElem?_eq_some_iff.1 kX.out).1
  have HQ:aQ.heap[q3]? = U (.cells #[.bool g1,.string qx] 46):=by rw[Mp.block _ (by omega),←hf];exact fX _ _
  have HR:aQ.heap[w.heap.size]? = U (.cells #[.bool ab,.string ⟨#[]⟩] 46):=by rw[Mp.block _ (by omega),((aK cc.heap.size cc).alloc (aC _) _).block _ (by omega)];exact kX.out
  have apn:=I (show ah w.heap.size w aQ from Mo.out.trans (((aK _ _).alloc (qf (by omega)) _).trans (Mp.mono (by omega))));have a0:aQ.cell? ⟨q3,0,J⟩=U (.bool g1):=by simp[World.cell?,HQ]
  have b1:aQ.cell? ⟨q3,1,J⟩=U (.string qx):=by simp[World.cell?,HQ]
  have ayJ:aQ.frozen? ⟨q3,0,J⟩=ab:=by simp[World.frozen?,HQ]
  have ayK:aQ.frozen? ⟨q3,1,J⟩=ab:=by simp[World.frozen?,HQ]
  have cl:aQ.cell? ⟨w.heap.size,0,J⟩=U (.bool ab):=by simp[World.cell?,HR]
  have bH:aQ.cell? ⟨w.heap.size,1,J⟩=U (.string ⟨#[]⟩):=by simp[World.cell?,HR]
  have f0:aQ.frozen? ⟨w.heap.size,0,J⟩=ab:=by simp[World.frozen?,HR]
  have f1:aQ.frozen? ⟨w.heap.size,1,J⟩=ab:=by simp[World.frozen?,HR]
  have dT:q3≠w.heap.size:=by omega
  have apo:w.heap.size≠q3:=by omega
  clear kX Mo j2 Mp dd HQ HR;have dd:=I (show bz t=.agg #[.bool (au (t<0)),.string (ax (o.bs t.natAbs))] from rfl);rw[dd.out];generalize au (t<0)=g2 at dd ⊢;generalize ax (o.bs t.natAbs)=nH at dd ⊢;go_wp2_with fail;obtain⟨_,_,Mq⟩:=mo aQ q3 (.bool g2) (.string nH) a0 b1;generalize (aQ.setCell ⟨q3,0,J⟩ (.bool g2)).setCell ⟨q3,1,J⟩ (.string nH)=cf at Mq ⊢;have jW:cf.cell? ⟨w.heap.size,0,J⟩=U (.bool ab):=by rw[Mq.cell (p:=⟨w.heap.size,0,J⟩) bV];exact cl
  have s1:cf.cell? ⟨w.heap.size,1,J⟩=U (.string ⟨#[]⟩):=by rw[Mq.cell (p:=⟨w.heap.size,1,J⟩) bV];exact bH
  obtain⟨aM,aG,gw⟩:=mo cf w.heap.size (.bool g2) (.string nH) jW s1;refine bI (v:=.tuple #[.agg #[.bool g2,.string nH],.int .i64 0]) (by simp[bK,OK,go_sem,aM,aG]) rfl ⟨by rw[dd.out],(apn.out.trans (Mq.mono (by omega))).trans gw⟩
 ·have bn:=Ui (by omega);have Mr:k=(e-53).toNat:=by omega
  rw[←Mr] at bn;rw[bn];clear rr Ui bn dy an hx ad bd Mr;go_enter func93,PF;go_wp2_with (first | (refine (h3 _ _).mono ?_;rintro e w' ⟨rfl,rfl⟩) | (refine (bZ.out _).mono ?_;rintro e w' ⟨rfl,rfl⟩) | (refine (bc.out _).mono ?_;rintro e w' ⟨rfl,rfl⟩) | (refine (b9.out _).mono ?_;rintro e w' ⟨rfl,rfl⟩) | (refine (cD.out _).mono ?_;rintro e w' ⟨rfl,rfl⟩));refine (bF.out _).mono ?_;rintro lG aP ⟨rfl,az⟩;have dP:ah (w.heap.size+1) (w.alloc (.cells #[.bool ab,.string ⟨#[]⟩] 46)) aP:=az.mono (by simp);have bS:aP.heap[w.heap.size]? = U (.cells #[.bool ab,.string ⟨#[]⟩] 46):=by rw[dP.block _ (by omega)];exact fX _ _
  have eY:=I (show ah w.heap.size w aP from ((aK _ _).alloc (aC _) _).trans (dP.mono (by omega)));have bG:=I bS;clear az dP bS;have dd:=I (show bz M=.agg #[.bool (au (M<0)),.string (ax (o.bs M.natAbs))] from rfl);rw[dd.out];generalize au (M<0)=g at dd ⊢;generalize ax (o.bs M.natAbs)=S at dd ⊢;go_wp2_with fail;rw[←dd.out];refine (aN.out _).mono ?_;rintro lG cc ⟨rfl,hf⟩;have A4:ah aP.heap.size aP cc:=((aK _ _).alloc (aC _) _).trans (hf.mono (by simp));have kX:=I (show cc.heap[w.heap.size]? = U (.cells #[.bool ab,.string ⟨#[]⟩] 46) by rw[A4.block _ (Array.getElem?_eq_some_iff.1 bG.out).1];exact bG.out);have Mo:=I (eY.out.trans (A4.mono eY.out.size));clear dd hf A4 eY bG;have dd:=I (show bz (M*2^k)=.agg #[.bool (au (M*2^k<0)),.string (ax (o.bs (M*2^k).natAbs))] from rfl);rw[dd.out];have DI:=kX.out;have cl:cc.cell? ⟨w.heap.size,0,J⟩=U (.bool ab):=by simp[World.cell?,DI]
  have bH:cc.cell? ⟨w.heap.size,1,J⟩=U (.string ⟨#[]⟩):=by simp[World.cell?,DI]
  have f0:cc.frozen? ⟨w.heap.size,0,J⟩=ab:=by simp[World.frozen?,DI]
  have f1:cc.frozen? ⟨w.heap.size,1,J⟩=ab:=by simp[World.frozen?,DI]
  have bV:w.heap.size<cc.heap.size:=(Array.getElem?_eq_some_iff.1 DI).1;have dT:cc.heap.size≠w.heap.size:=by omega
  have apo:w.heap.size≠cc.heap.size:=by omega
  clear DI;generalize au (M*2^k<0)=g1 at dd ⊢;generalize ax (o.bs (M*2^k).natAbs)=qx at dd ⊢;go_wp2_with fail;obtain⟨aM,aG,gw⟩:=mo cc w.heap.size (.bool g1) (.string qx) cl bH;generalize (cc.setCell ⟨w.heap.size,0,J⟩ (.bool g1)).setCell ⟨w.heap.size,1,J⟩ (.string qx)=cf at aM aG gw ⊢;have dm:cc.heap.size≤cf.heap.size:=gw.size;have Ms:ah cf.heap.size cf (cf.alloc (.cells #[.bool g1,.string qx] 46)):=(aK _ _).alloc (aC _) _;have b0:(cf.alloc (.cells #[.bool g1,.string qx] 46)).cell? ⟨w.heap.size,0,J⟩=U (.bool g1):=by rw[Ms.cell (p:=⟨w.heap.size,0,J⟩) (by show w.heap.size<_;omega)];exact aM
  have bD:(cf.alloc (.cells #[.bool g1,.string qx] 46)).cell? ⟨w.heap.size,1,J⟩=U (.string qx):=by rw[Ms.cell (p:=⟨w.heap.size,1,J⟩) (by show w.heap.size<_;omega)];exact aG
  generalize cf.alloc (.cells #[.bool g1,.string qx] 46)=cw at b0 bD Ms ⊢;refine bI (v:=.tuple #[.agg #[.bool g1,.string qx],.int .i64 0]) (by simp[bK,OK,go_sem,b0,bD]) rfl ⟨by rw[dd.out],(Mo.out.trans gw).trans (Ms.mono (by omega))⟩
end Go.Proofs.YtkhphoonnkoipaaGreatDoor
