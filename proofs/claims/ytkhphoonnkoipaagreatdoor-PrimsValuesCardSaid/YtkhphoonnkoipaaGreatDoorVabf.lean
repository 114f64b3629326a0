/- Lemmas. -/
import Derived.Test.YtkhphoonnkoipaaGreatDoorVaao
import Derived.Test.YtkhphoonnkoipaaGreatDoorVaan
set_option linter.all false
set_option maxHeartbeats 4000000
set_option maxRecDepth 4000
open Go.Proofs.Tryz Go.RowKit Go.Lib
open Option renaming none→J,some→U
open Bool renaming true→ai,false→ab
open Decidable renaming decide→au
open Go renaming World→af,Calls→aq,results→bK
open Go.RowKit renaming Below→ah,Hid→aj
open Go.Proofs.Tryz renaming prog→ak
namespace Go.Proofs.YtkhphoonnkoipaaGreatDoor
theorem acw (R:Int):∃f s e,e7 R=.tuple #[.agg #[.bool f,.string s],.int .i64 e]:=by
 unfold e7;split
 ·exact⟨_,_,_,rfl⟩
 ·exact⟨_,_,_,rfl⟩
theorem acx {n V:Nat}:(o.gh (o.ec n V)).length≤n∧o.dI (o.gh (o.ec n V)):=⟨cp (Ae _) (by rw[o.wj];exact aC _),fun _ hx=>o.z7 (x9 hx)⟩
theorem anZ (A k:Int) (w:af) (be:o.bO A) (fx:-32768≤k) (fh:k≤32768) :
 aq ak 41 #[bz A,.int .i64 k] w fun e w'=>∃R,hX w R e w':=by
 have bJ:=I (fun W=>Ge A W be);have bF:=I (fun W=>yf A W be);have Hl:=o.rF _ be;obtain⟨bp,fi⟩:∃bp,au (A<0)=bp:=⟨_,rfl⟩;have aS:bz A=.agg #[.bool bp,.string (ax (o.bs A.natAbs))]:=by unfold bz cO;rw[fi]
 rw[aS] at bJ bF ⊢;rw[fi] at bF;have bc:aj (∀W v ys,b2 W v ys→ys.length≤10000→o.dI ys→∃R f s ck,e7 R=.tuple #[.agg #[.bool f,.string s],.int .i64 ck]∧aq ak 57 #[.agg #[v,.bool bp]] W fun e w'=>e=.returned (.tuple #[.agg #[.bool f,.string s],.int .i64 ck])∧ah W.heap.size W w'):=I (fun W v ys aa ae aJ=>by
  obtain⟨f,s,ck,h⟩:=acw (cy bp (o.num ys));refine⟨_,f,s,ck,h,?_⟩;have:=abT v bp ys _ W rfl aa ae aJ;unfold hX at this;rwa[h] at this)
 generalize ax (o.bs A.natAbs)=s at *;have acy:=I (o.fa A.natAbs);generalize o.wd A.natAbs=xs at *;clear aS fi be;go_enter func41,Pt;go_wp2_with fail;refine (bJ.out _).mono ?_;rintro e cq ⟨rfl,gT⟩;have tE:=I ((uX.new w bp s).below gT);obtain⟨g0,g1,_,_,_,_⟩:=tE.out.cells;clear gT;go_wp2_with fail;refine (bF.out _).mono ?_;rintro e aP ⟨v,rfl,eX,dP⟩;have x':=I (tE.out.below dP);have jh:=I eX;obtain⟨c7,o9,fj,rfl⟩:=na eX;clear dP eX tE g0 g1 bJ bF;have gv:au (k < -32768)=ab:=bx (by omega);have gq:au (32768<k)=ab:=bx (by omega);obtain⟨C,hC⟩:∃C,aP.heap.size=C:=⟨_,rfl⟩;obtain⟨aZ,bl⟩:∃aZ,aP.alloc (.cells #[.slice c7 o9 fj,.bool bp] 85)=aZ:=⟨_,rfl⟩;have hf:ah aP.heap.size aP aZ:=by rw[←bl];exact (aK _ _).alloc (aC _) _
 have wo:=I (x'.out.below hf);have ya:=I (jh.out.below hf);have Mg:aj (aI aZ C 85 (.slice c7 o9 fj) (.bool bp)):=I (by rw[←bl,←hC];exact aI.new _ _ _ _);obtain⟨cn,bY,_,_⟩:=Mg.out.cells;clear hf jh x';rcases xA k 0 with nG | pc
 ·obtain⟨K,rfl⟩:∃K:Nat,k = -(K:Int):=⟨k.natAbs,by omega⟩;have tA:au (K=0)=ab:=bx (by omega);have QL:au ((32768:Int)<(K:Int))=ab:=bx (by omega);have Rg:IntKind.u64.wrap (K:Int)=(K:Int):=pA (by omega);have cD:=I (Yn _ xs K aZ ya.out (by omega) acy.out (by omega));unfold Gz at cD;go_wp2_with fail;refine cD.out.mono ?_;rintro e aQ ⟨v4,lost,rfl,nb,j2⟩;have GA:=I (wo.out.below j2);have Hy:=I (Mg.out.below j2);have K1:=I nb;obtain⟨cZ,cT,gR,rfl⟩:=na nb;obtain⟨b0,bD,_,_⟩:=Hy.out.cells;have wY:aj ((o.shr xs K).length≤2000∧o.dI (o.shr xs K)):=I ⟨cp (Yo _ _) (by omega),fun x hx=>RN hx⟩;clear cn bY nb j2 cD wo Mg ya;by_cases TZ:lost=ai∧bp=ai
  ·obtain⟨rfl,rfl⟩:=TZ;have lW:=I (fun W v1 v2 (aa:b2 W v1 (o.shr xs K)) (ae:b2 W v2 [1])=>Xo v1 v2 _ _ W aa ae (by have:=wY.out.1;omega) (by simp) wY.out.2 (by intro x hx;simp at hx;omega));have ayB:=GA.out.low.size;have FG:aj (b2 (aQ.alloc (.cells #[.int .u32 1] 96)) (.slice (U ⟨aQ.heap.size,0,J⟩) 1 1) [1]):=I (.inr ⟨aQ.heap.size,1,rfl,by simp,by simp,fun j x bP=>by
    have Dy:j=0:=by have:=(List.getElem?_eq_some_iff.1 bP).1;simp at this;exact this
    subst Dy;simp at bP;subst bP;rw[ze];rfl⟩)
   have Mh:ah aQ.heap.size aQ (aQ.alloc (.cells #[.int .u32 1] 96)):=(aK _ _).alloc (aC _) _;have Af:=I (GA.out.below Mh);have Mi:=I (Hy.out.below Mh);have acz:=I (lW.out _ _ _ (K1.out.below Mh) FG.out);unfold x6 at acz;clear Mh;obtain⟨dO,dV,_,_⟩:=Mi.out.cells;go_wp2_with fail;refine acz.out.mono ?_;rintro e cw ⟨v6,rfl,T0,z6⟩;have an0:=I (Af.out.below z6);have an1:=I (Mi.out.below z6);have an2:(o.wd (o.num (o.shr xs K)+o.num [1])).length≤10000:=by
    have aa:=o.x4 _ wY.out.2;have ae:=wY.out.1;generalize (o.shr xs K).length=m at aa ae;have aJ:o.num (o.shr xs K)+o.num [1]<4294967296^(m+1):=by
     have bQ:o.num [1]=1:=rfl;have dm:=Nat.pow_lt_pow_right (by decide:1<4294967296) (Nat.lt_succ_self m);rw[bQ];exact gQ aa dm
    exact cp (o.An aJ) (by omega)
   obtain⟨R,rP,da,Hz,gC,yR⟩:=bc.out cw _ _ T0 an2 (o.fa _);obtain⟨ou,a',rfl⟩:=T0.form;generalize (o.wd (o.num (o.shr xs K)+o.num [1])).length=y3 at *;have T1:=I yR;have HA:=I gC;clear yR gC b0 bD dO dV T0 z6;obtain⟨b0,bD,_,_⟩:=an1.out.cells;go_wp2_with fail;refine T1.out.mono ?_;rintro e yr ⟨rfl,HB⟩;have HC:=I (an0.out.below HB);obtain⟨_,_,cl,bH,f0,f1⟩:=HC.out.cells;obtain⟨aM,aG,gw⟩:=mo yr (w.heap.size+1) (.bool rP) (.string da) cl bH;have iV:=HC.out.low.trans (gw.mono (by omega));clear HB;go_wp2;refine bI (v:=.tuple #[.agg #[.bool rP,.string da],.int .i64 Hz]) (by simp[bK,EK,go_sem,aM,aG]) rfl ⟨R,by rw[HA.out],iV⟩
  ·obtain⟨R,rP,da,Hz,gC,yR⟩:=bc.out aQ _ _ K1.out (by have:=wY.out.1;omega) wY.out.2;have T1:=I yR;have HA:=I gC;clear yR gC;cases lost;case' true=>
    cases bp;case true=>exact absurd ⟨rfl,rfl⟩ TZ
   all_goals
    clear TZ;go_wp2_with fail;refine T1.out.mono ?_;rintro e yr ⟨rfl,HB⟩;have HC:=I (GA.out.below HB);obtain⟨_,_,cl,bH,f0,f1⟩:=HC.out.cells;obtain⟨aM,aG,gw⟩:=mo yr (w.heap.size+1) (.bool rP) (.string da) cl bH;have iV:=HC.out.low.trans (gw.mono (by omega));clear HB;go_wp2;refine bI (v:=.tuple #[.agg #[.bool rP,.string da],.int .i64 Hz]) (by simp[bK,EK,go_sem,aM,aG]) rfl ⟨R,by rw[HA.out],iV⟩
 ·obtain⟨K,rfl⟩:∃K:Nat,k=(K:Int):=⟨k.toNat,by omega⟩;have tA:au (0≤(K:Int))=ai:=bE (by omega);have Rg:IntKind.u64.wrap (K:Int)=(K:Int):=pA (by omega);have cU:=I (show ah aZ.heap.size aZ aZ.drew from (aK _ aZ).drew);have cD:=I (QY _ xs K aZ.drew (ya.out.below cU.out) (by omega) acy.out (by omega));unfold QX at cD;have wY:aj ((o.gh (o.ec (K/32+xs.length+1) (o.num xs*2^K))).length≤10000∧o.dI (o.gh (o.ec (K/32+xs.length+1) (o.num xs*2^K)))):=I ⟨cp acx.1 (by omega),acx.2⟩;generalize o.gh (o.ec (K/32+xs.length+1) (o.num xs*2^K))=ys at *;have dT:C≠w.heap.size+1:=fun e=>by
   obtain⟨_,_,cl,_,_,_⟩:=wo.out.cells;rw[←e,cn] at cl;injection cl with cl;cases cl
  have aN:aj (∀W,ah aZ.heap.size aZ W→W.cell? ⟨C,0,J⟩=U (.slice c7 o9 fj)∧W.cell? ⟨C,1,J⟩=U (.bool bp)):=I (fun W ad=>by
   obtain⟨cn,bY,_,_⟩:=(Mg.out.below ad).cells;exact⟨cn,bY⟩)
  have jm:aj (∀W,ah aZ.heap.size aZ W→∀u v,((W.setCell ⟨w.heap.size+1,0,J⟩ u).setCell ⟨w.heap.size+1,1,J⟩ v).cell? ⟨C,0,J⟩=U (.slice c7 o9 fj)∧((W.setCell ⟨w.heap.size+1,0,J⟩ u).setCell ⟨w.heap.size+1,1,J⟩ v).cell? ⟨C,1,J⟩=U (.bool bp)):=I (fun W ad u v=>by
   obtain⟨aa,ae⟩:=aN.out W ad;refine⟨?_,?_⟩;all_goals
    rw[b7 _ _ _ _ (by intro z;injection z with z;omega),b7 _ _ _ _ (by intro z;injection z with z;omega)];assumption)
  go_wp2;go_region_held3 (fun W=>W.cell? ⟨C,0,J⟩=U (.slice c7 o9 fj)∧W.cell? ⟨C,1,J⟩=U (.bool bp)) (first | with_reducible exact⟨cn,bY⟩ | with_reducible exact aN.out _ cU.out | with_reducible exact aN.out _ cL | with_reducible exact aN.out _ fS | with_reducible exact jm.out _ fS _ _) (first
   | (go_at_call 57;(obtain⟨R,rP,da,Hz,gC,yR⟩:=bc.out cw _ _ wL wY.out.1 wY.out.2);(with_reducible refine yR.mono ?_);rintro e hM ⟨rfl,Hu⟩;have fS:ah aZ.heap.size aZ hM:=cL.trans (Hu.mono cL.size);have qV:=wo.out.below fS;obtain⟨_,_,cl,bH,f0,f1⟩:=qV.cells;have HA:=I gC;clear Hu yR gC)
   | (go_at_call 74;(with_reducible refine (cD.out).mono ?_);rintro e cw ⟨v6,rfl,wL,l8⟩;have cL:ah aZ.heap.size aZ cw:=cU.out.trans l8;obtain⟨cZ,cT,gR,rfl⟩:=na wL;clear l8))
  all_goals
   obtain⟨aM,aG,gw⟩:=mo hM (w.heap.size+1) (.bool rP) (.string da) cl bH;have iV:=qV.low.trans (gw.mono (by omega));go_wp2;refine bI (v:=.tuple #[.agg #[.bool rP,.string da],.int .i64 Hz]) (by simp[bK,EK,go_sem,aM,aG]) rfl ⟨R,by rw[HA.out],iV⟩
namespace o
def p8 (c:UInt8):Int:=if 48≤c.toNat∧c.toNat≤57 then (c.toNat:Int)-48 else if 65≤c.toNat∧c.toNat≤90 then (c.toNat:Int)-55 else -1
theorem adj (c:UInt8):c ∈ gB↔0≤p8 c∧p8 c<10:=by
 rw[wA];unfold dg p8;split
 ·omega
 ·split<;>omega
theorem aqk {c:UInt8} (h:c ∈ gB):p8 c=(dg c:Nat):=by
 have aa:=(wA c).1 h;unfold dg p8 at *;split
 ·omega
 ·split<;>simp_all<;>omega
theorem aql {xs zs:List UInt8} {k c b F6:Nat} (aA:k<zs.length) (hx:k<xs.length) (h:le (zs.take k)+256^k*c=le (xs.take k)*b+F6) :
 le ((zs.set k (UInt8.ofNat ((xs[k].toNat*b+c)%256))).take (k+1))+256^(k+1)*((xs[k].toNat*b+c)/256)=le (xs.take (k+1))*b+F6:=by
 rw[K2 (by rw[mh];exact aA),K2 hx,ei];rw[NG (aC k),V'];have aT:(UInt8.ofNat ((xs[k].toNat*b+c)%256)).toNat=(xs[k].toNat*b+c)%256:=by simp[xl]
 rw[aT];generalize xs[k].toNat=x at *;have e:=ky (x*b+c) 256;have b8:256^k*((x*b+c)%256)+256^k*256*((x*b+c)/256)=256^k*(x*b+c):=by
  rw[cE,←fP,jv,e]
 rw[nW,b8,fP,ff];have eb:256^k*x*b=256^k*(x*b):=cE _ _ _;rw[eb];omega
theorem aqm {xs zs:List UInt8} (h:Canon xs) (ao:zs.length=xs.length) (hle:le xs≤le zs):Canon zs:=by
 by_cases ar:xs=[]
 ·have:zs=[]:=r7 (by rw[ao,ar];rfl);rw[this];simp[Canon]
 ·have aa:=wq h ar;have aX:zs≠[]:=by intro e;rw[e] at ao;exact ar (r7 ao.symm)
  obtain⟨l,c,rfl⟩:∃l c,zs=l++[c]:=⟨_,_,(Bv aX).symm⟩;refine My ?_;rintro rfl;rw[CC] at hle;have ae:=ru l;rw[←ao,ey,pr,nt] at aa;simp at hle;omega
end o
theorem adk {n:Int} (h:o.bO n):e7 n=.tuple #[bz n,.int .i64 0]:=by unfold e7;exact ba h
theorem adl (c:UInt8) (w:af):aq ak 163 #[.int .u8 c.toNat] w fun e w'=>e=.returned (.int .i64 (o.p8 c))∧w=w':=by
 have ao:=c.toNat_lt;unfold o.p8;generalize c.toNat=x at *;by_cases aa:48≤x
 ·have d1:au ((48:Int)≤(x:Int))=ai:=bE (by omega);by_cases ae:x≤57
  ·have d2:au ((x:Int)≤57)=ai:=bE (by omega);have hw:IntKind.u8.wrap ((x:Int)-48)=(x:Int)-48:=by rw[Oj];omega
   rw[ba ⟨aa,ae⟩];go_enter E3,EU;go_wp2;go_ret;exact⟨rfl,rfl⟩
  ·have d2:au ((x:Int)≤57)=ab:=bx (by omega);rw[aU (by omega)];by_cases aJ:65≤x
   ·have d3:au ((65:Int)≤(x:Int))=ai:=bE (by omega);by_cases bQ:x≤90
    ·have d4:au ((x:Int)≤90)=ai:=bE (by omega);rw[ba ⟨aJ,bQ⟩];have ef:aj ((x:Int)-55=(x:Int)-65+10):=I (by omega);have hw:IntKind.u8.wrap ((x:Int)-65)=(x:Int)-65:=by rw[Oj];omega
     rw[ef.out];go_enter E3,EU;go_wp2;go_ret;exact⟨rfl,rfl⟩
    ·have d4:au ((x:Int)≤90)=ab:=bx (by omega);rw[aU (by omega)];go_enter E3,EU;go_wp2;go_ret;exact⟨rfl,rfl⟩
   ·have d3:au ((65:Int)≤(x:Int))=ab:=bx (by omega);rw[aU (by omega)];go_enter E3,EU;go_wp2;go_ret;exact⟨rfl,rfl⟩
 ·have d1:au ((48:Int)≤(x:Int))=ab:=bx (by omega);have d3:au ((65:Int)≤(x:Int))=ab:=bx (by omega);rw[aU (by omega),aU (by omega)];go_enter E3,EU;go_wp2;go_ret;exact⟨rfl,rfl⟩
theorem Mz (l:List UInt8) (w:af) (ao:l.length≤300000) (h:l=[]∨l=[45]∨(∃r,l=45::48::r)∨∃d r,l=48::d::r) :
 aq ak 125 #[.string (ax l),.int .i64 10] w (sD w l):=by
 have lZ:aj (∀n,¬ o.fl 10 l n):=I (by
  rcases h with rfl | rfl | ⟨r,rfl⟩ | ⟨d,r,rfl⟩
  ·exact o.X3
  ·exact o.X4
  ·exact o.X6 r
  ·exact o.X7 d r)
 have ht:aj (∀bW:af,ah w.heap.size w bW→sD w l (.returned (.tuple #[.agg #[.bool ab,.string ⟨#[]⟩],.int .i64 93])) bW):=I (fun bW ad=>⟨.inr ⟨lZ.out,rfl⟩,ad⟩);obtain⟨ag,a6⟩:∃ag,w.alloc (.cells #[.bool ab,.string ⟨#[]⟩] 46)=ag:=⟨_,rfl⟩;have cY:aj (aI ag w.heap.size 46 (.bool ab) (.string ⟨#[]⟩)):=I (by rw[←a6];exact aI.new _ _ _ _);have cQ:aj (ah w.heap.size w ag):=I (by rw[←a6];exact (aK _ _).alloc (aC _) _);obtain⟨cn,bY,fA,gW⟩:=cY.out.cells;have bd:=cY.out.set (.bool ab) (.string ⟨#[]⟩);obtain⟨aM,aG,_,_⟩:=bd.cells;have hW:=I (fG cQ.out (aC _) (.bool ab) (.string ⟨#[]⟩));clear bd;rcases h with rfl | rfl | ⟨r,rfl⟩ | ⟨d,r,rfl⟩
 ·go_enter zA,zw;go_wp2_with fail;all_goals exact bI (v:=.tuple #[.agg #[.bool ab,.string ⟨#[]⟩],.int .i64 93]) (by simp[bK,zr,go_sem,aM,aG]) rfl (ht.out _ hW.out)
 ·have aH:(ax [45]).extract 1 1=⟨#[]⟩:=by apply xx;rw[Ed];rfl
  go_enter zA,zw;go_wp2_with fail;all_goals exact bI (v:=.tuple #[.agg #[.bool ab,.string ⟨#[]⟩],.int .i64 93]) (by simp[bK,zr,go_sem,aM,aG]) rfl (ht.out _ hW.out)
 ·have ef:=KP 45 (48::r);have b5:(ax (45::48::r)).size=(48::r).length+1:=rfl;have ar:∀h:0<(ax (45::48::r)).size,(ax (45::48::r))[0]'h=45:=fun _=>rfl;have wB:(ax (48::r)).size=(48::r).length:=rfl;have wC:∀h:0<(ax (48::r)).size,(ax (48::r))[0]'h=48:=fun _=>rfl;have tJ:(ax (48::r)).toList.isEmpty=ab:=by rw[lL];rfl
  obtain⟨N,cW⟩:∃N,(48::r).length=N:=⟨_,rfl⟩;have ajs:1≤N:=by rw[←cW];simp
  rw[cW] at ef b5 wB;generalize ax (45::48::r)=S at *;generalize ax (48::r)=T at *;have aE:0<S.size:=by omega
  have an:=ar aE;have lQ:0<T.size:=by omega
  have mu:=wC lQ;have pc:au ((0:Int)<(S.size:Int))=ai:=bE (by omega);go_enter zA,zw;go_wp2_with fail;all_goals exact bI (v:=.tuple #[.agg #[.bool ab,.string ⟨#[]⟩],.int .i64 93]) (by simp[bK,zr,go_sem,aM,aG]) rfl (ht.out _ hW.out)
 ·have b5:(ax (48::d::r)).size=r.length+2:=rfl;have ar:∀h:0<(ax (48::d::r)).size,(ax (48::d::r))[0]'h=48:=fun _=>rfl;have ajt:(ax (48::d::r)).toList.isEmpty=ab:=by rw[lL];rfl
  have aju:((ax (48::d::r)).toList==[48])=ab:=by rw[lL];show ((48::d::r:List UInt8)==[48])=ab;rw[cH];intro e;cases e
  generalize ax (48::d::r)=S at *;have aE:0<S.size:=by omega
  have an:=ar aE;have pc:au ((0:Int)<(S.size:Int))=ai:=bE (by omega);go_enter zA,zw;go_wp2_with fail;all_goals exact bI (v:=.tuple #[.agg #[.bool ab,.string ⟨#[]⟩],.int .i64 93]) (by simp[bK,zr,go_sem,aM,aG]) rfl (ht.out _ hW.out)
theorem Uz (g:Bool) (t:List UInt8) (w:af) (ao:t.length≤300000) (ar:t≠[]) (hh:t.head? = U 48→t.length=1) (aY:g=ai→t.head?≠U 48) (hm:g=ab→t.head?≠U 45) :
 aq ak 125 #[.string (ax (if g then 45::t else t)),.int .i64 10] w (sD w (if g then 45::t else t)):=by
 obtain⟨V,cA⟩:∃V,o.ep 10 (t.map o.dg)=V:=⟨_,rfl⟩;have rJ:aj ((∀c ∈ t,c ∈ o.gB)→∀bW:af,ah w.heap.size w bW→sD w (if g then 45::t else t) (.returned (e7 (cy g V))) bW):=I (fun aL bW ad=>⟨.inl ⟨_,by rw[←cA];exact o.X1 ar aL hh aY,rfl⟩,ad⟩);have u2:aj (∀c ∈ t,c ∉ o.gB→∀bW:af,ah w.heap.size w bW→sD w (if g then 45::t else t) (.returned (.tuple #[.agg #[.bool ab,.string ⟨#[]⟩],.int .i64 93])) bW):=I (fun c an aB bW ad=>⟨.inr ⟨o.X2 an aB hm,rfl⟩,ad⟩);obtain⟨hY,hZ,gr,gC⟩:∃f s e,e7 (cy g V)=.tuple #[.agg #[.bool f,.string s],.int .i64 e]:=by
  unfold e7;split
  ·exact⟨_,_,_,rfl⟩
  ·exact⟨_,_,_,rfl⟩
 have nf:aj (4294967296^1024≤V→e7 (cy g V)=.tuple #[.agg #[.bool ab,.string ⟨#[]⟩],.int .i64 92]):=I (fun ad=>by
  unfold e7;rw[aU]
  ·rfl
  ·intro h;unfold o.bO at h;rw[show (cy g V).natAbs=V by unfold cy;split<;>omega] at h;have e:(256:Nat)^4096=4294967296^1024:=by have:=o.Gd 1024;rwa[show 4*1024=4096 from rfl] at this
   rw[e] at h;exact absurd h (Nat.not_lt.2 ad))
 have l2:aj (∀W v l,mb W v l→l.length≤4096→o.le l=V→aq ak 164 #[v,.bool g] W (fun e w'=>e=.returned (e7 (cy g V))∧ah W.heap.size W w')):=I (fun W v l aa ae aJ=>by
  have Hj:o.le l<256^4096:=o.ye (b:=4096) (o.ru l) ae;have kD:o.bO (cy g V):=by
   unfold o.bO;rw[show (cy g V).natAbs=V by unfold cy;split<;>omega,←aJ];exact Hj
  have:=aqe v l g W aa (by omega) Hj;rw[aJ,CN (n:=cy g V) rfl] at this;rw[adk kD];exact this)
 rw[gC] at l2 rJ nf;have F9:aj (∀k,o.ep 10 ((t.map o.dg).take k)≤V):=I (fun k=>by rw[←cA];exact o.XS (by decide) _ k);obtain⟨ag,a6⟩:∃ag,w.alloc (.cells #[.bool ab,.string ⟨#[]⟩] 46)=ag:=⟨_,rfl⟩;have dt:aj (aI ag w.heap.size 46 (.bool ab) (.string ⟨#[]⟩)):=I (by rw[←a6];exact aI.new _ _ _ _);have cQ:aj (ah w.heap.size w ag):=I (by rw[←a6];exact (aK _ _).alloc (aC _) _);have dH:w.heap.size+1≤ag.heap.size:=by rw[←a6];simp
 obtain⟨cn,bY,fA,gW⟩:=dt.out.cells;obtain⟨c,an⟩:∃c,t.head? = U c:=by
  cases t with
  | nil=>exact absurd rfl ar
  | cons c t=>exact⟨c,rfl⟩
 have iM:=I (x2 t);have wB:(ax t).size=t.length:=rfl;have tJ:(ax t).toList.isEmpty=ab:=by
  rw[lL];cases t with
  | nil=>exact absurd rfl ar
  | cons c t=>rfl
 have wC:∀h:0<(ax t).size,(ax t)[0]'h=c:=fun h=>by
  cases t with
  | nil=>exact absurd rfl ar
  | cons d t=>simp at an;subst an;rfl
 have lT:1≤t.length:=List.length_pos_iff.2 ar;have wD:t=[48]→t.length=1:=fun e=>by subst e;rfl
 have ef:=KP 45 t;have b5:(ax (45::t)).size=t.length+1:=rfl;have pS:∀h:0<(ax (45::t)).size,(ax (45::t))[0]'h=45:=fun _=>rfl;obtain⟨n,aB⟩:∃n,t.length=n:=⟨_,rfl⟩;have bU:=I aB;rw[aB] at wB lT ef b5 ao;have kh:((n:Int)==0)=ab:=by rw[cH];omega
 have fT:g=ab→c=48→t=[48]:=fun _ e=>by
  subst e;have:=hh an;cases t with
  | nil=>exact absurd rfl ar
  | cons d t=>
    simp at an;subst an;simp at this;subst this;rfl
 have tK:g=ai→c≠48:=fun e aT=>aY e (by rw[an,aT]);have kf:g=ab→c≠45:=fun e aT=>hm e (by rw[an,aT]);have cM:=I cA;clear cA gC hh aY hm an ar;have lQ:0<(ax t).size:=by rw[wB];exact lT
 have mu:=wC lQ;clear wC;cases g;case' true=>
  simp only[oW] at rJ u2 ⊢;have tL:((c.toNat:Int)==48)=ab:=by
   rw[cH];intro e;exact tK rfl (UInt8.toNat_inj.1 (by rw[show (48:UInt8).toNat=48 from rfl];omega))
  generalize ax (45::t)=S at *;generalize ax t=T at *;have aE:0<S.size:=by omega
  have ajw:=pS aE;have pc:au ((0:Int)<(S.size:Int))=ai:=bE (by omega);clear fT tK kf wD pS aB;go_enter zA,zw;go_wp2_with fail
 case' false=>
  simp only[oL,oV] at rJ u2 ⊢;have ajx:((c.toNat:Int)==45)=ab:=by
   rw[cH];intro e;exact kf rfl (UInt8.toNat_inj.1 (by rw[show (45:UInt8).toNat=45 from rfl];omega))
  have pc:au ((0:Int)<((ax t).size:Int))=ai:=bE (by omega);by_cases tL:c=48;case' pos=>
   have dZ:=wD (fT rfl tL);rw[aB] at dZ;have ayT:au ((1:Int)<(n:Int))=ab:=bx (by omega);clear dZ;have RC:((c.toNat:Int)==48)=ai:=by rw[tL];rfl
   clear fT tK kf wD pS aB ef b5;generalize ax t=T at *;go_enter zA,zw;go_wp2_with fail
  case' neg=>
   have RC:((c.toNat:Int)==48)=ab:=by
    rw[cH];intro e;exact tL (UInt8.toNat_inj.1 (by rw[show (48:UInt8).toNat=48 from rfl];omega))
   clear fT tK kf wD pS aB ef b5;generalize ax t=T at *;go_enter zA,zw;go_wp2_with fail
 all_goals
  go_loop [7] (fun i=>∃k:Nat,k≤n∧i=.int .i64 k∧aj (∀c ∈ t.take k,c ∈ o.gB)) (fun i=>n-(RowKit.intOf i).toNat);case atStart=>exact⟨0,il _,rfl,I (by simp)⟩
  case round=>
   obtain⟨k,aA,rfl,kB⟩:=hrel;by_cases bV:k<n
   ·have eM:k<t.length:=by rw[bU.out];exact bV
    have q:k<T.size:=by omega
    have jP:T[k]'q=t[k]:=iM.out.get eM q (by omega);have u4:t[k] ∈ t:=jc eM;have bc:=I (show t.take (k+1)=t.take k++[t[k]] from kc eM);obtain⟨d,aL⟩:∃d,t[k]=d:=⟨_,rfl⟩;rw[aL] at jP u4 bc;have tM:=I (adl d ag);have RD:=I u4;clear aL eM u4;by_cases kH:d ∈ o.gB
    ·have CW:=I kH;obtain⟨pO,fK⟩:=(o.adj d).1 kH;have ck:au (o.p8 d<0)=ab:=bx (by omega);have aH:au (10≤o.p8 d)=ab:=bx (by omega);generalize o.p8 d=aqn at *;clear kH pO fK;go_wp2_with fail;refine tM.out.mono ?_;rintro e w' ⟨rfl,rfl⟩;go_wp2;go_round;case rel=>
      have qY:aj (∀c ∈ t.take (k+1),c ∈ o.gB):=I (fun c an=>by
       rw[bc.out] at an;rcases List.mem_append.1 an with an | an
       ·exact kB.out c an
       ·rw[List.mem_singleton.1 an];exact CW.out)
      exact⟨k+1,by omega,by go_num,qY⟩
     case measure=>simp[RowKit.intOf];omega
    ·have bZ:=I (u2.out d RD.out kH);have lZ:=mt (o.adj d).2 kH;have HV:(au (o.p8 d<0)=ai)∨(au (o.p8 d<0)=ab∧au (10≤o.p8 d)=ai):=by
      by_cases ar:o.p8 d<0
      ·exact .inl (bE ar)
      ·exact .inr ⟨bx ar,bE (by omega)⟩
     have bd:=dt.out.set (.bool ab) (.string ⟨#[]⟩);obtain⟨aM,aG,_,_⟩:=bd.cells;have hW:=I (fG cQ.out (aC _) (.bool ab) (.string ⟨#[]⟩));generalize o.p8 d=aqn at *;clear kH bd lZ;rcases HV with ck | ⟨ck,aH⟩;all_goals
      go_wp2_with fail;refine tM.out.mono ?_;rintro e w' ⟨rfl,rfl⟩;go_wp2;refine bI (v:=.tuple #[.agg #[.bool ab,.string ⟨#[]⟩],.int .i64 93]) (by simp[bK,zr,go_sem,aM,aG]) rfl (bZ.out _ hW.out)
   ·obtain rfl:k=n:=by omega
    have dM:aj (∀c ∈ t,c ∈ o.gB):=I (by
     have:=kB.out;rwa[fp (by rw[bU.out];exact aC _)] at this)
    clear kB bV aA;go_wp2;go_loopw [9,10,11,12,13] (fun x i _ _ _ wr=>∃(j:Nat) (xs:List UInt8),j≤k∧i=.int .i64 j∧j5 wr ag.heap.size x xs∧aj (o.Canon xs)∧aj (o.le xs=o.ep 10 ((t.map o.dg).take j))∧xs.length≤4096∧ah ag.heap.size ag wr) (fun _ i _ _ _ _=>k-(RowKit.intOf i).toNat);case atStart=>exact⟨0,[],il _,rfl,cB.nil _ _ _ _,I (by simp[o.Canon]),I (by simp[o.le,o.ep]),by simp,aK _ _⟩
    case round=>
     obtain⟨j,xs,bP,rfl,dq,HW,jj,gH,ad⟩:=hrel;have jC:=I dq;have ay:=I ad;obtain⟨cx,ct,rfl⟩:=dq.form;have KR:=I (dt.out.under ad (by omega));have qq:=ad.size;obtain⟨N,cW⟩:∃N,xs.length=N:=⟨_,rfl⟩;have A7:=I cW;rw[cW] at gH ⊢;clear dq ad cW;by_cases bV:j<k
     ·have eM:j<t.length:=by rw[bU.out];exact bV
      have q:j<T.size:=by omega
      have jP:T[j]'q=t[j]:=iM.out.get eM q (by omega);have kH:t[j] ∈ o.gB:=dM.out _ (jc eM);have wE:=X8 eM;obtain⟨d,aL⟩:∃d,t[j]=d:=⟨_,rfl⟩;rw[aL] at jP kH wE;have KS:=(o.wA d).1 kH;have tM:=I (adl d wr);rw[o.aqk kH] at tM;obtain⟨rK,aE⟩:∃rK,o.dg d=rK:=⟨_,rfl⟩;rw[aE] at wE KS tM;have KT:=I (show o.le xs*10+rK=o.ep 10 ((t.map o.dg).take (j+1)) by rw[wE,jj.out]);obtain⟨wp,G8⟩:∃x,x=wr:=⟨wr,rfl⟩;subst G8;clear aL eM kH wE aE;go_wp2_with fail;refine tM.out.mono ?_;rintro e w' ⟨rfl,rfl⟩;go_wp2;go_loopw [11,12,13] (fun c i _ wr=>∃(m df:Nat) (zs:List UInt8),m≤N∧df<10∧c=.int .i64 df∧i=.int .i64 m∧j5 wr ag.heap.size (.slice cx N ct) zs∧zs.length=N∧aj (zs.drop m=xs.drop m)∧aj (o.le (zs.take m)+256^m*df=o.le (xs.take m)*10+rK)∧ah ag.heap.size ag wr∧wp.heap.size≤wr.heap.size) (fun _ i _ _=>N-(RowKit.intOf i).toNat);case atStart=>exact⟨0,rK,xs,il _,KS,rfl,rfl,by have:=jC.out;rwa[A7.out] at this,A7.out,I rfl,I (by simp[o.le]),ay.out,aC _⟩
      case round=>
       obtain⟨m,df,zs,hm,mj,rfl,rfl,dq,eH,j4,eX,iX,b5⟩:=hrel;have Rh:=I dq;have lV:=I eH;have eY:=I iX;by_cases nZ:m<N
       ·have hU:m<zs.length:=by rw[eH];exact nZ
        have uY:m<xs.length:=by rw[A7.out];exact nZ
        have qB:zs[m]'hU=xs[m]'uY:=by
         have aa:=eS (fun l=>l[0]?) j4.out;simp only[BG,jd] at aa;rw[eE hU,eE uY] at aa;exact hb aa
        have rC:cB wr ag.heap.size 5 1 (.slice cx N ct) N (cV zs):=by have:=dq;unfold j5 at this;rwa[eH] at this
        obtain⟨g,cap,aD,kD,Xz,CG⟩:=cB.yb rC (by omega);injection aD with v' XA F8;subst v' F8;have gz:=rC.cellAt (KI (eE hU));have lA:=rC.free (j:=m) (by omega);rw[qB] at gz;have kk:=I (o.aql (b:=10) (c:=df) hU uY eX.out);obtain⟨x,hx⟩:∃x,(xs[m]'uY).toNat=x:=⟨_,rfl⟩;have ayU:x<256:=by rw[←hx];exact UInt8.toNat_lt _
        rw[hx] at gz kk;obtain⟨s,a1⟩:∃s,x*10+df=s:=⟨_,rfl⟩;have aiL:(x:Int)*10+(df:Int)=(s:Int):=by omega
        rw[a1] at kk;have o':s<2560:=by omega
        obtain⟨r,aF⟩:∃r,s%256=r:=⟨_,rfl⟩;obtain⟨c',iS⟩:∃c',s/256=c':=⟨_,rfl⟩;rw[aF,iS] at kk;have m':r<256:=by omega
        have lX:c'<10:=by omega
        have Ha:(s:Int)%256=(r:Int):=by omega
        have KD:(s:Int)/256=(c':Int):=by omega
        have kK:(s:Int).tmod 256=(r:Int):=by rw[Ea (by omega)];omega
        have LU:(s:Int).tdiv 256=(c':Int):=by rw[D' (by omega)];omega
        have qX:(r:Int)%256=(r:Int):=by omega
        have mX:aj (j5 (wr.setCell ⟨g,m,J⟩ (.int .u8 (r:Nat))) ag.heap.size (.slice (U ⟨g,0,J⟩) N ct) (zs.set m (UInt8.ofNat r))):=I (by
         unfold j5;rw[mh,eH,Rk,show (UInt8.ofNat r).toNat=r by simp[xl];omega];exact rC.stored _)
        have bu:=I (iX.setCell (p:=⟨g,m,J⟩) kD (.int .u8 (r:Nat)));have Ag:aj ((zs.set m (UInt8.ofNat r)).drop (m+1)=xs.drop (m+1)):=I (by
         rw[BF (by omega)];have aa:=eS (List.drop 1) j4.out;rwa[sf,sf] at aa)
        clear dq rC eH iX aF iS hx qB hU uY a1 jP;go_wp2;go_roundw;case rel=>exact⟨m+1,c',zs.set m (UInt8.ofNat r),by omega,lX,rfl,by go_num,mX.out,by rw[mh];exact lV.out,Ag,kk,bu.out,by simp[World.setCell];exact b5⟩
        case measure=>simp[RowKit.intOf];omega
       ·obtain rfl:m=N:=by omega
        have aa:=eX.out;rw[fp (by rw[eH];exact aC _),fp (by rw[A7.out];exact aC _),KT.out] at aa;by_cases an:df=0
        ·subst an;rw[oQ,jd] at aa;have MA:aj (o.Canon zs):=I (o.aqm HW.out (by rw[eH,A7.out]) (by rw[aa,←KT.out];omega));have cM:=I aa;have KX:au ((4096:Int)<(m:Int))=ab:=bx (by omega);clear aa dq iX eH jP;go_wp2;go_roundw;case rel=>exact⟨j+1,zs,by omega,by go_num,Rh.out,MA,cM,by rw[lV.out];exact gH,eY.out⟩
         case measure=>simp[RowKit.intOf];omega
        ·have bT:au ((0:Int)<(df:Int))=ai:=bE (by omega);have XB:(df:Int)%256=(df:Int):=by omega
         have mQ:ag.heap.size≤wr.heap.size:=by omega
         have cM:aj (o.le (zs++[UInt8.ofNat df])=o.ep 10 ((t.map o.dg).take (j+1))):=I (by rw[o.Uw _ _ (by omega),eH];exact aa);have MA:aj (o.Canon (zs++[UInt8.ofNat df])):=I (My (by
          intro e;have aT:=eS UInt8.toNat e;simp[xl] at aT;omega))
         have KO:aj (cB wr ag.heap.size 5 1 (.slice cx m ct) m (cV zs)):=I (by have:=dq;unfold j5 at this;rwa[eH] at this);have aqo:=I dq.lt;clear aa dq iX eH jP;go_wp2_with (at_builtin;refine iI rfl (.tmp 102) (.tmp 105) rfl ag.heap.size _ _ _ rfl KO.out [.int .u8 (df:Nat)] rfl (by intro u hu;simp at hu;subst hu;rfl) (by simp only[ch,du];omega) mQ ?_);intro v2 aP iJ gJ;have sq:=I iJ;have bL:=I (gJ.below eY.out mQ (fun j bP=>(aqo.out j bP).1));obtain⟨a2,c2,rfl⟩:=iJ.form;clear iJ gJ;have mX:aj (j5 aP ag.heap.size (.slice a2 (m+[Value.int IntKind.u8 (df:Nat)].length) c2) (zs++[UInt8.ofNat df])):=I (by
          have ae:=sq.out;unfold j5;rw[nE,Ux (show df<256 by omega),ey,lV.out];exact ae)
         by_cases aX:m<4096
         ·have KX:au ((4096:Int)<(m:Int)+1)=ab:=bx (by omega);go_wp2;go_roundw;case rel=>exact⟨j+1,zs++[UInt8.ofNat df],by omega,by go_num,mX.out,MA,cM,by rw[ey,lV.out,pr];omega,bL.out⟩
          case measure=>simp[RowKit.intOf];omega
         ·have KX:au ((4096:Int)<(m:Int)+1)=ai:=bE (by omega);have u5:aj (4294967296^1024≤V):=I (by
           have e:(256:Nat)^4096=4294967296^1024:=by have:=o.Gd 1024;rwa[show 4*1024=4096 from rfl] at this
           rw[←e];have ae:=o.wq MA.out (by simp);rw[ey,lV.out,pr,nt,cM.out] at ae;exact o.XL (a:=4096) (cp ae (F9.out (j+1))) (show 4096≤m by omega))
          have yd:=I (dt.out.under bL.out (by omega));have bd:=yd.out.set (.bool ab) (.string ⟨#[]⟩);obtain⟨aM,aG,_,_⟩:=bd.cells;have hW:=I (fG (cQ.out.trans (bL.out.mono (by omega))) (aC _) (.bool ab) (.string ⟨#[]⟩));obtain⟨_,_,f0,f1⟩:=yd.out.cells;have og:=I (fun bW hs=>nf.out u5.out ▸ rJ.out dM.out bW hs);clear bd aX u5 nf cn bY fA gW;go_wp2;refine bI (v:=.tuple #[.agg #[.bool ab,.string ⟨#[]⟩],.int .i64 92]) (by simp[bK,zr,go_sem,aM,aG]) rfl (og.out _ hW.out)
     ·obtain rfl:j=k:=by omega
      have adm:o.le xs=V:=by
       rw[jj.out,fp (by rw[rh,bU.out];exact aC _)];exact cM.out
      have eX:mb wr (.slice cx N ct) xs:=by have:=mb.Uv jC.out;rwa[A7.out] at this
      have RF:=I (l2.out wr _ xs eX (by rw[A7.out];exact gH) adm);have og:=I (rJ.out dM.out);clear eX adm bV;go_wp2_with fail;refine RF.out.mono ?_;rintro e cw ⟨rfl,cL⟩;have Gv:=I (KR.out.below cL);obtain⟨_,_,f0,f1⟩:=Gv.out.cells;have bd:=Gv.out.set (.bool hY) (.string hZ);obtain⟨aM,aG,_,_⟩:=bd.cells;have hW:=I (fG (chain (cQ.out.trans (ay.out.mono (by omega))) cL (by omega)) (aC _) (.bool hY) (.string hZ));clear bd cL cn bY fA gW;go_wp2;refine bI (v:=.tuple #[.agg #[.bool hY,.string hZ],.int .i64 gr]) (by simp[bK,zr,go_sem,aM,aG]) rfl (og.out _ hW.out)
theorem aqp (l:List UInt8) (w:af) (ao:l.length≤300000):aq ak 125 #[.string (ax l),.int .i64 10] w (sD w l):=by
 cases l with
 | nil=>exact Mz [] w ao (.inl rfl)
 | cons c r=>
   by_cases an:c=45
   ·subst an;cases r with
    | nil=>exact Mz [45] w ao (.inr (.inl rfl))
    | cons d r=>
      by_cases aL:d=48
      ·subst aL;exact Mz _ w ao (.inr (.inr (.inl ⟨r,rfl⟩)))
      ·have h:=Uz ai (d::r) w (by simp at ao ⊢;omega) (by simp) (by simp[aL]) (by simp[aL]) (by simp);exact h
   ·by_cases Gw:c=48
    ·subst Gw;cases r with
     | nil=>exact Uz ab [48] w (by simp) (by simp) (by simp) (by simp) (by simp)
     | cons d r=>exact Mz _ w ao (.inr (.inr (.inr ⟨d,r,rfl⟩)))
    ·exact Uz ab (c::r) w ao (by simp) (by simp[Gw]) (by simp) (by simp[an])
end Go.Proofs.YtkhphoonnkoipaaGreatDoor
namespace Go.Proofs.YtkhphoonnkoipaaGreatDoor.av
open Ieee
theorem acW (s:Bool) (n d:Nat):Toward.zero.cut s n d=n/2^d:=by
 unfold Toward.cut;simp only[mM,fW,Ob,jd];rcases eh d (n.log2+2)with h | h
 ·rw[h2 (by omega)]
 ·rw[EA h];have aa:n<2^(n.log2+1):=oM;have ae:2^(n.log2+1)≤2^(n.log2+2):=dB (by omega) (by omega);have aJ:2^(n.log2+2)≤2^d:=dB (by omega) h;rw[nu (by omega),nu (by omega)]
theorem acX (m:Nat) {i:Int} (aV:-1074≤i):m <<< i.toNat/2^(-i).toNat=m*2^(i+1074).toNat/2^bR:=by
 have ef:=oE;rw[mM];rcases Int.le_total 0 i with h | h
 ·rw[show (-i).toNat=0 by omega,hn,uD,show (i+1074).toNat=i.toNat+bR by omega,cm,←cE,BI _ (ez _)]
 ·rw[show i.toNat=0 by omega,hn,fI];obtain⟨u,v,aa,ae,aJ⟩:∃u v:Nat,(i+1074).toNat=u∧(-i).toNat=v∧bR=v+u:=⟨_,_,rfl,rfl,by omega⟩;rw[aa,ae,aJ,cm,vG _ _ (ez _)]
noncomputable def kx (x:Int):Int:=if x<0 then -((x.natAbs/2^bR:Nat):Int) else ((x.natAbs/2^bR:Nat):Int)
theorem acY (x:Int):(kx x).natAbs=x.natAbs/2^bR:=by
 unfold kx;generalize x.natAbs/2^bR=q;split<;>omega
theorem apq (s:Bool) {M:Nat} (aa:M<9007199254740992) (dy:4503599627370496≤M):lr (D.word s (1021*4503599627370496+M)) 53=D.nearest s M 0:=by
 obtain⟨v1,v2,v3⟩:=oX s (r:=1021*4503599627370496+M) (by omega);have mG:dC (D.word s (1021*4503599627370496+M))=ab:=by unfold dC;rw[v1];exact bx (by omega)
 unfold lr;rw[mG,aU (by decide),RJ s aa (.inl dy) (by omega)];simp only[scaled,Format.write];rw[show ((1021:Nat):Int)-1074+53=0 by decide]
theorem toInt_fin {a:Nat} (h:a%9223372036854775808<9218868437227405312):(D.read a).toInt .zero=U (kx (V a)):=by
 obtain⟨m,i,aF,_,aV,_,aD,be⟩:=vr h;rw[aF];simp only[Datum.toInt,Datum.integral,acW,acX m aV];rw[HN,hn,fI,←be];have a1:=acH h;unfold kx;congr 1;generalize V a=x at *;clear aF aD be;cases jF:cy a
 ·rw[jF,aU (by simp)] at a1;rw[aU (by simp),aU (by omega)]
 ·rw[jF,ba rfl] at a1;rw[ba rfl];by_cases ar:x<0
  ·rw[ba ar]
  ·have:x=0:=by omega
   subst this;simp
theorem Uj {a:Nat} (h:a%9223372036854775808<9218868437227405312):j0 a=D.word (cy a) (er ((V a).natAbs/2^bR*2^bR) 1):=by
 obtain⟨m,i,aF,_,aV,_,aD,be⟩:=vr h;unfold j0;show D.write (Datum.integral .zero (D.read a))=_;rw[aF];simp only[Datum.integral,acW,acX m aV,Format.write];have ef:=oE;rw[Au,be,show ((0:Int)+1074).toNat=bR by omega,show (-((0:Int)+1074)).toNat=0 by omega,hn]
theorem Mt {a:Nat} {x:Int} (h:mz a x):∃m u,x.natAbs=m*2^u∧m<9007199254740992∧u≤2045:=by
 obtain⟨m,i,aF,hm,aV,je,aD,be⟩:=vr h.fin;exact⟨m,_,by rw[←pk h,be],hm,by omega⟩
theorem acZ {n m u:Nat} (h:n=m*2^u) (hm:m<9007199254740992) (hu:u≤2045):Fits (n/2^bR*2^bR):=by
 subst h;have ef:=oE;rcases eh u bR with h | h
 ·refine⟨_,bR,rfl,?_,by omega⟩;obtain⟨k,aA⟩:∃k,bR=k+u:=⟨bR-u,by omega⟩;rw[aA,cm,vG _ _ (ez _)];exact gQ (s9 _ _) hm
 ·refine⟨m,u,?_,hm,hu⟩;obtain⟨k,aA⟩:∃k,u=k+bR:=⟨u-bR,by omega⟩;rw[aA,cm,←cE,BI _ (ez _)]
theorem apr {n m u:Nat} (h:n=m*2^u) (hm:m<9007199254740992) (hu:u≤2045):Fits (n%2^bR):=by
 subst h;have ef:=oE;rcases eh u bR with h | h
 ·obtain⟨k,aA⟩:∃k,bR=k+u:=⟨bR-u,by omega⟩;refine⟨m%2^k,u,?_,?_,hu⟩
  ·rw[aA,cm,IM]
  ·exact gQ (E7 _ _) hm
 ·refine⟨0,0,?_,by omega,by omega⟩;obtain⟨k,aA⟩:∃k,u=k+bR:=⟨u-bR,by omega⟩;rw[aA,cm,←cE,I1]
theorem ac0 {a:Nat} {x:Int} (h:mz a x):(cy a=ai→x≤0)∧(cy a=ab→0≤x):=by
 have:=acH h.fin;rw[pk h] at this;constructor<;>intro aa<;>rw[aa] at this<;>simp at this<;>omega
theorem ac1 {a:Nat} {x:Int} (h:mz a x):mz (j0 a) (kx x*2^bR):=by
 rw[Uj h.fin,pk h];obtain⟨m,u,aa,ae,aJ⟩:=Mt h;refine (Gy _ (by omega) (fI _).symm (acZ aa ae aJ)).of_eq ?_;obtain⟨s1,s2⟩:=ac0 h;unfold kx;push_cast;generalize (2:Int)^bR=P;cases a1:cy a
 ·have:=s2 a1;rw[aU (by simp),aU (by omega)]
 ·have:=s1 a1;rw[ba rfl];by_cases ar:x<0
  ·rw[ba ar,BW]
  ·have:x=0:=by omega
   subst this;simp
noncomputable def vu (x:Int):Int:=x-kx x*2^bR
theorem aps (x:Int):(vu x).natAbs=x.natAbs%2^bR∧(0≤x→0≤vu x)∧(x≤0→vu x≤0):=by
 unfold vu kx;have aa:=ky x.natAbs (2^bR);have hp:(2:Int)^bR=((2^bR:Nat):Int):=by push_cast;rfl
 rw[hp];generalize (2:Nat)^bR=P at *;generalize aE:x.natAbs/P=q at *;generalize aF:x.natAbs%P=r at *;have ae:(P:Int)*q+r=x.natAbs:=by rw[←aa];push_cast;rfl
 have aJ:(q:Int)*P=P*q:=Int.mul_comm _ _;split
 ·rw[BW];refine⟨?_,?_,?_⟩<;>omega
 ·refine⟨?_,?_,?_⟩<;>omega
def Uk (a:Nat):Nat:=match D.sub a (j0 a)with
 | some d=>if D.order d 0=U .eq then 0 else told d
 | none=>JS
theorem apt {a:Nat} {x:Int} (h:mz a x):∃d,D.sub a (j0 a)=U d∧mz d (vu x):=by
 have bn:=ac1 h;refine⟨_,aoX h.fin bn.fin,?_⟩;rw[pk h,pk bn];obtain⟨m,u,aa,ae,aJ⟩:=Mt h;have bd:=apr aa ae aJ;rw[←(aps x).1] at bd;change mz (D.word (if vu x=0 then _ else au (vu x<0)) (er (vu x).natAbs 1)) (vu x);refine (Gy _ (by omega) (fI _).symm bd).of_eq ?_;generalize vu x=y;by_cases ar:y=0
 ·subst ar;simp
 ·rw[aU ar];by_cases aa:y<0
  ·rw[bE aa,ba rfl];omega
  ·rw[bx aa,aU (by simp)];omega
theorem apu {a d:Nat} (aa:D.sub a (j0 a)=U d):Uk a=if D.order d 0=U .eq then 0 else told d:=by unfold Uk;rw[aa]
end Go.Proofs.YtkhphoonnkoipaaGreatDoor.av
namespace Go.Proofs.YtkhphoonnkoipaaGreatDoor
theorem apv (a:Nat) (x:Int) (w:af) (h:av.mz a x):aq ak 88 #[.int .u64 a] w fun e w'=>e=.returned (.int .u64 (av.Uk a:Nat))∧w=w':=by
 obtain⟨d,aa,ae⟩:=av.apt h;rw[av.apu aa];exact apl a d w h.lt h.fin aa
theorem Ul {a:Nat} (h:a%9223372036854775808<9218868437227405312) (ad:(av.kx (av.V a)).natAbs≤9007199254740992):floatToIntVal .f64 a .i64=U (av.kx (av.V a)):=by
 unfold floatToIntVal;have:(FloatKind.f64.decode a).toInt .zero=U (av.kx (av.V a)):=av.toInt_fin h;rw[this];simp only;rw[ba];constructor
 ·have:IntKind.i64.min = -9223372036854775808:=by decide
  omega
 ·have:IntKind.i64.max=9223372036854775807:=by decide
  omega
theorem DJ (n:Int):av.kx (n*2^av.bR)=n:=by
 unfold av.kx;have hp:(0:Int)<2^av.bR:=Int.pow_pos (by decide);rw[Jb,Int.natAbs_pow,show (2:Int).natAbs=2 from rfl,BI _ (ez _)];generalize (2:Int)^av.bR=P at *;by_cases h:n<0
 ·rw[ba (Nr h hp)];omega
 ·have:=EM (show 0≤n by omega) (Jj hp);rw[aU (by omega)];omega
theorem apw (a:Nat) (x:Int) (w:af) (h:av.mz a x) :
 aq ak 93 #[.int .u64 a] w fun bm w'=>bm=.returned (.tuple #[bz (av.kx x),.int .i64 0])∧ah w.heap.size w w':=by
 have bn:=av.ac1 h;have ef:=av.oE;have hcut:(av.kx x).natAbs=x.natAbs/2^av.bR:=av.acY x;by_cases ar:av.kx x=0
 ·have aX:av.j0 a%9223372036854775808=0:=by
   rw[av.Uj h.fin,av.pk h];rw[ar] at hcut;have:x.natAbs/2^av.bR=0:=by omega
   rw[this,vN,av.Ud];exact (av.oX _ (by omega)).1
  have hx:Mn (av.j0 a) (av.j0 a) 0:=acU _ _ _ (fun w=>apj _ (av.acR aX) w);have aD:floatToIntVal .f64 (av.j0 a) .i64=U (av.kx x):=by
   have:=Ul bn.fin (by rw[av.pk bn,DJ,ar];decide);rw[av.pk bn,DJ] at this;exact this
  exact acV a (av.j0 a) (av.j0 a) (av.j0 a) 0 (av.kx x) (av.kx x) w h.lt h.fin rfl hx bn.lt (av.Ug _ bn.lt aX) aD (by omega) (by omega) (fun _=>⟨aD,by omega⟩) (fun h=>by omega)
 ·obtain⟨m,u,aa,ae,aJ⟩:=av.Mt h;obtain⟨ayL,ayM,aG,bj,bq⟩:=av.acZ aa ae aJ;obtain⟨M,bo,e,bD,cX,dU⟩:=av.Yd bj bq;rw[←e] at aG;have dZ:x.natAbs/2^av.bR≠0:=by omega
  have dy:4503599627370496≤M∧1022≤bo:=by
   have:2^av.bR≤M*2^bo:=by
    rw[←aG];have:=fD (2^av.bR) (show 1≤x.natAbs/2^av.bR by omega);omega
   have lB:1022≤bo:=by
    rcases eh bo 1022 with ao | ao
    ·exfalso;have b1:M*2^bo<2^53*2^bo:=jG (by simpa using bD) (ez _);rw[←cm] at b1;have a2:(2:Nat)^(53+bo)≤2^av.bR:=dB (by omega) (by omega);omega
    ·exact ao
   constructor
   ·rcases cX with cX | cX
    ·exact cX
    ·omega
   ·exact lB
  obtain⟨o3,lB⟩:=dy;have ad:av.j0 a=av.D.word (av.cy a) (bo*4503599627370496+M):=by
   rw[av.Uj h.fin,av.pk h,aG,av.Yc bD cX dU]
  obtain⟨cq,aP,cc⟩:=av.oX (av.cy a) (r:=bo*4503599627370496+M) (by omega);have aB:∀w,aq ak 169 #[.float .f64 (av.j0 a)] w (HO (av.j0 a) 0 w):=fun w=>acL _ bn.lt bn.fin (by rw[ad,cq];omega) w;have hx:Mn (av.j0 a) (av.D.word (av.cy a) (1021*4503599627370496+M)) (bo-1021):=acU _ _ _ (fun w=>by
   have:=apk (av.j0 a) (av.j0 a) M bo (av.cy a) 0 w bn.lt bn.fin (by rw[ad,cq];omega) aB ad o3 bD dU (by omega);rw[Int.add_zero] at this;exact this)
  obtain⟨v1,v2,v3⟩:=av.oX (av.cy a) (r:=1021*4503599627370496+M) (by omega);obtain⟨DK,Um⟩:∃DK:Int,(if av.cy a then -(M:Int) else M)=DK:=⟨_,rfl⟩;have ayN:DK.natAbs=M:=by rw[←Um];split<;>omega
  have an:av.mz (av.lr (av.D.word (av.cy a) (1021*4503599627370496+M)) 53) (DK*2^av.bR):=by
   rw[av.apq _ bD o3,av.Au,show ((0:Int)+1074).toNat=av.bR by omega,show (-((0:Int)+1074)).toNat=0 by omega,hn];refine (av.Gy _ (n:=M*2^av.bR) (by omega) (fI _).symm ⟨_,_,rfl,bD,by omega⟩).of_eq ?_;rw[←Um];push_cast;split
   ·rw[BW]
   ·rfl
  have aD:floatToIntVal .f64 (av.lr (av.D.word (av.cy a) (1021*4503599627370496+M)) 53) .i64=U DK:=by
   have:=Ul an.fin (by rw[av.pk an,DJ];omega);rw[av.pk an,DJ] at this;exact this
  have Un:x.natAbs/2^av.bR*2^av.bR=M*2^bo:=aG;obtain⟨s1,s2⟩:=av.ac0 h;have jL:av.kx x=if av.cy a then -((x.natAbs/2^av.bR:Nat):Int) else ((x.natAbs/2^av.bR:Nat):Int):=by
   unfold av.kx;cases a1:av.cy a
   ·have:=s2 a1;rw[aU (by omega),aU (by simp)]
   ·have:=s1 a1;rw[ba rfl,ba (by
     rcases xA x 0 with h | h
     ·exact h
     ·exfalso;have:x=0:=by omega
      subst this;simp at dZ)]
  refine acV a (av.j0 a) _ _ (bo-1021) DK (av.kx x) w h.lt h.fin rfl hx v3 rfl aD (by omega) (by omega) ?_ ?_
  ·intro he;have ayO:bo<1074:=by omega
   have bg:(av.kx x).natAbs≤9007199254740992:=by
    rw[hcut];have b1:M*2^bo≤9007199254740992*2^av.bR:=kz (by omega) (dB (by omega) (by omega));rw[←Un] at b1;exact By b1 (ez _)
   refine⟨?_,bg⟩;have:=Ul bn.fin (by rw[av.pk bn,DJ];exact bg);rw[av.pk bn,DJ] at this;exact this
  ·intro he;have ac2:((bo:Int)-1021-53).toNat+av.bR=bo:=by omega
   generalize ((bo:Int)-1021-53).toNat=k at ac2 ⊢;have HS:x.natAbs/2^av.bR=M*2^k:=by
    rw[←ac2,cm,←cE] at Un;exact D8 (ez _) Un
   rw[jL,HS,←Um];push_cast;split
   ·rw[BW]
   ·rfl
end Go.Proofs.YtkhphoonnkoipaaGreatDoor
namespace Go.Proofs.YtkhphoonnkoipaaGreatDoor.av
open Ieee
theorem apO {p e:Nat} (h:p/2^e<9007199254740992):e8 p (2^e)≤9007199254740992:=by
 unfold e8;have:(au (2^e<2*(p%2^e))||(2^e==2*(p%2^e)&&p/2^e%2==1)).toNat≤1:=by
  cases (au (2^e<2*(p%2^e))||(2^e==2*(p%2^e)&&p/2^e%2==1))<;>simp
 omega
theorem Mu (p:Nat):er p 1=min ((p.log2-52)*4503599627370496+e8 p (2^(p.log2-52))) 9218868437227405312:=by
 unfold er;rw[uD,fW]
theorem apP (p:Nat):p/2^(p.log2-52)<9007199254740992:=by
 rw[kQ (ez _),show (9007199254740992:Nat)=2^53 from rfl,←cm];exact cv oM (dB (by decide) (by omega))
theorem apQ {p:Nat} (h:52≤p.log2):4503599627370496≤p/2^(p.log2-52):=by
 have ar:p≠0:=by intro ar;subst ar;simp at h
 rw[kP (ez _),show (4503599627370496:Nat)=2^52 from rfl,←cm,show 52+(p.log2-52)=p.log2 by omega];exact sa ar
theorem apR {M bo:Nat} (aa:M≤9007199254740992) (ae:4503599627370496≤M):er (M*2^bo) 1=min (bo*4503599627370496+M) 9218868437227405312:=by
 rw[Mu];by_cases h:M=9007199254740992
 ·subst h;have e:(9007199254740992:Nat)*2^bo=2^(bo+53):=by rw[show (9007199254740992:Nat)=2^53 from rfl,←cm,jv]
  have ao:(9007199254740992*2^bo).log2=bo+53:=by rw[e,Nat.log2_two_pow]
  rw[ao,KZ,e,show bo+53-52=bo+1 by omega,show bo+53=52+(bo+1) by omega,cm];have:=zJ (2^52) 0 (bo+1);rw[hc] at this;rw[this,tf,show (bo+1)*4503599627370496+2^52=bo*4503599627370496+9007199254740992 by omega]
 ·have Kb:M≠0:=by omega
  have ao:(M*2^bo).log2=bo+52:=by
   rw[xG Kb,Gx (l:=52) (by omega) (by omega)];omega
  rw[ao,KZ,show bo+52-52=bo by omega];have:=zJ M 0 bo;rw[hc] at this;rw[this,tf]
theorem apS {a b c d C:Nat} (k:Nat) (h:a*C+b=c*C+d):(a+k)*C+b=(c+k)*C+d:=by rw[ff,ff];omega
theorem apT {m k:Nat} (ar:m≠0) (hm:m<18446744073709551616):lr (j9 m) k=D.word ab (er (m*2^bR*2^k) 1):=by
 have ef:=oE;have Fk:m*2^bR≠0:=Od ar (by have:=ez bR;omega);have qg:(m*2^bR).log2=m.log2+bR:=xG ar _;have ayP:m.log2<64:=(nX ar).2 (by omega);obtain⟨e,he⟩:∃e,(m*2^bR).log2-52=e:=⟨_,rfl⟩;obtain⟨M,dy⟩:∃M,e8 (m*2^bR) (2^e)=M:=⟨_,rfl⟩;have o3:M≤9007199254740992:=by
  rw[←dy];apply apO;rw[←he];exact apP _
 have uM:4503599627370496≤M:=by
  have:=apQ (p:=m*2^bR) (by omega);rw[he] at this;rw[←dy];unfold e8;omega
 have aF:er (m*2^bR) 1=e*4503599627370496+M:=by
  rw[Mu,he,dy];refine h2 ?_;omega
 have iK:er (m*2^bR*2^k) 1=min ((e+k)*4503599627370496+M) 9218868437227405312:=by
  rw[Mu,xG Fk,show (m*2^bR).log2+k-52=e+k by omega,cm,CX _ _ (ez _),dy]
 have bd:j9 m=D.word ab (e*4503599627370496+M):=by
  rw[Ue,Es,aF,bx (by omega)]
 obtain⟨A5,lG,bD,cX,dU,e9⟩:∃A5 lG,A5<9007199254740992∧4503599627370496≤A5∧lG*4503599627370496+A5=e*4503599627370496+M∧lG≤2045:=by
  by_cases h:M=9007199254740992
  ·exact⟨4503599627370496,e+1,by omega,by omega,by omega,by omega⟩
  ·exact⟨M,e,by omega,by omega,rfl,by omega⟩
 have hj:(lG+k)*4503599627370496+A5=(e+k)*4503599627370496+M:=apS k dU;rw[bd,←dU];obtain⟨v1,v2,v3⟩:=oX ab (r:=lG*4503599627370496+A5) (by omega);have mG:dC (D.word ab (lG*4503599627370496+A5))=ab:=by unfold dC;rw[v1];exact bx (by omega)
 unfold lr;rw[mG,aU (by decide),RJ ab bD (.inl cX) e9];simp only[scaled,Format.write];rw[Au,show ((lG:Int)-1074+(k:Int)+1074).toNat=lG+k by omega,show (-((lG:Int)-1074+(k:Int)+1074)).toNat=0 by omega,hn,apR (by omega) cX,hj];exact eS _ iK.symm
def heads (V k:Nat):Nat:=if V/2^k*2^k=V then V/2^k else V/2^k ||| 1
theorem HT (T:Nat):T ||| 1=2*(T/2)+1:=by
 have h:=oJ (i:=1) (b:=1) (by decide) (T/2);apply Eh;intro i;cases i with
 | zero=>simp
 | succ i=>
   rw[Nat.testBit_or,Oc,Oc,Oc,show (2*(T/2)+1)/2=T/2 by omega];simp
theorem apU (V k:Nat):heads V k=my V (2^(k+1)):=by
 have aA:0<2^k:=ez k;have aa:V/2^(k+1)=V/2^k/2:=by rw[ei,hE]
 have ae:V%2^(k+1)=V%2^k+2^k*(V/2^k%2):=by rw[ei,E6]
 have aJ:=ky V (2^k);have bQ:V/2^k*2^k=V↔V%2^k=0:=by rw[dx];omega
 unfold heads my;rw[aa,ae];by_cases aF:V%2^k=0
 ·rw[ba (bQ.2 aF),aF,hc];rcases Bz (V/2^k)with h | h
  ·rw[h,oQ];simp;omega
  ·rw[h,fI,show (2^k != 0)=ai by simp];simp;omega
 ·rw[aU (fun h=>aF (bQ.1 h)),HT,show (V%2^k+2^k*(V/2^k%2) != 0)=ai by simp;omega];rfl
theorem apV {V k:Nat} (h:k=0∨18014398509481984≤V/2^k):er (heads V k*2^bR*2^k) 1=er (V*2^bR) 1:=by
 rcases h with h | h
 ·subst h;unfold heads;simp
 ·have aa:9007199254740992≤V/2^(k+1):=by rw[ei,←hE];omega
  have:=Yb V (2^(k+1)) (bR+k) 0 (ez _) aa;rw[hn,fI,←apU,cm 2 bR k,←cE] at this;rw[←this,show bR+k+1=bR+(k+1) by omega,cm 2 bR (k+1),←cE];have e:=CY (V*2^bR) 1 (ez (k+1));rw[fW] at e;exact e
theorem apW {V:Nat} (ar:V≠0) (h:1100≤V.log2):er (V*2^bR) 1=9218868437227405312:=by
 have ef:=oE;rw[Mu,xG ar];refine EA ?_;omega
end Go.Proofs.YtkhphoonnkoipaaGreatDoor.av
namespace Go.Proofs.YtkhphoonnkoipaaGreatDoor
theorem ac3 (a:Nat):Extern.MathSqrt.sqrt #[.float .f64 a]=(match FloatKind.f64.format.sqrt a with
 | some r=>pure (.float .f64 r)
 | none=>do pure (.float .f64 (←choose (.nanBits .f64 a a)))):=rfl
theorem apx (a r:Nat) (w:af) (h:av.D.sqrt a=U r):(callFunc 174 #[.float .f64 a]).run ak w=.ok (.value (.float .f64 r)) w:=by
 rw[zg func174 (by kernel_rfl) (by kernel_rfl) (by kernel_rfl) (show Extern.find _=U Extern.MathSqrt.sqrt by kernel_rfl)];rw[ac3,show FloatKind.f64.format.sqrt a=U r from h];rfl
theorem apy (a:Nat) (w:af) (h:av.D.sqrt a=J):∃q,av.dC q=ai∧(callFunc 174 #[.float .f64 a]).run ak w=.ok (.value (.float .f64 q)) w.drew:=by
 refine⟨_,av.Wg a a (w.tape w.drawn (.nanBits .f64 a a)),?_⟩;rw[zg func174 (by kernel_rfl) (by kernel_rfl) (by kernel_rfl) (show Extern.find _=U Extern.MathSqrt.sqrt by kernel_rfl)];rw[ac3,show FloatKind.f64.format.sqrt a=J from h];simp[Question.forced]
theorem apz (a:Nat) (w:af):aq ak 89 #[.int .u64 a] w fun e w'=>e=.returned (.int .u64 (av.Fb a:Nat))∧ah w.heap.size w w':=by
 cases h:av.D.sqrt a with
 | some r=>
   have ae:=fun (w:af)=>apx a r w h;have di:=I (fun w=>show aq ak 144 #[.float .f64 a] w fun e w'=>e=.returned (.float .f64 r)∧w=w' by
    go_enter func144,ntmps144;go_wp2;go_ret;exact⟨rfl,rfl⟩)
   have bc:=I (show av.told r=av.Fb a by unfold av.told av.Fb;rw[av.afS h,h];rfl);clear h ae;go_enter func89,ntmps89;go_wp2_with ((refine (h3 _ _).mono ?_;rintro e w' ⟨rfl,rfl⟩));refine (di.out _).mono ?_;rintro e w' ⟨rfl,rfl⟩;go_wp2_with fail;refine (nx _ _).mono ?_;rintro e w' ⟨rfl,rfl⟩;go_wp2;go_ret;exact⟨jf (by rw[bc.out]),aK _ _⟩
 | none=>
   obtain⟨q,aE,ae⟩:=apy a w h;have di:=I (show aq ak 144 #[.float .f64 a] w fun e w'=>e=.returned (.float .f64 q)∧w'=w.drew by
    go_enter func144,ntmps144;go_wp2;go_ret;exact⟨rfl,rfl⟩)
   have bc:=I (show av.told q=av.Fb a by rw[av.Ff aE];unfold av.Fb;rw[h];rfl);clear h ae aE;go_enter func89,ntmps89;go_wp2_with ((refine (h3 _ _).mono ?_;rintro e w' ⟨rfl,rfl⟩));refine di.out.mono ?_;rintro e w' ⟨rfl,rfl⟩;go_wp2_with fail;refine (nx _ _).mono ?_;rintro e w' ⟨rfl,rfl⟩;go_wp2;go_ret;exact⟨jf (by rw[bc.out]),(aK _ _).drew⟩
theorem apA (a:Nat) (w:af) (aS:a<18446744073709551616) (bd:9218868437227405312≤a%9223372036854775808) :
 aq ak 93 #[.int .u64 a] w fun bm w'=>bm=.returned (.tuple #[.agg #[.bool ab,.string ⟨#[]⟩],.int .i64 101])∧ah w.heap.size w w':=by
 have bZ:=I (fun w=>FI a aS w);rw[bx (by omega)] at bZ;clear bd;go_enter func93,PF;go_wp2_with (first | (refine (h3 _ _).mono ?_;rintro e w' ⟨rfl,rfl⟩) | (refine (bZ.out _).mono ?_;rintro e w' ⟨rfl,rfl⟩));have hh:(w.alloc (.cells #[.bool ab,.string ⟨#[]⟩] 46)).heap[w.heap.size]? = U (.cells #[.bool ab,.string ⟨#[]⟩] 46):=fX _ _;have az:ah w.heap.size w (w.alloc (.cells #[.bool ab,.string ⟨#[]⟩] 46)):=(aK _ _).alloc (aC _) _;generalize w.alloc (.cells #[.bool ab,.string ⟨#[]⟩] 46)=cq at hh az ⊢;have c0:cq.cell? ⟨w.heap.size,0,J⟩=U (.bool ab):=by simp[World.cell?,hh]
 have c1:cq.cell? ⟨w.heap.size,1,J⟩=U (.string ⟨#[]⟩):=by simp[World.cell?,hh]
 refine bI (v:=.tuple #[.agg #[.bool ab,.string ⟨#[]⟩],.int .i64 101]) (by simp[bK,OK,go_sem,c0,c1]) rfl ⟨rfl,az⟩
theorem apB (a:Nat) (w:af) (aS:a<18446744073709551616) (bd:9218868437227405312≤a%9223372036854775808) :
 aq ak 88 #[.int .u64 a] w fun bm w'=>bm=.returned (.int .u64 9221120237041090560)∧w=w':=by
 have bZ:=I (fun w=>FI a aS w);rw[bx (by omega)] at bZ;clear bd;go_enter B0,E2;go_wp2_with (first | (refine (h3 _ _).mono ?_;rintro e w' ⟨rfl,rfl⟩) | (refine (bZ.out _).mono ?_;rintro e w' ⟨rfl,rfl⟩));go_ret;exact⟨rfl,rfl⟩
end Go.Proofs.YtkhphoonnkoipaaGreatDoor
