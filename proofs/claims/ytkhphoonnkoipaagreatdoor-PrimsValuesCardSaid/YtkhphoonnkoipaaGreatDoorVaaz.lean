/- Lemmas. -/
import Derived.Test.YtkhphoonnkoipaaGreatDoorVaay
import Derived.Laws.CopyOwn
import Derived.Test.YtkhphoonnkoipaaGreatDoorVaax
set_option linter.all false
set_option maxHeartbeats 8000000
set_option maxRecDepth 4000
open Go.Proofs.Tryz Go.RowKit Go.Lib
open Option renaming none→J,some→U
open Bool renaming false→ab
open Decidable renaming decide→au
open Go renaming World→af,Value→aw,Calls→aq,results→bK
open Go.RowKit renaming Below→ah,Hid→aj
open Go.Proofs.Tryz renaming prog→ak
namespace Go.Proofs.YtkhphoonnkoipaaGreatDoor
theorem amW (x:Nat) (w:af) (hx:x<4294967296) :
 aq ak 130 #[.int .u32 x] w fun e w'=>e=.returned (.int .i64 (32-(Lib.bitLen x:Int)))∧w=w':=by
 have b3:=I (fun w=>bits_Len32 (x:Int) w (by omega) (by omega));have k1:Lib.bitLen x≤32:=B3 x 32 (by omega) (by omega);rw[qc] at b3;obtain⟨L,hH⟩:∃L,Lib.bitLen x=L:=⟨_,rfl⟩;rw[hH] at b3 k1 ⊢;clear hH;go_enter func130,ntmps130;go_wp2_with fail;refine (b3.out _).mono ?_;rintro e w' ⟨rfl,rfl⟩;go_wp2;go_ret;exact⟨rfl,rfl⟩
theorem abA (v:aw) (N cz:Nat) (w:af) (h:b2 w v (o.wd N)) (ao:(o.wd N).length≤2000) (a1:cz<32) :
 aq ak 74 #[v,.int .u64 cz] w fun e w'=>∃dv,e=.returned dv∧b2 w' dv (o.wd (N*2^cz))∧ah w.heap.size w w':=by
 have aa:=QY v (o.wd N) cz w h ao (o.fa N) (by omega);have bV:N*2^cz<4294967296^(cz/32+(o.wd N).length+1):=by
  have ae:=o.n9 (o.fa N);rw[o.eA] at ae;have aJ:(2:Nat)^cz≤2^32:=dB (by decide) (by omega);rw[show cz/32=0 by omega,hc,ei];exact cv (jG ae (ez _)) (gp _ aJ)
 rw[o.eA,show QX w (cz/32+(o.wd N).length+1) (N*2^cz)=fun e w'=>∃dv,e=.returned dv∧b2 w' dv (o.gh (o.ec (cz/32+(o.wd N).length+1) (N*2^cz)))∧ah w.heap.size w w' from rfl,o.tC (fun x hx=>o.z7 hx) (o.FX _ _ bV)] at aa;exact aa
theorem amX (v:aw) (N cz:Nat) (w:af) (h:b2 w v (o.wd N)) (ao:(o.wd N).length≤2000) (a1:cz<32) :
 aq ak 75 #[v,.int .u64 cz] w (Gz w (o.wd (N/2^cz))):=by
 have e:o.shr (o.wd N) cz=o.wd (N/2^cz):=by
  have ae:=o.n9 (o.fa N);rw[o.eA] at ae;unfold o.shr;rw[o.eA,show cz/32=0 by omega,BU];exact o.tC (fun x hx=>o.z7 hx) (o.FX _ _ (gQ (s9 _ _) ae))
 rw[←e];rcases kd (o.wd N).length with ar | ar
 ·exact Yh v _ cz w h (by omega) (by omega)
 ·exact Yi v _ cz w h ao (o.fa N) (by omega) (by omega)
theorem amY (us:List Nat) (n:Nat):splice (ib (List.replicate n 0)) 0 (ib us)=ib (us++List.replicate (n-us.length) 0):=by
 unfold splice;rw[Xw,F5];simp[ib]
theorem abB {w:af} {g n LX:Nat} {Tl:Option Addr} {us:List Nat} (cj:fc w g (List.replicate n 0)) (Hh:b2 w (.slice Tl us.length LX) us) (ao:us.length≤n) :
 ∃w',(Builtin.copy_ #[83,83] 3 #[.slice (U ⟨g,0,J⟩) n n,.slice Tl us.length LX]).run ak w=.ok (goInt us.length) w'∧fc w' g (us++List.replicate (n-us.length) 0)∧ah g w w':=by
 obtain⟨i0,aV,eo,eP,eL⟩:=oU sr;have b5:(prog.info? 96).map (·.size)=U 1:=by rw[aV];simp[eP]
 rcases Hh with ⟨aa,ae⟩ | ⟨b,cap,aa,ae,aJ,bQ⟩
 ·subst ae;refine⟨w,?_,by simpa using cj,aK _ _⟩;exact run_copy_none w _ _ _ _ _ _ _ _ _ _ qd b5 (by simp)
 ·injection aa with aH _ _;subst aH;have oi:=run_copy_row (P:=ak) w 83 83 3 96 g 0 n n ⟨b,0,J⟩ us.length LX (hg (List.replicate n 0)) 96 (ib us) qd b5 cj (by rw[F5];exact (h2 ao).symm) (fun j v bP=>by
   rw[B2,hc];unfold ib at bP;rw[ps] at bP;obtain⟨x,hx,rfl⟩:=Option.map_eq_some_iff.1 bP;exact bQ j x hx) (by rw[F5];simpa[hg] using ao) (fun v aD=>by
   obtain⟨x,_,rfl⟩:=List.mem_map.1 aD;rfl)
  rw[F5] at oi;refine⟨_,oi,?_,below_setRow (aK _ _) (aC _) _⟩;unfold fc;rw[setRow_heap w g _ _ _ _ cj];have e:=amY us n;unfold splice at e;rw[F5] at e;simp only[N9] at e ⊢;rw[show (hg (List.replicate n 0)).toList=ib (List.replicate n 0) from rfl,e];rfl
theorem oA.of {w:af} {g:Nat} {cur pre us post:List Nat} {p n N:Nat} (h:fc w g cur) (e:cur=pre++(us++post)) (hp:pre.length=p) (aB:us.length=n) (cW:p+n+post.length=N) (ws:o.dI us):oA w g pre us post p n N:=⟨by rw[←e];exact h,hp,aB,cW,ws⟩
theorem lk.row {g pD:Nat} {w w':af} {zs:List Nat} (h:lk g w w') (aF:fc w pD zs) (dT:pD≠g):fc w' pD zs:=by
 unfold fc;rw[h.rest pD dT];exact aF
theorem amZ {B m:Nat} (h:(o.wd B).length=m+1):∃L,Lib.bitLen ((o.wd B).getD m 0)=L∧2^(L-1)≤(o.wd B).getD m 0∧(o.wd B).getD m 0<2^L∧0<L∧L≤32:=by
 have ar:(o.wd B).getD m 0≠0:=by
  rcases o.uT B with e | ⟨l,c,e,an⟩
  ·rw[e] at h;simp at h
  ·rw[e] at h ⊢;have ao:l.length=m:=by simpa using h
   rw[e5,Bx (by omega),ao,oR];exact an
 have hw:=o.ia (o.fa B) m;generalize (o.wd B).getD m 0=t at *;have hH:t.log2+1=Lib.bitLen t:=by rw[RG ar (show t<18446744073709551616 by omega)]
 refine⟨_,rfl,?_,?_,?_,B3 t 32 (by omega) (by omega)⟩
 ·rw[←hH,nt];exact sa ar
 ·rw[←hH];exact oM
 ·rw[←hH];omega
theorem am0 (e6 fz:aw) (A B:Nat) (w:af) (hx:b2 w e6 (o.wd A)) (aW:b2 w fz (o.wd B)) (yc:(o.wd A).length≤1500) (rD:2≤(o.wd B).length) (fR:B≤A) :
 aq ak 61 #[e6,fz] w (CP w A B):=by
 obtain⟨i0,aV,eo,eP,eL⟩:=oU sr;obtain⟨m,hm⟩:∃m,(o.wd B).length=m+2:=⟨(o.wd B).length-2,by omega⟩;have hlen:m+2≤(o.wd A).length:=by
  rw[←hm];refine o.An ?_;have:=o.n9 (o.fa A);rw[o.eA] at this;omega
 have bJ:=I (F3 e6 fz _ _ w hx aW (by omega) (by omega) (o.fa A) (o.fa B));rw[o.eA,o.eA] at bJ;have b6:au (o.hV A B<0)=ab:=bx (by unfold o.hV;rw[aU (by omega)];split<;>omega);obtain⟨L,hH,Co,Cp,S',abC⟩:=amZ hm;obtain⟨LY,Hi,Dr,Hj⟩:=o.amv hm rfl Co Cp S' abC;obtain⟨up,sQ⟩:∃up,32-L=up:=⟨_,rfl⟩;rw[sQ] at LY Hi Dr Hj;have Tm:up<32:=by omega
 have oC:0<2^up:=ez _;have be:A<4294967296^(o.wd A).length:=by
  have:=o.n9 (o.fa A);rwa[o.eA] at this
 have ym:4294967296^(m+1)≤B:=by
  have:=o.F7 (o.uT B) (fun e=>by rw[e] at hm;simp at hm);rwa[o.eA,hm] at this
 have AV:0<B:=cv (dK (by decide)) ym;have b3:aj (∀us cur qs,o.rU us cur qs (B*2^up) 0→o.num us=A*2^up→m+2≤cur.length→o.num qs=A/B∧o.num (cur.take (m+2))=A%B*2^up):=I (fun us cur qs h hu an=>by
  have aa:=h.done hu Dr (lM AV oC) an;rw[vG _ _ oC,IM] at aa;exact aa)
 have nJ:=I (fun W (v:aw) (h:b2 W v (o.wd B))=>abA v B up W h (by omega) Tm);have Hk:=I (fun W (v:aw) (h:b2 W v (o.wd A))=>abA v A up W h (by omega) Tm);have Ds:=I (fun W (v:aw) (h:b2 W v (o.wd (A%B*2^up)))=>amX v (A%B*2^up) up W h (cp (o.An (k:=m+2) (by
  have aa:A%B*2^up<B*2^up:=jG (eW _ AV) oC;exact Pv aa Dr)) (by omega)) Tm)
 simp only[BI _ oC] at Ds;have yH:(o.wd (A*2^up)).length≤(o.wd A).length+1:=by
  refine o.An ?_;rw[ei];have aJ:(2:Nat)^up≤2^32:=dB (by decide) (by omega);exact cv (jG be oC) (gp _ aJ)
 have ua:=I (fun (us:List Nat) (k:Nat) (aA:k+(m+2)=(o.wd A).length+1) (aa:o.num us=A*2^up) (ae:us.length=(o.wd A).length+1)=>o.amx (A:=A) (B:=B) (s:=2^up) (nB:=m+2) aA (by omega) be (by simpa using ym) oC aa ae);obtain⟨V,cA⟩:∃V,B*2^up=V:=⟨_,rfl⟩;obtain⟨bo,lB⟩:∃bo,A*2^up=bo:=⟨_,rfl⟩;have pR:0<V:=by rw[←cA];exact lM AV oC
 rw[cA] at LY Hi Dr b3 nJ ua;rw[lB] at b3 Hk ua yH;have am1:=I Dr;have Hl:=o.ia (o.fa B) (m+1);have Hm:=I (fun W=>amW ((o.wd B).getD (m+1) 0) W Hl);rw[hH] at Hm;have am2:(32:Int)-(L:Int)=(up:Int):=by omega
 rw[am2] at Hm;obtain⟨cx,ct,rfl⟩:=hx.form;obtain⟨eB,eC,rfl⟩:=aW.form;have b9:=I hx;have hi:=I aW;obtain⟨n,aB⟩:∃n,(o.wd A).length=n:=⟨_,rfl⟩;rw[aB] at b9 bJ yc hlen yH ua ⊢;obtain⟨Dk,rfl,tg,gP⟩:=aW.at (k:=m+1) (by omega);obtain⟨t,bn⟩:∃t,(o.wd B).getD (m+1) 0=t:=⟨_,rfl⟩;rw[bn] at gP Hl Hm;rw[hm] at hi bJ ⊢;obtain⟨ord,abD⟩:∃a7,o.hV A B=a7:=⟨_,rfl⟩;rw[abD] at bJ b6;obtain⟨rW,am3⟩:∃rW,rW+(m+2)=n+1:=⟨n+1-(m+2),by omega⟩;have Cm:aj ((o.wd V).length=m+2):=I LY;have Fy:=I Hi;clear hx aW hm aB hH Co Cp S' abC sQ LY Hi Dr Hj be ym AV cA lB fR abD bn rD oC;have jl:((m+2:Nat):Int)-1=((m+1:Nat):Int):=by omega
 have hd:(((m+2:Nat):Int)==1)=ab:=by rw[cH];omega
 have axR:IntKind.u64.wrap (up:Int)=(up:Int):=by rw[ha];omega
 go_enter func61,Pu;go_wp2_with fail;refine bJ.out.mono ?_;rintro e cq ⟨rfl,dD⟩;have Rp:cq.cell? ⟨Dk,m+1,J⟩=U (.int .u32 (t:Nat)):=by rw[dD.cell (p:=⟨Dk,m+1,J⟩) tg];exact gP
 have cQ:=I dD;have Hn:=I (b9.out.below dD);have abE:=I (hi.out.below dD);have dH:=dD.size;clear dD bJ gP;go_wp2_with fail;refine (Hm.out _).mono ?_;rintro e w' ⟨rfl,rfl⟩;go_wp2_with fail;refine (nJ.out _ _ (by exact abE.out)).mono ?_;rintro e aP ⟨LF,rfl,pZ,bg⟩;obtain⟨c7,fj,rfl⟩:=pZ.form;rw[Cm.out];have bL:=I (chain cQ.out bg dH);have lY:=I (Hn.out.below bg);have Tn:=I pZ;have dY:w.heap.size≤aP.heap.size:=cp dH bg.size;clear bg Rp Hm Hn abE cQ pZ;go_wp2_with (at_make;refine s8 _ rfl _ _ 83 rfl aP.heap.size 96 i0 (.int .u32 0) 1 qd aV eo eP .i64 .i64 _ _ (n+1) rfl rfl (by omega) (by omega) (by rw[eL];omega) (by unfold maxLen;omega) (by simp) ?_);intro cc abF tP;obtain⟨qZ,LZ⟩:∃g,aP.heap.size=g:=⟨_,rfl⟩;have cj:=x7 abF;rw[LZ] at cj dY ⊢;have bu:=I (show ah qZ aP cc from (aK _ _).grown tP (by omega) (fun k aA=>by cases aA));have fF:=I cj;have jQ:=I (lY.out.below (by rw[LZ];exact bu.out));have Cl:aj (∀b,c7=U ⟨b,0,J⟩→b<qZ):=I (fun b ad=>by
  obtain⟨b',e,bV,_⟩:=Tn.out.at (k:=0) (by rw[Cm.out];omega);rw[e] at ad;injection ad with ad;injection ad with ad;omega)
 have am4:aj (∀W,ah qZ aP W→b2 W (.slice c7 (m+2) fj) (o.wd V)):=I (fun W ad=>by
  have aa:=Tn.out.below (w':=W) (by rw[LZ];exact ad);rwa[Cm.out] at aa)
 have o5:=I dY;clear abF tP cj LZ lY Tn dY;have uc:=fF.out.lt;go_wp2_with fail;refine (Hk.out _ _ (by exact jQ.out)).mono ?_;rintro e aQ ⟨axS,rfl,Hh,bb⟩;have To:fc aQ qZ (List.replicate (n+1) 0):=by unfold fc;rw[bb.block _ uc];exact fF.out
 have eN:=I (bu.out.trans (bb.mono (by omega)));have axT:qZ<aQ.heap.size:=To.lt;obtain⟨Tl,LX,rfl⟩:=Hh.form;obtain⟨cf,oi,L0,bf⟩:=abB To Hh yH;obtain⟨gx,Dt⟩:∃gx,(o.wd bo).length=gx:=⟨_,rfl⟩;obtain⟨ue,Tp⟩:∃ue,o.wd bo++List.replicate (n+1-(o.wd bo).length) 0=ue:=⟨_,rfl⟩;have yJ:aj (o.num ue=bo∧ue.length=n+1∧o.dI ue):=I (by
  rw[←Tp];refine⟨?_,?_,?_⟩
  ·rw[o.xW,o.FZ,o.eA];simp
  ·rw[ey,BC];omega
  ·intro x hx;rcases List.mem_append.1 hx with hx | hx
   ·exact o.fa bo x hx
   ·exact o.z8 _ x hx)
 rw[Tp] at L0;have Ho:qZ<cf.heap.size:=L0.lt;have abG:=I L0;have dc:=I (eN.out.trans bf);rw[Dt] at yH oi ⊢;have ajT:(n:Int)+1-((m:Int)+2)=(rW:Int):=by omega
 clear bb Hh jQ bu fF To uc L0 bf eN Dt Tp Hk nJ;go_wp2_with (at_make;refine s8 _ rfl _ _ 83 rfl cf.heap.size 96 i0 (.int .u32 0) 1 qd aV eo eP .i64 .i64 _ _ rW rfl rfl (by omega) (by omega) (by rw[eL];omega) (by unfold maxLen;omega) (by simp) ?_);intro cw abH qH;obtain⟨q0,Hp⟩:∃g,cf.heap.size=g:=⟨_,rfl⟩;have Tq:=x7 abH;rw[Hp] at Tq Ho ⊢;have cL:ah q0 cf cw:=(aK _ _).grown qH (by omega) (fun k aA=>by cases aA);have gA:=I (dc.out.trans (cL.mono (qf Ho)));have Ly:=I Tq;have am5:aj (fc cw qZ ue):=I (by unfold fc;rw[cL.block _ Ho];exact abG.out);clear abH qH Tq Hp cL abG dc aV eo eP eL oi;have abI:q0≠qZ:=by omega
 go_wp2;go_loopw [13] (fun Tr wr=>∃(k:Nat) (cur qs:List Nat),k≤rW∧Tr=.int .i64 ((k:Int)-1)∧fc wr qZ cur∧fc wr q0 qs∧qs.length=rW∧o.dI qs∧aj (o.rU ue cur qs V k)∧ah qZ aP wr) (fun Tr _=>(RowKit.intOf Tr+1).toNat);case atStart=>exact⟨rW,ue,List.replicate rW 0,aC _,rfl,am5.out,Ly.out,by simp,o.z8 _,I (o.rU.start yJ.out.2.2 (ua.out ue rW am3 yJ.out.1 yJ.out.2.1) (by rw[List.drop_replicate,o.FZ])),gA.out⟩
 case round=>
  obtain⟨k,cur,qs,aA,rfl,Hq,lF,qA,L1,o6,iX⟩:=hrel;cases k with
  | succ j=>
    have p2:j+(m+2)<ue.length:=by rw[yJ.out.2.1];omega
    obtain⟨pre,mid,post,Ts,hp,hm,cW,SY,aX,_,fE,p4,bV⟩:=o6.out.open yJ.out.2.2 am1.out pR p2
    rw[yJ.out.2.1] at cW;have gV:oA wr qZ pre mid post j (m+3) (n+1):=oA.of Hq Ts hp (by omega) (by omega) SY;have AQ:=amy (o.wd V) pre mid post c7 fj qZ (n+1) m j (n+1) wr gV (am4.out wr iX) Cl.out Cm.out (o.fa V) Fy.out (by rw[o.eA];exact bV) (by omega);rw[o.eA] at AQ;have hL:=o.amt pR bV;have qY:=I (fun (yE:List Nat) (aa:yE.length=m+2+1) (ae:o.dI yE) (aJ:o.num yE=o.num mid%V)=>o.rU.next (qs:=qs) o6.out pR p2 (by rw[qA];omega) Ts hp fE hm aX p4 aa ae aJ);obtain⟨d,aL⟩:∃d,o.num mid/V=d:=⟨_,rfl⟩;obtain⟨r,aF⟩:∃r,o.num mid%V=r:=⟨_,rfl⟩;rw[aL,aF] at AQ;rw[aL] at hL;rw[aL,aF] at qY;have am6:=I AQ;have u0:=I lF;have uf:=I qA;have am7:=I L1;have eY:=I iX;have abJ:((j+1:Nat):Int)-1=(j:Int):=by omega
    rw[abJ];have am8:j<rW:=by omega
    clear Hq lF qA L1 o6 iX Ts hp hm cW SY aX fE p4 bV gV AQ aL aF p2 abJ;go_wp2_with fail;refine am6.out.mono ?_;rintro e fb ⟨yE,rfl,L2,abK,Tt,b5⟩;have L3:=Tt.row u0.out abI;have gz:=L3.cell (k:=j) (by rw[uf.out];exact am8);have lA:=L3.free j;have Tu:=I (L3.set j d);have L4:=I (L2.row.other (b:=q0) (k:=j) (v:=.int .u32 (d:Nat)) abI);have am9:=I (qY.out yE L2.aB L2.ws abK);have l0:=I ((eY.out.trans Tt.low).setCell (p:=⟨q0,j,J⟩) (qf Ho) (.int .u32 (d:Nat)));clear L3 L2 abK Tt b5;go_wp2;go_roundw;case rel=>exact⟨j,_,qs.set j d,by omega,by go_num,L4.out,Tu.out,by rw[mh];exact uf.out,am7.out.set j hL,am9,l0.out⟩
    case measure=>simp[RowKit.intOf]
  | zero=>
    have lX:cur.length=n+1:=by rw[o6.out.len];exact yJ.out.2.1
    have kF:=b3.out ue cur qs o6.out yJ.out.1 (by rw[lX];omega);have eX:b2 wr (.slice (U ⟨qZ,0,J⟩) (m+2) (n+1)) (cur.take (m+2)):=.inr ⟨qZ,n+1,by rw[gN,h2 (by omega)],by rw[gN];omega,Hq.lt,fun i x hx=>by
     rw[rb] at hx;split at hx
     ·obtain⟨aV,e⟩:=List.getElem?_eq_some_iff.1 hx;rw[Hq.cell aV,e5,hx];rfl
     ·cases hx⟩
    have tN:=qv _ _ wr eX (by rw[gN];omega);rw[show WV wr (cur.take (m+2))=fun e w'=>∃dv,e=.returned dv∧b2 wr dv (o.gh (cur.take (m+2)))∧wr=w' from rfl,o.tC ((o6.out.ws).take _) kF.2] at tN;have iO:=I tN;have abL:=I (fun (W:af) (h:b2 W (.slice (U ⟨q0,0,J⟩) rW rW) qs)=>qv _ _ W h (by rw[qA];omega));have et:=I (o.tC L1 kF.1);have u0:=I lF;have uf:=I qA;have eY:=I iX;clear Hq lF qA L1 o6 iX lX kF eX tN;have eP:au ((0:Int)≤((0:Nat):Int)-1)=ab:=by decide
    go_wp2_with fail;refine iO.out.mono ?_;rintro e w' ⟨jD,rfl,qX,rfl⟩;have CU:=I qX;obtain⟨yi,mC,rc,rfl⟩:=na qX;clear qX iO;go_wp2_with fail;refine (Ds.out _ _ (by exact CU.out)).mono ?_;rintro e hM ⟨jD,b,rfl,Tv,fS⟩;have Tw:fc hM q0 qs:=by unfold fc;rw[fS.block _ u0.out.lt];exact u0.out
    have Tx:=Tw.rd (cap:=rW) (by rw[uf.out];exact aC _);rw[uf.out] at Tx;have am':=I (abL.out hM Tx);have wN:=I Tv;have ku:=I (bL.out.trans ((eY.out.trans (fS.mono (qf (Pv Ho u0.out.lt)))).mono o5.out));obtain⟨d',axU,axV,rfl⟩:=na Tv;clear Tv fS Tw Tx abL Ds;go_wp2_with fail;refine am'.out.mono ?_;rintro e w' ⟨CQ,rfl,qX,rfl⟩;rw[et.out] at qX;have AL:=I qX;obtain⟨dQ,js,e1,rfl⟩:=na qX;clear qX;go_wp2;go_ret2;exact⟨_,_,rfl,AL.out,wN.out,ku.out⟩
theorem abM {A B:Nat} (be:A<256^4096) (az:B<256^4096) (ar:0<B):Lv A B:=fun e6 fz w hx aW=>by
 have ao:=cp (o.rF A be) (show 1024≤1500 by decide);have AV:o.wd B≠[]:=fun e=>by
  have:=o.eA B;rw[e] at this;simp[o.num] at this;omega
 rcases eh A B with h | h
 ·exact XP e6 fz A B w hx aW (by omega) (cp (o.rF B az) (by decide)) h
 ·have aa:0<(o.wd B).length:=List.length_pos_iff.2 AV;by_cases ae:(o.wd B).length=1
  ·exact XQ e6 fz A B w hx aW (by omega) ae h
  ·exact am0 e6 fz A B w hx aW ao (by omega) h
def o.p6 (n:Nat) (neg:Bool) (xs:List Nat):List Nat:=if neg then o.oB (xs++List.replicate (n-xs.length) 0) 1 else xs++List.replicate (n-xs.length) 0
theorem o.abN {n:Nat} {neg:Bool} {xs:List Nat} (h:xs.length≤n):(o.p6 n neg xs).length=n:=by
 unfold o.p6;split
 ·rw[o.S7,ey,BC];omega
 ·rw[ey,BC];omega
theorem o.abO {n:Nat} {xs:List Nat} (h:o.dI xs):o.dI (xs++List.replicate (n-xs.length) 0):=fun x hx=>by
 rcases List.mem_append.1 hx with hx | hx
 ·exact h x hx
 ·exact o.z8 _ x hx
theorem o.abP {n:Nat} {neg:Bool} {xs:List Nat} (h:o.dI xs):o.dI (o.p6 n neg xs):=by
 unfold o.p6;split
 ·exact o.S8 _ _
 ·exact o.abO h
theorem abQ (v:aw) (neg:Bool) (xs:List Nat) (n:Nat) (w:af) (h:b2 w v xs) (ao:xs.length≤n) (aB:n≤3000) (f':o.dI xs) :
 aq ak 132 #[.agg #[v,.bool neg],.int .i64 n] w fun e w'=>∃g,e=.returned (.slice (U ⟨g,0,J⟩) n n)∧fc w' g (o.p6 n neg xs)∧w.heap.size≤g∧ah w.heap.size w w':=by
 obtain⟨i0,aV,eo,eP,eL⟩:=oU sr;obtain⟨cx,ct,rfl⟩:=h.form;obtain⟨ag,a6⟩:∃ag,w.alloc (.cells #[.slice cx xs.length ct,.bool neg] 85)=ag:=⟨_,rfl⟩;have cY:aj (aI ag w.heap.size 85 (.slice cx xs.length ct) (.bool neg)):=I (by rw[←a6];exact aI.new _ _ _ _);have cQ:aj (ah w.heap.size w ag):=I (by rw[←a6];exact (aK _ _).alloc (aC _) _);have rG:aj (w.heap.size+1≤ag.heap.size):=I (by rw[←a6];simp);have KA:=I (h.below cQ.out);have mZ:=I f';clear h f';go_enter func132,ntmps132;go_wp2_with (at_make;refine s8 _ rfl _ _ 83 rfl ag.heap.size 96 i0 (.int .u32 0) 1 qd aV eo eP .i64 .i64 _ _ n rfl rfl (by omega) (by omega) (by rw[eL];omega) (by unfold maxLen;omega) (by simp) ?_);intro aP iJ gJ;obtain⟨g,eT⟩:∃g,ag.heap.size=g:=⟨_,rfl⟩;have cj:=x7 iJ;rw[eT] at cj ⊢;have ly:=I eT;have bL:aj (ah g ag aP):=I (show ah g ag aP from (aK _ _).grown gJ (by omega) (fun k aA=>by cases aA));have lY:=I (KA.out.below (by rw[eT];exact bL.out));obtain⟨cc,oi,abR,cK⟩:=abB cj lY.out ao;have fF:=I abR;have c8:=I (cY.out.below (by rw[eT];exact bL.out));have bu:=I (bL.out.trans cK);have jU:aj (aI cc w.heap.size 85 (.slice cx xs.length ct) (.bool neg)):=I (cY.out.below (by rw[eT];exact bu.out));have L5:aj (w.heap.size+1≤g):=I (by rw[←eT];exact rG.out);obtain⟨cn,bY,_,_⟩:=c8.out.cells;obtain⟨b0,bD,_,_⟩:=jU.out.cells;have ana:=I ao;clear iJ gJ aV eo eP eL cj abR eT cK a6 ao;have rM:aj (ah w.heap.size w cc):=I (cQ.out.trans (bu.out.mono (by have:=L5.out;omega)));have hP:(xs++List.replicate (n-xs.length) 0).length=n:=by rw[ey,BC];have:=ana.out;omega
 have Hr:=I (abj g n n (xs++List.replicate (n-xs.length) 0) cc fF.out hP (by omega) (o.abO mZ.out));clear hP;cases neg
 ·clear Hr;go_wp2;go_ret;exact⟨g,rfl,fF.out,by have:=L5.out;omega,rM.out⟩
 ·go_wp2_with fail;refine Hr.out.mono ?_;rintro e aQ ⟨rfl,abS,uL⟩;have yj:=I abS;have eN:=I (rM.out.trans (uL.low.mono (by have:=L5.out;omega)));clear abS uL;go_wp2;go_ret;exact⟨g,rfl,yj.out,by have:=L5.out;omega,eN.out⟩
namespace o
noncomputable def L6 (A B:Int):Nat:=max (wd A.natAbs).length (wd B.natAbs).length+1
noncomputable def L7 (f:Nat→Nat→Nat) (A B:Int):List Nat:=List.zipWith f (p6 (L6 A B) (au (A<0)) (wd A.natAbs)) (p6 (L6 A B) (au (B<0)) (wd B.natAbs))
noncomputable def wV (f:Nat→Nat→Nat) (A B:Int):Int:=
 if (L7 f A B).getD (L6 A B-1) 0/2147483648=1 then cy true (num (oB (L7 f A B) 1)) else cy ab (num (L7 f A B))
end o
theorem Ty (F:Nat) (f:Nat→Nat→Nat) (A B:Int) (w:af) (be:o.bO A) (az:o.bO B) (bd:∀x y,x<4294967296→y<4294967296→f x y<4294967296)
 (jV:∀args W,(callFunc F args).run ak W=.ok (.enter F args) W) (hF:∀x y,x<4294967296→y<4294967296→∀W,aq ak F #[.int .u32 (x:Nat),.int .u32 (y:Nat)] W fun e w'=>e=.returned (.int .u32 (f x y:Nat))∧W=w') :
 aq ak 63 #[bz A,bz B,.func (.func F) #[] #[]] w (hX w (o.wV f A B)):=by
 obtain⟨i0,aV,eo,eP,eL⟩:=oU sr;have et:=I (fun W=>yg A B W be az);have Tz:=o.rF _ be;have TA:=o.rF _ az;obtain⟨R,bS⟩:∃R,o.wV f A B=R:=⟨_,rfl⟩;have yK:=bS;rw[bS];unfold o.wV o.L7 o.L6 at yK;obtain⟨bp,fi⟩:∃bp,au (A<0)=bp:=⟨_,rfl⟩;obtain⟨bt,gi⟩:∃bt,au (B<0)=bt:=⟨_,rfl⟩;have aS:bz A=.agg #[.bool bp,.string (ax (o.bs A.natAbs))]:=by unfold bz cO;rw[fi]
 have ad:bz B=.agg #[.bool bt,.string (ax (o.bs B.natAbs))]:=by unfold bz cO;rw[gi]
 rw[aS] at et ⊢;rw[ad] at et ⊢;rw[fi] at et yK;rw[gi] at et yK;generalize ax (o.bs A.natAbs)=d' at *;generalize ax (o.bs B.natAbs)=dN at *;generalize A.natAbs=bo at *;generalize B.natAbs=V at *;obtain⟨gx,Dt⟩:∃l,(o.wd bo).length=l:=⟨_,rfl⟩;obtain⟨gX,TB⟩:∃l,(o.wd V).length=l:=⟨_,rfl⟩;have Hk:=I Dt;have nJ:=I TB;rw[Dt] at Tz yK;rw[TB] at TA yK;have ql:max gx gX≤1024:=Nat.max_le.2 ⟨Tz,TA⟩;have abU:gx≤max gx gX:=Nat.le_max_left _ _;have L8:gX≤max gx gX:=Nat.le_max_right _ _;have anb:max (gx:Int) (gX:Int)=((max gx gX:Nat):Int):=by omega
 generalize max gx gX=dE at *;rw[nt] at yK;have abV:aj (∀W v,b2 W v (o.wd bo)→aq ak 132 #[.agg #[v,.bool bp],.int .i64 ((dE:Int)+1)] W fun e w'=>∃g,e=.returned (.slice (U ⟨g,0,J⟩) (dE+1) (dE+1))∧fc w' g (o.p6 (dE+1) bp (o.wd bo))∧W.heap.size≤g∧ah W.heap.size W w'):=I (fun W v h=>by rw[show (dE:Int)+1=((dE+1:Nat):Int) by omega];exact abQ v bp _ (dE+1) W h (by omega) (by omega) (o.fa _));have abW:aj (∀W v,b2 W v (o.wd V)→aq ak 132 #[.agg #[v,.bool bt],.int .i64 ((dE:Int)+1)] W fun e w'=>∃g,e=.returned (.slice (U ⟨g,0,J⟩) (dE+1) (dE+1))∧fc w' g (o.p6 (dE+1) bt (o.wd V))∧W.heap.size≤g∧ah W.heap.size W w'):=I (fun W v h=>by rw[show (dE:Int)+1=((dE+1:Nat):Int) by omega];exact abQ v bt _ (dE+1) W h (by omega) (by omega) (o.fa _));have qW:aj ((o.p6 (dE+1) bp (o.wd bo)).length=dE+1∧o.dI (o.p6 (dE+1) bp (o.wd bo))):=I ⟨o.abN (by omega),o.abP (o.fa _)⟩;have uf:aj ((o.p6 (dE+1) bt (o.wd V)).length=dE+1∧o.dI (o.p6 (dE+1) bt (o.wd V))):=I ⟨o.abN (by omega),o.abP (o.fa _)⟩;generalize o.p6 (dE+1) bp (o.wd bo)=TC at *;generalize o.p6 (dE+1) bt (o.wd V)=qs at *;obtain⟨hY,hZ,gr,gC⟩:∃f s e,e7 R=.tuple #[.agg #[.bool f,.string s],.int .i64 e]:=by
  unfold e7;split
  ·exact⟨_,_,_,rfl⟩
  ·exact⟨_,_,_,rfl⟩
 have l2:aj (∀W v neg xs,cy neg (o.num xs)=R→b2 W v xs→xs.length≤10000→o.dI xs→aq ak 57 #[.agg #[v,.bool neg]] W (hX W R)):=I (fun W v neg xs aa ae aJ bQ=>abT v neg xs _ W aa ae aJ bQ);unfold hX at *;rw[gC] at l2 ⊢;have bG:=I yK;have bZ:=I hF;have LB:=I jV;have Hs:=I bd;clear aS ad fi gi be az gC bS yK Dt TB hF jV bd Tz TA;obtain⟨aZ,bl⟩:∃aZ,((w.alloc (.cells #[.bool bp,.string d'] 46)).alloc (.cells #[.bool bt,.string dN] 46)).alloc (.cells #[.bool ab,.string ⟨#[]⟩] 46)=aZ:=⟨_,rfl⟩;have cY:aj (aI aZ w.heap.size 46 (.bool bp) (.string d')):=I (by rw[←bl];exact ((aI.new _ _ _ _).alloc _).alloc _);have dt:aj (aI aZ (w.heap.size+1) 46 (.bool bt) (.string dN)):=I (by
  rw[←bl];have:=(aI.new (w.alloc (.cells #[.bool bp,.string d'] 46)) 46 (.bool bt) (.string dN)).alloc (.cells #[.bool ab,.string ⟨#[]⟩] 46);simpa using this)
 have eI:aj (aI aZ (w.heap.size+2) 46 (.bool ab) (.string ⟨#[]⟩)):=I (by
  rw[←bl];have:=aI.new ((w.alloc (.cells #[.bool bp,.string d'] 46)).alloc (.cells #[.bool bt,.string dN] 46)) 46 (.bool ab) (.string ⟨#[]⟩);simpa using this)
 have bu:aj (ah w.heap.size w aZ):=I (by rw[←bl];exact (((aK _ _).alloc (aC _) _).alloc (by simp) _).alloc (by simp;omega) _);have dL:w.heap.size+3≤aZ.heap.size:=by rw[←bl];simp
 obtain⟨cn,bY,_,_⟩:=cY.out.cells;obtain⟨b0,bD,_,_⟩:=dt.out.cells;go_enter func63,ntmps63;go_wp2_with fail;refine (et.out _).mono ?_;rintro e aQ ⟨c7,gn,rfl,hv,hy,bb⟩;obtain⟨ic,ac,rfl⟩:=hv.form;obtain⟨gl,cV,rfl⟩:=hy.form;rw[Hk.out] at hv ⊢;rw[nJ.out] at hy ⊢;obtain⟨bh,dn⟩:∃bh,(aQ.alloc (.cells #[.slice ic gx ac,.bool bp] 85)).alloc (.cells #[.slice gl gX cV,.bool bt] 85)=bh:=⟨_,rfl⟩;have bf:ah aQ.heap.size aQ bh:=by rw[←dn];exact ((aK _ _).alloc (aC _) _).alloc (by simp) _
 have iy:w.heap.size+3≤aQ.heap.size:=cp dL bb.size;have dc:=I (chain (chain bu.out bb (by omega)) bf (by omega));have vd:=I ((eI.out.below bb).below bf);have sI:=I (hv.below bf);have rQ:=I (hy.below bf);have k6:aj (aI bh aQ.heap.size 85 (.slice ic gx ac) (.bool bp)):=I (by rw[←dn];exact (aI.new _ _ _ _).alloc _);have k5:aj (aI bh (aQ.heap.size+1) 85 (.slice gl gX cV) (.bool bt)):=I (by
  rw[←dn];have:=aI.new (aQ.alloc (.cells #[.slice ic gx ac,.bool bp] 85)) 85 (.slice gl gX cV) (.bool bt);simpa using this)
 have pa:w.heap.size+3≤bh.heap.size:=cp iy bf.size;clear cn bY b0 bD cY dt eI bu dL bb hv hy bl bf;obtain⟨cn,bY,_,_⟩:=k6.out.cells;obtain⟨b0,bD,_,_⟩:=k5.out.cells;go_wp2_with fail;have cU:=I (show ah bh.heap.size bh bh.drew from (aK _ bh).drew);have aN:aj (∀W,ah bh.heap.size bh W→W.cell? ⟨aQ.heap.size,0,J⟩=U (.slice ic gx ac)∧W.cell? ⟨aQ.heap.size,1,J⟩=U (.bool bp)∧W.cell? ⟨aQ.heap.size+1,0,J⟩=U (.slice gl gX cV)∧W.cell? ⟨aQ.heap.size+1,1,J⟩=U (.bool bt)):=I (fun W ad=>by
  obtain⟨cn,bY,_,_⟩:=(k6.out.below ad).cells;obtain⟨b0,bD,_,_⟩:=(k5.out.below ad).cells;exact⟨cn,bY,b0,bD⟩)
 have abX:=I (abV.out bh.drew _ (sI.out.below cU.out));go_region_held3 (fun W=>W.cell? ⟨aQ.heap.size,0,J⟩=U (.slice ic gx ac)∧W.cell? ⟨aQ.heap.size,1,J⟩=U (.bool bp)∧W.cell? ⟨aQ.heap.size+1,0,J⟩=U (.slice gl gX cV)∧W.cell? ⟨aQ.heap.size+1,1,J⟩=U (.bool bt)) (first | with_reducible exact⟨cn,bY,b0,bD⟩ | with_reducible exact aN.out _ cU.out | with_reducible exact aN.out _ cL | with_reducible exact aN.out _ gY) (first
  | (go_at_call 132;(with_reducible refine (abX.out).mono ?_);rintro e cw ⟨AW,rfl,rX,abY,l8⟩;have cL:ah bh.heap.size bh cw:=cU.out.trans l8;clear l8)
  | (go_at_call 132;(with_reducible refine (abW.out _ _ (by exact rQ.out.below cL)).mono ?_);rintro e fb ⟨q0,rfl,lF,Hp,L9⟩;have gY:ah bh.heap.size bh fb:=cL.trans (L9.mono cL.size)))
 all_goals
  have CV:=I (rX.tD L9 rX.lt);have Tu:=I lF;have abZ:=rX.lt;have axW:=lF.lt;have l0:=I gY;have K9:=gY.size;have axX:bh.heap.size≤AW:=abY;have axY:bh.heap.size≤q0:=cp cL.size Hp;have axZ:AW<fb.heap.size:=cv abZ L9.size;clear rX lF abY Hp cL L9 gY cn bY b0 bD dn abZ aN abX abV abW abU L8 anb;go_wp2_with (at_make;refine s8 _ rfl _ _ 83 rfl fb.heap.size 96 i0 (.int .u32 0) 1 qd aV eo eP .i64 .i64 _ _ (dE+1) rfl rfl (by omega) (by omega) (by rw[eL];omega) (by unfold maxLen;omega) (by simp) ?_);intro hM mx oj;obtain⟨g,eT⟩:∃g,fb.heap.size=g:=⟨_,rfl⟩;have cj:=x7 mx;rw[eT] at cj ⊢;have ku:aj (ah g fb hM):=I (show ah g fb hM from (aK _ _).grown oj (by omega) (fun k aA=>by cases aA));have fF:=I cj;clear mx oj aV eo eP eL cj;go_wp2_with fail;obtain⟨os,vk⟩:∃os,List.zipWith f TC qs=os:=⟨_,rfl⟩;rw[vk] at bG;have sR:aj (os.length=dE+1):=I (by rw[←vk,List.length_zipWith,qW.out.1,uf.out.1,Nat.min_self]);have uK:aj (∀k,k<dE+1→os.getD k 0=f (TC.getD k 0) (qs.getD k 0)):=I (fun k aA=>by
   rw[←vk,e5,List.getElem?_zipWith,e5,e5,eE (by rw[qW.out.1];exact aA),eE (by rw[uf.out.1];exact aA)];rfl)
  have jC:aj (o.dI os):=I (fun x hx=>by
   obtain⟨k,aA,rfl⟩:=List.mem_iff_getElem.1 hx;have yI:k<dE+1:=by rw[←sR.out];exact aA
   have:=uK.out k yI;rw[e5,eE aA] at this;simp only[Option.getD_some] at this;rw[this];exact Hs.out _ _ (o.ia qW.out.2 k) (o.ia uf.out.2 k))
  clear vk;have b4:AW<g:=by omega
  have anc:q0<g:=by omega
  go_loopw [46] (fun i wr=>∃k:Nat,k≤dE+1∧i=.int .i64 k∧aj (fc wr g (os.take k++List.replicate (dE+1-k) 0))∧ah g fb wr) (fun i _=>dE+1-(RowKit.intOf i).toNat);case atStart=>exact⟨0,il _,rfl,I (by simpa using fF.out),ku.out⟩
  case round=>
   obtain⟨k,aA,rfl,cj,ad⟩:=hrel;have ay:=I ad;by_cases bV:k<dE+1
   ·have rX:=CV.out.tD ad b4;have lF:=Tu.out.tD ad anc;have L':=rX.cell (k:=k) (by rw[qW.out.1];exact bV);have Ma:=lF.cell (k:=k) (by rw[uf.out.1];exact bV);have gH:=o.ia qW.out.2 k;have o4:=o.ia uf.out.2 k;have e4:=uK.out k bV;obtain⟨x,hx⟩:∃x,TC.getD k 0=x:=⟨_,rfl⟩;obtain⟨y,aW⟩:∃y,qs.getD k 0=y:=⟨_,rfl⟩;rw[hx] at L' gH e4;rw[aW] at Ma o4 e4;have ab0:=I (bZ.out x y gH o4);obtain⟨d,aL⟩:∃d,f x y=d:=⟨_,rfl⟩;rw[aL] at ab0 e4;have lA:=cj.out.free k;have ax0:wr.drew.frozen? ⟨g,k,J⟩=ab:=lA;have tK:=cj.out.cell (k:=k) (by rw[ey,gN,BC,sR.out];omega);have ax1:wr.drew.cell? ⟨g,k,J⟩=_:=tK;have hlen:(os.take k++List.replicate (dE+1-k) 0).length=dE+1:=by rw[ey,gN,BC,sR.out];omega
    have pN:=I (show fc (wr.setCell ⟨g,k,J⟩ (.int .u32 (d:Nat))).drew g (os.take (k+1)++List.replicate (dE+1-(k+1)) 0) from by
     have aa:=cj.out.set k d;have hm:(os.take k).length=k:=by rw[gN,sR.out];omega
     rw[Nz _ _ (by omega),hm,oR,show dE+1-k=(dE+1-(k+1))+1 by omega,List.replicate_succ,List.set_cons_zero] at aa;have eM:k<os.length:=by rw[sR.out];exact bV
     rw[kc eM,N9];have:os[k]=d:=by rw[←e4,e5,eE eM];rfl
     rw[this];exact aa)
    have bu:=I (ad.setCell (p:=⟨g,k,J⟩) (aC g) (.int .u32 (d:Nat))).drew;have As:aj ((wr.setCell ⟨g,k,J⟩ (.int .u32 (d:Nat))).drew.cell? ⟨AW,k,J⟩=U (.int .u32 (x:Nat))∧(wr.setCell ⟨g,k,J⟩ (.int .u32 (d:Nat))).drew.cell? ⟨q0,k,J⟩=U (.int .u32 (y:Nat))):=I (by
     constructor
     ·show (wr.setCell ⟨g,k,J⟩ (.int .u32 (d:Nat))).cell? ⟨AW,k,J⟩=_;rw[b7 _ _ _ _ (by intro z;injection z with z;omega)];exact L'
     ·show (wr.setCell ⟨g,k,J⟩ (.int .u32 (d:Nat))).cell? ⟨q0,k,J⟩=_;rw[b7 _ _ _ _ (by intro z;injection z with z;omega)];exact Ma)
    have jV:=LB.out;clear cj ad rX lF hx aW e4 gH o4 aL;go_wp2_with fail;have vl:aj (wr.drew.cell? ⟨AW,k,J⟩=U (.int .u32 (x:Nat))∧wr.drew.cell? ⟨q0,k,J⟩=U (.int .u32 (y:Nat))):=I ⟨L',Ma⟩;go_region_held3 (fun W=>W.cell? ⟨AW,k,J⟩=U (.int .u32 (x:Nat))∧W.cell? ⟨q0,k,J⟩=U (.int .u32 (y:Nat))) (first | with_reducible exact⟨L',Ma⟩ | with_reducible exact vl.out | with_reducible exact As.out) (first | ((with_reducible refine (ab0.out _).mono ?_);rintro e vm ⟨rfl,rfl⟩));all_goals
     go_wp2;go_roundw;case rel=>exact⟨k+1,by omega,by go_num,pN,bu.out⟩
     case measure=>simp[RowKit.intOf];omega
   ·obtain rfl:k=dE+1:=by omega
    have Ap:aj (fc wr g os):=I (by
     have aa:=cj.out;rwa[oR,List.replicate_zero,sd,fp (by rw[sR.out];exact aC _)] at aa)
    have ane:=Ap.out.cell (k:=dE) (by rw[sR.out];omega);have p1:=o.ia jC.out dE;obtain⟨t,bn⟩:∃t,os.getD dE 0=t:=⟨_,rfl⟩;rw[bn] at ane p1 bG;have ax2:(dE:Int)+1-1=dE:=by omega
    have wy:=I (l0.out.trans (ay.out.mono (by omega)));clear cj ad bV bn;have Mb:w.heap.size≤bh.heap.size:=by omega
    by_cases jF:t/2147483648=1
    ·have TD:((t:Int)/2147483648==1)=true:=by rw[gy];omega
     rw[ba jF] at bG;have Hr:=I (abj g (dE+1) (dE+1) os wr Ap.out sR.out (by omega) jC.out);clear jF;go_wp2_with fail;refine Hr.out.mono ?_;rintro e qJ ⟨rfl,Du,ab1⟩;have Mc:(o.oB os 1).length=dE+1:=by rw[o.S7];exact sR.out
     have eX:b2 qJ (.slice (U ⟨g,0,J⟩) (dE+1) (dE+1)) (o.oB os 1):=by
      have aa:=Du.rd (cap:=dE+1) (by rw[Mc];exact aC _);rwa[Mc] at aa
     have mr:=I (l2.out qJ _ true _ bG.out eX (by rw[Mc];omega) (o.S8 _ _));have AX:aj (ah bh.heap.size bh qJ):=I (wy.out.trans (ab1.low.mono (by omega)));have ph:=I (chain dc.out AX.out Mb);have mD:=AX.out.size;clear Du ab1 Mc eX Hr;go_wp2_with fail;refine mr.out.mono ?_;rintro e C3 ⟨rfl,rY⟩;have TE:=I (chain ph.out rY (cp Mb mD));have Ht:=I ((vd.out.below AX.out).below rY);obtain⟨cl,bH,f0,f1⟩:=Ht.out.cells;clear rY;go_wp2_with fail;obtain⟨aM,aG,_,_⟩:=(Ht.out.set (.bool hY) (.string hZ)).cells;refine bI (v:=.tuple #[.agg #[.bool hY,.string hZ],.int .i64 gr]) (by simp[bK,results63,go_sem,aM,aG]) rfl ⟨rfl,fG TE.out (by omega) _ _⟩
    ·have TD:((t:Int)/2147483648==1)=ab:=by rw[cH];omega
     rw[aU jF] at bG;clear jF;have eX:b2 wr (.slice (U ⟨g,0,J⟩) (dE+1) (dE+1)) os:=by
      have aa:=Ap.out.rd (cap:=dE+1) (by rw[sR.out];exact aC _);rwa[sR.out] at aa
     have mr:=I (l2.out wr _ ab _ bG.out eX (by rw[sR.out];omega) jC.out);have AX:=wy;have ph:=I (chain dc.out AX.out Mb);have mD:=AX.out.size;clear eX;go_wp2_with fail;refine mr.out.mono ?_;rintro e C3 ⟨rfl,rY⟩;have TE:=I (chain ph.out rY (cp Mb mD));have Ht:=I ((vd.out.below AX.out).below rY);obtain⟨cl,bH,f0,f1⟩:=Ht.out.cells;clear rY;go_wp2_with fail;obtain⟨aM,aG,_,_⟩:=(Ht.out.set (.bool hY) (.string hZ)).cells;refine bI (v:=.tuple #[.agg #[.bool hY,.string hZ],.int .i64 gr]) (by simp[bK,results63,go_sem,aM,aG]) rfl ⟨rfl,fG TE.out (by omega) _ _⟩
theorem b2.same {w:af} {v:aw} {xs ys:List Nat} (h:b2 w v xs) (k:b2 w v ys):xs=ys:=by
 rcases h with ⟨rfl,rfl⟩ | ⟨b,c,rfl,_,_,aa⟩
 ·rcases k with ⟨_,rfl⟩ | ⟨b',c',e,_,_,_⟩
  ·rfl
  ·injection e with e _ _;cases e
 ·rcases k with ⟨e,_⟩ | ⟨b',c',e,_,_,aG⟩
  ·injection e with e _ _;cases e
  ·injection e with e aT _;injection e with e;injection e with e _ _;subst e;apply s7 aT;intro i p q;have a:=aa i _ (eE p);rw[aG i _ (eE q)] at a;injection a with a;injection a with _ a;exact (Int.ofNat.inj a).symm
open Classical in
noncomputable def TF (w:af) (v:aw):Nat:=if h:∃Q,b2 w v (o.wd Q) then h.choose else 0
theorem ab2 {w:af} {v:aw} {Q:Nat} (h:b2 w v (o.wd Q)):TF w v=Q:=by
 have he:∃Q,b2 w v (o.wd Q):=⟨Q,h⟩;unfold TF;rw[dif_pos he];have:=eS o.num (b2.same he.choose_spec h);rwa[o.eA,o.eA] at this
theorem below_drewN {B:Nat} {w w':af} (h:ah B w w'):∀n,ah B w (w'.drewN n)
 | 0=>h
 | n+1=>(below_drewN h n).drew
theorem yM {V:Nat}:o.bO (V:Int)↔V<256^4096:=by unfold o.bO;rw[Es]
theorem anl {bo V:Nat} (lB:o.bO (bo:Int)) (cA:o.bO (V:Int)):o.bO ((Nat.gcd bo V:Nat):Int):=by
 rw[yM] at *;rcases kd bo with h | h
 ·subst h;rwa[Nat.gcd_zero_left]
 ·exact gQ (Nat.gcd_le_left V h) lB
theorem anm (A B:Int) (w:af) (be:o.bO A) (az:o.bO B) :
 aq ak 32 #[bz A,bz B] w (hX w ((Nat.gcd A.natAbs B.natAbs:Nat):Int)):=by
 have et:=I (fun W=>yg A B W be az);have Dv:aj (∀P Q:Nat,o.bO (P:Int)→o.bO (Q:Int)→0<Q→Lv P Q):=I (fun P Q aa ae aJ=>abM (yM.1 aa) (yM.1 ae) aJ);have lB:o.bO ((A.natAbs:Nat):Int):=yM.2 be;have cA:o.bO ((B.natAbs:Nat):Int):=yM.2 az;obtain⟨bp,fi⟩:∃bp,au (A<0)=bp:=⟨_,rfl⟩;obtain⟨bt,gi⟩:∃bt,au (B<0)=bt:=⟨_,rfl⟩;have aS:bz A=.agg #[.bool bp,.string (ax (o.bs A.natAbs))]:=by unfold bz cO;rw[fi]
 have ad:bz B=.agg #[.bool bt,.string (ax (o.bs B.natAbs))]:=by unfold bz cO;rw[gi]
 rw[aS] at et ⊢;rw[ad] at et ⊢;rw[fi] at et;rw[gi] at et;generalize ax (o.bs A.natAbs)=d' at *;generalize ax (o.bs B.natAbs)=dN at *;generalize A.natAbs=bo at *;generalize B.natAbs=V at *;have p5:=anl lB cA;obtain⟨G,TG⟩:∃G,Nat.gcd bo V=G:=⟨_,rfl⟩;rw[TG] at p5 ⊢;have l2:aj (∀W v,b2 W v (o.wd G)→aq ak 57 #[.agg #[v,.bool ab]] W (hX W (G:Int))):=I (fun W v ae=>Ao v ab G _ W rfl ae (cp (o.rF _ (yM.1 p5)) (by decide)));have mF:=I lB;have cM:=I cA;have eK:=I TG;obtain⟨hY,hZ,gr,gC⟩:∃f s e,e7 (G:Int)=.tuple #[.agg #[.bool f,.string s],.int .i64 e]:=by
  unfold e7;split
  ·exact⟨_,_,_,rfl⟩
  ·exact⟨_,_,_,rfl⟩
 unfold hX at *;rw[gC] at l2 ⊢;clear aS ad fi gi be az gC lB cA p5 TG;obtain⟨aZ,bl⟩:∃aZ,((w.alloc (.cells #[.bool bp,.string d'] 46)).alloc (.cells #[.bool bt,.string dN] 46)).alloc (.cells #[.bool ab,.string ⟨#[]⟩] 46)=aZ:=⟨_,rfl⟩;have cY:aj (aI aZ w.heap.size 46 (.bool bp) (.string d')):=I (by rw[←bl];exact ((aI.new _ _ _ _).alloc _).alloc _);have dt:aj (aI aZ (w.heap.size+1) 46 (.bool bt) (.string dN)):=I (by
  rw[←bl];have:=(aI.new (w.alloc (.cells #[.bool bp,.string d'] 46)) 46 (.bool bt) (.string dN)).alloc (.cells #[.bool ab,.string ⟨#[]⟩] 46);simpa using this)
 have eI:aj (aI aZ (w.heap.size+2) 46 (.bool ab) (.string ⟨#[]⟩)):=I (by
  rw[←bl];have:=aI.new ((w.alloc (.cells #[.bool bp,.string d'] 46)).alloc (.cells #[.bool bt,.string dN] 46)) 46 (.bool ab) (.string ⟨#[]⟩);simpa using this)
 have bu:aj (ah w.heap.size w aZ):=I (by rw[←bl];exact (((aK _ _).alloc (aC _) _).alloc (by simp) _).alloc (by simp;omega) _);have dL:w.heap.size+3≤aZ.heap.size:=by rw[←bl];simp
 obtain⟨cn,bY,_,_⟩:=cY.out.cells;obtain⟨b0,bD,_,_⟩:=dt.out.cells;go_enter func32,ntmps32;go_wp2_with fail;refine (et.out _).mono ?_;rintro e aQ ⟨c7,gn,rfl,hv,hy,bb⟩;obtain⟨ic,ac,rfl⟩:=hv.form;obtain⟨gl,cV,rfl⟩:=hy.form;generalize (o.wd bo).length=gx at *;generalize (o.wd V).length=gX at *;obtain⟨bh,dn⟩:∃bh,(aQ.alloc (.cells #[.slice ic gx ac,.bool bp] 85)).alloc (.cells #[.slice gl gX cV,.bool bt] 85)=bh:=⟨_,rfl⟩;have bf:ah aQ.heap.size aQ bh:=by rw[←dn];exact ((aK _ _).alloc (aC _) _).alloc (by simp) _
 have iy:w.heap.size+3≤aQ.heap.size:=cp dL bb.size;have dc:=I (chain (chain bu.out bb (by omega)) bf (by omega));have vd:=I ((eI.out.below bb).below bf);have sI:=I (hv.below bf);have rQ:=I (hy.below bf);have k6:aj (aI bh aQ.heap.size 85 (.slice ic gx ac) (.bool bp)):=I (by rw[←dn];exact (aI.new _ _ _ _).alloc _);have k5:aj (aI bh (aQ.heap.size+1) 85 (.slice gl gX cV) (.bool bt)):=I (by
  rw[←dn];have:=aI.new (aQ.alloc (.cells #[.slice ic gx ac,.bool bp] 85)) 85 (.slice gl gX cV) (.bool bt);simpa using this)
 have pa:w.heap.size+3≤bh.heap.size:=cp iy bf.size;clear cn bY b0 bD cY dt eI bu dL bb hv hy bl bf;obtain⟨cn,bY,_,_⟩:=k6.out.cells;obtain⟨b0,bD,_,_⟩:=k5.out.cells;go_wp2_with fail;have cU:=I (show ∀n,ah bh.heap.size bh (bh.drewN n) from fun n=>below_drewN (aK _ bh) n);go_quiet (fail);clear cn bY b0 bD dn;go_wp2;go_loopw [9,10] (fun p q wr=>∃(P Q:Nat),aj (o.bO (P:Int))∧aj (o.bO (Q:Int))∧aj (Nat.gcd P Q=G)∧b2 wr p (o.wd P)∧b2 wr q (o.wd Q)∧ah bh.heap.size bh wr) (fun _ q wr=>TF wr q);case atStart=>exact⟨bo,V,mF,cM,eK,sI.out.below (cU.out _),rQ.out.below (cU.out _),cU.out _⟩
 case round=>
  obtain⟨P,Q,hI,ma,aY,rX,lF,ad⟩:=hrel;have ay:=I ad;have t':Q≠0→0<(o.wd Q).length:=fun h=>List.length_pos_iff.2 fun e=>h (by have:=o.eA Q;rw[e] at this;simpa[o.num] using this.symm);have ab3:=I (ab2 lF);obtain⟨TH,ax3,rfl⟩:=rX.form;obtain⟨dQ,e1,rfl⟩:=lF.form;by_cases ar:Q=0
  ·subst ar;have ann:P=G:=by have:=aY.out;rwa[Nat.gcd_zero_right] at this
   subst ann;have wI:(o.wd 0).length=0:=by rw[o.KM];rfl
   rw[wI];have bG:=I rX;generalize (o.wd P).length=uI at *;have ano:=I (l2.out wr _ (by exact bG.out));clear rX lF ad t' wI;have SU:=I (vd.out.below ay.out);have l0:=I (chain dc.out ay.out (by omega));have ax4:=ay.out.size;go_wp2_with fail;refine ano.out.mono ?_;rintro e hM ⟨rfl,fS⟩;have qV:=I (SU.out.below fS);have ku:=I (chain l0.out fS (by omega));obtain⟨cl,bH,f0,f1⟩:=qV.out.cells;clear fS;go_wp2_with fail;obtain⟨aM,aG,_,_⟩:=(qV.out.set (.bool hY) (.string hZ)).cells;refine bI (v:=.tuple #[.agg #[.bool hY,.string hZ],.int .i64 gr]) (by simp[bK,results32,go_sem,aM,aG]) rfl ⟨rfl,fG ku.out (by omega) _ _⟩
  ·have ao:=t' ar;have dM:=I (Dv.out P Q hI.out ma.out (Et ar) _ _ wr rX lF);unfold CP at dM;have anp:=I (show Nat.gcd Q (P%Q)=G from by rw[←aY.out,Nat.gcd_comm P Q,Nat.gcd_rec Q P,Nat.gcd_comm]);have anq:=I (show o.bO ((P%Q:Nat):Int) from yM.2 (cv (eW _ (Et ar)) (qf (yM.1 ma.out))));have B8:=eW P (Et ar);have u0:=I lF;generalize (o.wd P).length=uI at *;obtain⟨aay,o6⟩:∃l,(o.wd Q).length=l:=⟨_,rfl⟩;rw[o6] at ao dM u0 ab3 ⊢;clear rX lF ad t' o6;go_wp2_with fail;refine dM.out.mono ?_;rintro e cw ⟨CQ,jD,rfl,ab4,TI,cL⟩;have CU:=I TI;have anr:=I (u0.out.below cL);have gA:=I (ay.out.trans (cL.mono ay.out.size));obtain⟨cx,ct,rfl⟩:=ab4.form;obtain⟨eB,eC,rfl⟩:=TI.form;clear ab4 TI cL;generalize (o.wd (P%Q)).length=aaz at *;generalize (o.wd (P/Q)).length=ax5 at *;go_wp2;go_roundw;case rel=>exact⟨Q,P%Q,ma,anq,anp,anr.out,CU.out,gA.out⟩
   case measure=>
    rw[ab2 CU.out];have:=ab3.out;omega
theorem anf (x y:Nat) (hx:x<4294967296) (aW:y<4294967296) (W:af):aq ak 64 #[.int .u32 (x:Nat),.int .u32 (y:Nat)] W fun e w'=>e=.returned (.int .u32 ((x &&& y:Nat):Int))∧W=w':=by
 have h:=Q' hx aW;go_enter func64,ntmps64;go_wp2;go_ret;exact⟨rfl,rfl⟩
theorem ang (A B:Int) (w:af) (be:o.bO A) (az:o.bO B):aq ak 29 #[bz A,bz B] w (hX w (o.wV (fun x y=>x &&& y) A B)):=by
 have cD:=I (fun W=>Ty 64 (fun x y=>x &&& y) A B W be az (fun x y hx aW=>gQ I6 hx) (fun args W=>dF func64 rfl rfl args W) (fun x y hx aW W=>anf x y hx aW W));obtain⟨bp,fi⟩:∃bp,au (A<0)=bp:=⟨_,rfl⟩;obtain⟨bt,gi⟩:∃bt,au (B<0)=bt:=⟨_,rfl⟩;have aS:bz A=.agg #[.bool bp,.string (ax (o.bs A.natAbs))]:=by unfold bz cO;rw[fi]
 have ad:bz B=.agg #[.bool bt,.string (ax (o.bs B.natAbs))]:=by unfold bz cO;rw[gi]
 rw[aS,ad] at cD ⊢;obtain⟨hY,hZ,gr,gC⟩:∃f s e,e7 (o.wV (fun x y=>x &&& y) A B)=.tuple #[.agg #[.bool f,.string s],.int .i64 e]:=by
  unfold e7;split
  ·exact⟨_,_,_,rfl⟩
  ·exact⟨_,_,_,rfl⟩
 unfold hX at *;rw[gC] at cD ⊢;generalize ax (o.bs A.natAbs)=d' at *;generalize ax (o.bs B.natAbs)=dN at *;clear gC aS ad fi gi be az;obtain⟨aZ,bl⟩:∃aZ,((w.alloc (.cells #[.bool bp,.string d'] 46)).alloc (.cells #[.bool bt,.string dN] 46)).alloc (.cells #[.bool ab,.string ⟨#[]⟩] 46)=aZ:=⟨_,rfl⟩;have cY:aj (aI aZ w.heap.size 46 (.bool bp) (.string d')):=I (by rw[←bl];exact ((aI.new _ _ _ _).alloc _).alloc _);have dt:aj (aI aZ (w.heap.size+1) 46 (.bool bt) (.string dN)):=I (by
  rw[←bl];have:=(aI.new (w.alloc (.cells #[.bool bp,.string d'] 46)) 46 (.bool bt) (.string dN)).alloc (.cells #[.bool ab,.string ⟨#[]⟩] 46);simpa using this)
 have eI:aj (aI aZ (w.heap.size+2) 46 (.bool ab) (.string ⟨#[]⟩)):=I (by
  rw[←bl];have:=aI.new ((w.alloc (.cells #[.bool bp,.string d'] 46)).alloc (.cells #[.bool bt,.string dN] 46)) 46 (.bool ab) (.string ⟨#[]⟩);simpa using this)
 have bu:aj (ah w.heap.size w aZ):=I (by rw[←bl];exact (((aK _ _).alloc (aC _) _).alloc (by simp) _).alloc (by simp;omega) _);have dL:w.heap.size+3≤aZ.heap.size:=by rw[←bl];simp
 obtain⟨cn,bY,_,_⟩:=cY.out.cells;obtain⟨b0,bD,_,_⟩:=dt.out.cells;go_enter func29,ntmps29;go_wp2_with fail;refine (cD.out _).mono ?_;rintro e aQ ⟨rfl,bb⟩;have yL:=I (eI.out.below bb);have eN:=I (chain bu.out bb (by omega));obtain⟨cl,bH,f0,f1⟩:=yL.out.cells;clear bb cn bY b0 bD;go_wp2_with fail;obtain⟨aM,aG,_,_⟩:=(yL.out.set (.bool hY) (.string hZ)).cells;refine bI (v:=.tuple #[.agg #[.bool hY,.string hZ],.int .i64 gr]) (by simp[bK,results29,go_sem,aM,aG]) rfl ⟨rfl,fG eN.out (by omega) _ _⟩
theorem anh (x y:Nat) (hx:x<4294967296) (aW:y<4294967296) (W:af):aq ak 65 #[.int .u32 (x:Nat),.int .u32 (y:Nat)] W fun e w'=>e=.returned (.int .u32 ((x ||| y:Nat):Int))∧W=w':=by
 have h:=Xq hx aW;go_enter func65,ntmps65;go_wp2;go_ret;exact⟨rfl,rfl⟩
theorem ani (A B:Int) (w:af) (be:o.bO A) (az:o.bO B):aq ak 30 #[bz A,bz B] w (hX w (o.wV (fun x y=>x ||| y) A B)):=by
 have cD:=I (fun W=>Ty 65 (fun x y=>x ||| y) A B W be az (fun x y hx aW=>zm (n:=32) hx aW) (fun args W=>dF func65 rfl rfl args W) (fun x y hx aW W=>anh x y hx aW W));obtain⟨bp,fi⟩:∃bp,au (A<0)=bp:=⟨_,rfl⟩;obtain⟨bt,gi⟩:∃bt,au (B<0)=bt:=⟨_,rfl⟩;have aS:bz A=.agg #[.bool bp,.string (ax (o.bs A.natAbs))]:=by unfold bz cO;rw[fi]
 have ad:bz B=.agg #[.bool bt,.string (ax (o.bs B.natAbs))]:=by unfold bz cO;rw[gi]
 rw[aS,ad] at cD ⊢;obtain⟨hY,hZ,gr,gC⟩:∃f s e,e7 (o.wV (fun x y=>x ||| y) A B)=.tuple #[.agg #[.bool f,.string s],.int .i64 e]:=by
  unfold e7;split
  ·exact⟨_,_,_,rfl⟩
  ·exact⟨_,_,_,rfl⟩
 unfold hX at *;rw[gC] at cD ⊢;generalize ax (o.bs A.natAbs)=d' at *;generalize ax (o.bs B.natAbs)=dN at *;clear gC aS ad fi gi be az;obtain⟨aZ,bl⟩:∃aZ,((w.alloc (.cells #[.bool bp,.string d'] 46)).alloc (.cells #[.bool bt,.string dN] 46)).alloc (.cells #[.bool ab,.string ⟨#[]⟩] 46)=aZ:=⟨_,rfl⟩;have cY:aj (aI aZ w.heap.size 46 (.bool bp) (.string d')):=I (by rw[←bl];exact ((aI.new _ _ _ _).alloc _).alloc _);have dt:aj (aI aZ (w.heap.size+1) 46 (.bool bt) (.string dN)):=I (by
  rw[←bl];have:=(aI.new (w.alloc (.cells #[.bool bp,.string d'] 46)) 46 (.bool bt) (.string dN)).alloc (.cells #[.bool ab,.string ⟨#[]⟩] 46);simpa using this)
 have eI:aj (aI aZ (w.heap.size+2) 46 (.bool ab) (.string ⟨#[]⟩)):=I (by
  rw[←bl];have:=aI.new ((w.alloc (.cells #[.bool bp,.string d'] 46)).alloc (.cells #[.bool bt,.string dN] 46)) 46 (.bool ab) (.string ⟨#[]⟩);simpa using this)
 have bu:aj (ah w.heap.size w aZ):=I (by rw[←bl];exact (((aK _ _).alloc (aC _) _).alloc (by simp) _).alloc (by simp;omega) _);have dL:w.heap.size+3≤aZ.heap.size:=by rw[←bl];simp
 obtain⟨cn,bY,_,_⟩:=cY.out.cells;obtain⟨b0,bD,_,_⟩:=dt.out.cells;go_enter func30,ntmps30;go_wp2_with fail;refine (cD.out _).mono ?_;rintro e aQ ⟨rfl,bb⟩;have yL:=I (eI.out.below bb);have eN:=I (chain bu.out bb (by omega));obtain⟨cl,bH,f0,f1⟩:=yL.out.cells;clear bb cn bY b0 bD;go_wp2_with fail;obtain⟨aM,aG,_,_⟩:=(yL.out.set (.bool hY) (.string hZ)).cells;refine bI (v:=.tuple #[.agg #[.bool hY,.string hZ],.int .i64 gr]) (by simp[bK,results30,go_sem,aM,aG]) rfl ⟨rfl,fG eN.out (by omega) _ _⟩
theorem anj (x y:Nat) (hx:x<4294967296) (aW:y<4294967296) (W:af):aq ak 66 #[.int .u32 (x:Nat),.int .u32 (y:Nat)] W fun e w'=>e=.returned (.int .u32 ((x ^^^ y:Nat):Int))∧W=w':=by
 have h:=Ra hx aW;go_enter func66,ntmps66;go_wp2;go_ret;exact⟨rfl,rfl⟩
theorem ank (A B:Int) (w:af) (be:o.bO A) (az:o.bO B):aq ak 31 #[bz A,bz B] w (hX w (o.wV (fun x y=>x ^^^ y) A B)):=by
 have cD:=I (fun W=>Ty 66 (fun x y=>x ^^^ y) A B W be az (fun x y hx aW=>Ep (n:=32) hx aW) (fun args W=>dF func66 rfl rfl args W) (fun x y hx aW W=>anj x y hx aW W));obtain⟨bp,fi⟩:∃bp,au (A<0)=bp:=⟨_,rfl⟩;obtain⟨bt,gi⟩:∃bt,au (B<0)=bt:=⟨_,rfl⟩;have aS:bz A=.agg #[.bool bp,.string (ax (o.bs A.natAbs))]:=by unfold bz cO;rw[fi]
 have ad:bz B=.agg #[.bool bt,.string (ax (o.bs B.natAbs))]:=by unfold bz cO;rw[gi]
 rw[aS,ad] at cD ⊢;obtain⟨hY,hZ,gr,gC⟩:∃f s e,e7 (o.wV (fun x y=>x ^^^ y) A B)=.tuple #[.agg #[.bool f,.string s],.int .i64 e]:=by
  unfold e7;split
  ·exact⟨_,_,_,rfl⟩
  ·exact⟨_,_,_,rfl⟩
 unfold hX at *;rw[gC] at cD ⊢;generalize ax (o.bs A.natAbs)=d' at *;generalize ax (o.bs B.natAbs)=dN at *;clear gC aS ad fi gi be az;obtain⟨aZ,bl⟩:∃aZ,((w.alloc (.cells #[.bool bp,.string d'] 46)).alloc (.cells #[.bool bt,.string dN] 46)).alloc (.cells #[.bool ab,.string ⟨#[]⟩] 46)=aZ:=⟨_,rfl⟩;have cY:aj (aI aZ w.heap.size 46 (.bool bp) (.string d')):=I (by rw[←bl];exact ((aI.new _ _ _ _).alloc _).alloc _);have dt:aj (aI aZ (w.heap.size+1) 46 (.bool bt) (.string dN)):=I (by
  rw[←bl];have:=(aI.new (w.alloc (.cells #[.bool bp,.string d'] 46)) 46 (.bool bt) (.string dN)).alloc (.cells #[.bool ab,.string ⟨#[]⟩] 46);simpa using this)
 have eI:aj (aI aZ (w.heap.size+2) 46 (.bool ab) (.string ⟨#[]⟩)):=I (by
  rw[←bl];have:=aI.new ((w.alloc (.cells #[.bool bp,.string d'] 46)).alloc (.cells #[.bool bt,.string dN] 46)) 46 (.bool ab) (.string ⟨#[]⟩);simpa using this)
 have bu:aj (ah w.heap.size w aZ):=I (by rw[←bl];exact (((aK _ _).alloc (aC _) _).alloc (by simp) _).alloc (by simp;omega) _);have dL:w.heap.size+3≤aZ.heap.size:=by rw[←bl];simp
 obtain⟨cn,bY,_,_⟩:=cY.out.cells;obtain⟨b0,bD,_,_⟩:=dt.out.cells;go_enter func31,ntmps31;go_wp2_with fail;refine (cD.out _).mono ?_;rintro e aQ ⟨rfl,bb⟩;have yL:=I (eI.out.below bb);have eN:=I (chain bu.out bb (by omega));obtain⟨cl,bH,f0,f1⟩:=yL.out.cells;clear bb cn bY b0 bD;go_wp2_with fail;obtain⟨aM,aG,_,_⟩:=(yL.out.set (.bool hY) (.string hZ)).cells;refine bI (v:=.tuple #[.agg #[.bool hY,.string hZ],.int .i64 gr]) (by simp[bK,results31,go_sem,aM,aG]) rfl ⟨rfl,fG eN.out (by omega) _ _⟩
namespace o
def AZ (A B:Int):Prop:=A.tmod B≠0∧au (A.tmod B<0)≠au (B<0)
instance (A B:Int):Decidable (AZ A B):=by unfold AZ;infer_instance
def yQ (A B:Int):Int:=if AZ A B then A.tdiv B-1 else A.tdiv B
def eO (A B:Int):Int:=if AZ A B then A.tmod B+B else A.tmod B
theorem bO.le {a b:Int} (h:bO b) (kW:a.natAbs≤b.natAbs):bO a:=gQ kW h
theorem bO.tdiv {A B:Int} (h:bO A):bO (A.tdiv B):=h.le (by rw[Int.natAbs_tdiv];exact s9 _ _)
theorem bO.tmod {A B:Int} (h:bO A):bO (A.tmod B):=h.le (by rw[Int.natAbs_tmod];exact E7 _ _)
theorem acr {A B:Int} (h:AZ A B) (ar:B≠0):(A.tdiv B-1).natAbs≤A.natAbs∧(A.tmod B+B).natAbs≤B.natAbs:=by
 obtain⟨aa,ae⟩:=h;have aE:(A.tdiv B).natAbs=A.natAbs/B.natAbs:=Int.natAbs_tdiv A B;have aF:(A.tmod B).natAbs=A.natAbs%B.natAbs:=Int.natAbs_tmod A B;have bV:A.natAbs%B.natAbs<B.natAbs:=eW _ (by omega);have hle:A.natAbs%B.natAbs≤A.natAbs:=E7 _ _;have aJ:¬ (A.tmod B<0↔B<0):=fun h=>ae (decide_eq_decide.2 h);constructor
 ·have az:2≤B.natAbs:=by omega
  have bQ:A.natAbs/B.natAbs≤A.natAbs/2:=ND az (by decide);omega
 ·omega
end o
theorem Me (A B:Int) (w:af) (be:o.bO A) (az:o.bO B) (ar:B≠0) :
 aq ak 27 #[bz A,bz B] w fun e w'=>e=.returned (.tuple #[bz (A.tdiv B),bz (A.tmod B),.int .i64 0])∧ah w.heap.size w w':=
 aax A B w be az ar (abM be az (by omega))
theorem Mf (A B:Int) (w:af) (be:o.bO A) (az:o.bO B) (ar:B≠0) :
 aq ak 23 #[bz A,bz B] w fun e w'=>e=.returned (.tuple #[bz (o.yQ A B),bz (o.eO A B),.int .i64 0])∧ah w.heap.size w w':=by
 by_cases h:o.AZ A B
 ·have bd:=o.acr h ar;unfold o.yQ o.eO;rw[ba h,ba h];exact anz A B (A.tdiv B) (A.tmod B) w (fun W=>Me A B W be az ar) h.1 h.2 be.tdiv (be.le bd.1) be.tmod az (az.le bd.2)
 ·unfold o.yQ o.eO;rw[aU h,aU h];refine aaA _ _ _ _ _ _ _ _ w (fun W=>Me A B W be az ar) ?_;by_cases aF:A.tmod B=0
  ·left;rw[aF];have aJ:o.bs 0=[]:=by
    have:=o.sy 0;simpa using this
   show (ax (o.bs 0)).toList.isEmpty=true;rw[aJ,lL];rfl
  ·right;by_cases a1:au (A.tmod B<0)=au (B<0)
   ·exact a1
   ·exact absurd ⟨aF,a1⟩ h
theorem TW (A B:Int) (w:af) (be:o.bO A) (az:o.bO B) (ar:B=0) :
 aq ak 23 #[bz A,bz B] w fun e w'=>e=.returned (.tuple #[cO ab [],cO ab [],.int .i64 90])∧ah w.heap.size w w':=
 anM _ _ _ _ _ _ _ _ 90 w (fun W=>TV A B W be az ar) (by decide)
end Go.Proofs.YtkhphoonnkoipaaGreatDoor
