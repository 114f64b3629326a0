/- Lemmas. -/
import Derived.Test.YtkhphoonnkoipaaGreatDoorVaas
import Derived.Test.YtkhphoonnkoipaaGreatDoorVaak
set_option linter.all false
set_option maxHeartbeats 4000000
set_option maxRecDepth 100000
open Go.Proofs.Tryz Go.RowKit Go.Lib
open Option renaming none→J,some→U
open Bool renaming true→ai,false→ab
open Decidable renaming decide→au
open Go renaming World→af,Calls→aq,results→bK
open Go.RowKit renaming Below→ah,Hid→aj
open Go.Proofs.Tryz renaming prog→ak
namespace Go.Proofs.YtkhphoonnkoipaaGreatDoor
theorem o.p'.Vh {D:ca} {N:Nat} (h:o.p' D N) (x:Int):o.p' { D with a8:=x } N:=⟨h.dr,h.lo,h.aV⟩
theorem asR (s:ByteArray) (i0 P:Nat) (M:List UInt8) (ex:Option (Bool×List UInt8)) (neg:Bool) (w:af) (dy:FW M) (aJ:3≤M.length) (ao:s.size≤400) (gM:h9 s i0 M) (rI:(o.run M).dr=ai) (uj:(o.run M).dot=ai)
 (ls:(neg=ab∧i0=0)∨(neg=ai∧i0=1∧h9 s 0 [45])) (fr:o.digit M[0]) (p1:Ix s (i0+M.length) ex) (rj:Has w P ⟨fun _=>0,0,0,ab,ab⟩) :
 aq ak 284 #[.pointer (U ⟨P,0,J⟩),.string s] w fun e w'=>e=.returned (.bool ai)∧(∃D,Has w' P D∧asP D M ex neg)∧ah P w w':=by
 have b5:i0+M.length≤s.size:=by
  rcases ex with _ | ⟨_ | _,D⟩
  ·have:s.size=_:=p1;omega
  ·have:=p1.1;omega
  ·have:=p1.1;omega
 have azt:i0≤1:=by rcases ls with h | h<;>omega
 have iH:=I rj;have eQ:=I gM;have di:=I dy;have bc:=I p1;have eK:=I (show (o.run M).dr=ai∧(o.run M).dot=ai from⟨rI,uj⟩);have b0:i0<s.size:=by omega
 have aeK:0<s.size:=by omega
 have dT:au (s=ByteArray.empty)=ab:=bx (by rintro rfl;simp at aeK);have a0:s[i0]'b0=M[0]:=gM 0 (by omega) (by omega);generalize bT:M[0]=c0 at a0 fr;unfold o.digit at fr;have cd:((c0.toNat:Int)==43)=ab:=by rw[cH];omega
 have cF:((c0.toNat:Int)==45)=ab:=by rw[cH];omega
 have c1:w.cell? ⟨P,802,J⟩=U (.bool ab):=rj.dJ;have c2:w.cell? ⟨P,803,J⟩=U (.bool ab):=rj.cr;have c3:=rj.free 802;have c4:=rj.free 803;have dH:s.size≤400:=ao;have z0:(0:Int)<(s.size:Int):=by omega
 clear rj gM dy p1 rI uj bT;go_enter func284,ntmps284;refine lq (fun K hK=>?_);have cI:=I hK;clear hK;go_wp2_with fail;refine cI.out _ _ ?_;clear cI;refine lq (fun K hK=>?_);have cI:=I hK;clear hK;go_wp2_with fail;refine cI.out _ _ ?_;clear cI;refine lq (fun K hK=>?_);have cI:=I hK;clear hK;go_wp2_with fail;refine cI.out _ _ ?_;clear cI;refine lq (fun K hK=>?_);have cI:=I hK;clear hK;go_wp2_with fail;refine cI.out _ _ ?_;clear cI;refine lq (fun K hK=>?_);have cI:=I hK;clear hK;go_wp2_with fail;refine cI.out _ _ ?_;clear cI;refine lq (fun K hK=>?_);go_cut [5] from 16 to 33 (fun v hJ=>v=.int .i64 (i0:Nat)∧aj (Has hJ P ⟨fun _=>0,0,0,neg,ab⟩)∧aj (ah P w hJ));case first=>
  rcases ls with ⟨rfl,rfl⟩ | ⟨rfl,rfl,asS⟩
  ·have azu:0<s.size:=b0;go_wp2_with fail;go_meet;case rel=>exact⟨rfl,I ((iH.out.U4 ab).MU ab),I (((aK P w).setCell (aC _) _).setCell (aC _) _)⟩
  ·have azv:s[0]'aeK=45:=asS 0 (by decide) (by omega);go_wp2_with fail;go_meet;case rel=>exact⟨rfl,I (((iH.out.U4 ab).MU ab).U4 ai),I ((((aK P w).setCell (aC _) _).setCell (aC _) _).setCell (aC _) _)⟩
 case rest=>
 obtain⟨rfl,Iq,cQ⟩:=hcut;clear ls a0 cd cF fr c1 c2 c3 c4 z0 iH;have cI:=I hK;clear hK;refine cI.out _ _ ?_;clear cI;go_wp2;go_loopw [5,6,7] (fun v5 v6 gI wr=>∃(i m nd dj:Nat) (a8:Int) (dot dr cr:Bool),i0≤i∧i≤i0+M.length∧aj (o.run (M.take (i-i0))=⟨m,nd,dj,a8,dot,dr,cr⟩)∧v5=.int .i64 (i:Nat)∧v6=.bool dot∧gI=.bool dr∧aj (asQ wr P w (M.take (i-i0)) nd a8 neg)) (fun v5 _ _ _=>s.size-(RowKit.intOf v5).toNat);case atStart=>exact⟨i0,0,0,0,0,ab,ab,ab,aC _,by omega,I (by rw[oR];rfl),rfl,rfl,rfl,I ⟨⟨_,Iq.out,by rw[oR];exact o.p'.zero rfl,rfl,rfl,rfl,rfl⟩,cQ.out⟩⟩
 case round=>
  obtain⟨i,m,nd,dj,a8,dot,dr,cr,um,je,ej,rfl,rfl,rfl,fs⟩:=hrel;have e4:=o.Cy (M.take (i-i0)) (fun c an=>di.out.1 c (qb an));rw[ej.out,gN,h2 (by omega)] at e4;have tT:nd≤400:=by have:=e4.nd;simp only at this;omega
  have GO:-400≤a8:=by have:=e4.lo;simp only at this;omega
  have UD:a8≤400:=by have:=e4.up;simp only at this;omega
  obtain⟨⟨D,cZ,cT,gR,lH,rZ,vo⟩,az⟩:=fs.out;have ay:=I az;have j':=I cZ;have vB:=I cT;have vC:=I gR;have Vi:=I lH;have vD:=I rZ;have Bt:=I vo;have c1:=cZ.nd;have c2:=cZ.a8;rw[gR] at c1;rw[lH] at c2;have d1:=cZ.free 800;have d2:=cZ.free 801;have d3:=cZ.free nd;have d4:=cZ.dr nd (by omega);clear fs az cZ cT gR lH rZ vo e4;by_cases bV:i<i0+M.length
  ·have uk:i<s.size:=by omega
   have k2:i-i0<M.length:=by omega
   have jP:s[i]'uk=M[i-i0]:=eQ.out.get k2 uk (by omega);have kO:=di.out.1 M[i-i0] (jc _);have nn:=I (di.out.2 (i-i0) k2);have h6:M.take (i+1-i0)=M.take (i-i0)++[M[i-i0]]:=by rw[show i+1-i0=i-i0+1 by omega,kc k2]
   have iO:=I (show o.run (M.take (i+1-i0))=o.step ⟨m,nd,dj,a8,dot,dr,cr⟩ M[i-i0] by rw[h6,o.x1,ej.out]);have Dv:=I (show o.sY (M.take (i+1-i0))=if M[i-i0]=46 then o.sY (M.take (i-i0)) else o.sY (M.take (i-i0))*10+(M[i-i0].toNat-48) by rw[h6,o.asM]);generalize M[i-i0]=c at jP kO nn iO Dv;clear h6;have kh:(0:Int)≤(nd:Int):=by omega
   have azw:(nd:Int)<800:=by omega
   have azx:(0:Int)≤(i:Int):=by omega
   rcases kO with rfl | kO
   ·obtain rfl:dot=ab:=by have:=nn.out rfl;rw[ej.out] at this;exact this
    clear nn;go_wp2;go_roundw;case rel=>exact⟨i+1,m,nd,dj,nd,ai,dr,cr,by omega,by omega,I (by rw[iO.out];rfl),by go_num,rfl,rfl,I ⟨⟨_,j'.out.y7 nd,by rw[Dv.out,ba rfl];exact vB.out.Vh _,vC.out,rfl,vD.out,Bt.out⟩,ay.out.setCell (aC _) _⟩⟩
    case measure=>simp[RowKit.intOf];omega
   ·have Cr:c≠46:=o.H' kO;unfold o.digit at kO;obtain⟨iN,mu⟩:=kO;have d95:((c.toNat:Int)==95)=ab:=by rw[cH];omega
    have d46:((c.toNat:Int)==46)=ab:=by rw[cH];omega
    have M2:=I (Dv.out.trans (aU Cr));clear nn Dv Cr;by_cases fT:c.toNat=48∧nd=0
    ·obtain⟨fT,pn⟩:=fT;subst pn;have d48:((c.toNat:Int)==48)=ai:=by rw[gy];omega
     have aN:=I (iO.out.trans (o.Km fT rfl));have hw:IntKind.i64.wrap (a8-1)=a8-1:=gF _ (by omega);have M3:=I (show o.sY (M.take (i+1-i0))=0 by
      have:=vB.out.aV;rw[vC.out] at this;rw[M2.out,fT];have:o.sY (M.take (i-i0))<1:=this;omega)
     rw[show ((0:Nat):Int)=0 from rfl] at c1;clear iO M2 fT;go_wp2;go_roundw;case rel=>exact⟨i+1,m,0,dj,a8-1,dot,ai,cr,by omega,by omega,aN,by go_num,rfl,rfl,I ⟨⟨_,j'.out.y7 (a8-1),by rw[M3.out];exact o.p'.zero vC.out,vC.out,rfl,vD.out,Bt.out⟩,ay.out.setCell (aC _) _⟩⟩
     case measure=>simp[RowKit.intOf];omega
    ·have vl:=I (show (o.run (M.take (i+1-i0))).nd=nd+1∧(o.run (M.take (i+1-i0))).a8=a8∧(o.run (M.take (i+1-i0))).dot=dot∧(o.run (M.take (i+1-i0))).dr=ai by
      rw[iO.out];have asT:¬ c=46:=fun e=>by rw[e] at d46;exact absurd d46 (by decide)
      have tL:¬ (c=48∧nd=0):=fun e=>fT ⟨by rw[e.1];rfl,e.2⟩;unfold o.step;rw[aU asT,aU tL];split<;>exact⟨rfl,rfl,rfl,rfl⟩)
     have M3:=I (show o.p' { (D.put D.nd c.toNat)with nd:=D.nd+1 } (o.sY (M.take (i+1-i0))) by
      rw[M2.out];exact vB.out.add iN mu (fun h e=>fT ⟨e,by rw[←vC.out];exact h⟩))
     obtain⟨aeL,d48⟩:∃b,((c.toNat:Int)==48)=b:=⟨_,rfl⟩;obtain⟨im,d0⟩:∃b,((nd:Int)==0)=b:=⟨_,rfl⟩;have pb:aeL=ai→im=ab:=by
      intro aa;rw[aa,gy] at d48;rw[←d0,cH];intro ae;exact fT ⟨by omega,by omega⟩
     have hw:IntKind.i64.wrap ((nd:Int)+1)=(nd:Int)+1:=gF _ (by omega);have GB:au ((nd:Int)<800)=ai:=bE (by omega);clear iO M2 fT;cases aeL
     ·clear d0 pb;go_wp2;go_region;have aO:=I (show Has (wr.setCell ⟨P,nd,J⟩ (.int .u8 (c.toNat:Nat))).drew P (D.put nd c.toNat) from (j'.out.put nd c.toNat (by omega)).drew);have Iy:=I (show ah P w (wr.setCell ⟨P,nd,J⟩ (.int .u8 (c.toNat:Nat))).drew from below_drewN (ay.out.setCell (aC _) _) 1);generalize (wr.setCell ⟨P,nd,J⟩ (.int .u8 (c.toNat:Nat))).drew=wd at aO Iy ⊢;clear c1 c2 d1 d2 d3 d4;have c1:wd.cell? ⟨P,800,J⟩=U (.int .i64 (nd:Nat)):=by have:=aO.out.nd;rw[←vC.out];exact this
      have d1:=aO.out.free 800;go_wp2;go_roundw;case rel=>exact⟨i+1,_,nd+1,_,a8,dot,ai,_,by omega,by omega,I (by rw[←vl.out.1,←vl.out.2.1,←vl.out.2.2.1,←vl.out.2.2.2]),by go_num,rfl,rfl,I ⟨⟨_,aO.out.Bk (nd+1),by rw[←vC.out];exact M3.out,rfl,Vi.out,vD.out,Bt.out⟩,Iy.out.setCell (aC _) _⟩⟩
      case measure=>simp[RowKit.intOf];omega
     ·obtain rfl:=pb rfl;go_wp2;go_region;have aO:=I (show Has (wr.setCell ⟨P,nd,J⟩ (.int .u8 (c.toNat:Nat))).drew P (D.put nd c.toNat) from (j'.out.put nd c.toNat (by omega)).drew);have Iy:=I (show ah P w (wr.setCell ⟨P,nd,J⟩ (.int .u8 (c.toNat:Nat))).drew from below_drewN (ay.out.setCell (aC _) _) 1);generalize (wr.setCell ⟨P,nd,J⟩ (.int .u8 (c.toNat:Nat))).drew=wd at aO Iy ⊢;clear c1 c2 d1 d2 d3 d4;have c1:wd.cell? ⟨P,800,J⟩=U (.int .i64 (nd:Nat)):=by have:=aO.out.nd;rw[←vC.out];exact this
      have d1:=aO.out.free 800;go_wp2;go_roundw;case rel=>exact⟨i+1,_,nd+1,_,a8,dot,ai,_,by omega,by omega,I (by rw[←vl.out.1,←vl.out.2.1,←vl.out.2.2.1,←vl.out.2.2.2]),by go_num,rfl,rfl,I ⟨⟨_,aO.out.Bk (nd+1),by rw[←vC.out];exact M3.out,rfl,Vi.out,vD.out,Bt.out⟩,Iy.out.setCell (aC _) _⟩⟩
      case measure=>simp[RowKit.intOf];omega
  ·obtain rfl:i=i0+M.length:=by omega
   rw[show i0+M.length-i0=M.length by omega,EF] at ej vB;obtain rfl:dr=ai:=by have:=eK.out.1;rw[ej.out] at this;exact this
   obtain rfl:dot=ai:=by have:=eK.out.2;rw[ej.out] at this;exact this
   have asU:i0+M.length≤s.size:=b5;obtain⟨dk,r1⟩:∃dk,i0+M.length=dk:=⟨_,rfl⟩;rw[r1] at bc asU ⊢;clear bV um je r1 b5 b0;have Vj:=I (show D.nd=(o.run M).nd by rw[vC.out,ej.out]);rcases ex with _ | ⟨_ | _,E⟩
   ·have bn:s.size=dk:=bc.out;clear bc;go_wp2;go_ret;exact⟨rfl,⟨D,j'.out,⟨vB.out,Vj.out,by rw[Vi.out,ej.out];simp only[Vg];omega,vD.out,Bt.out⟩⟩,ay.out⟩
   ·obtain⟨t1,t2,t3,t4,t5⟩:=bc.out;have lW:=I t3;have dM:=I t5;clear bc t3 t5;obtain⟨N,cW⟩:∃N,s.size=N:=⟨_,rfl⟩;have A9:dk<s.size:=by omega
    have UF:s[dk]'A9=101:=t2 0 (by decide) (by omega);have cX:dk+1<s.size:=by omega
    have a2:s[dk+1]'cX=E[0]:=lW.out.get t4 cX (by omega);have gq:=dM.out E[0] (jc _);generalize E[0]=c2 at a2 gq;unfold o.digit at gq;have f1:((c2.toNat:Int)==43)=ab:=by rw[cH];omega
    have f2:((c2.toNat:Int)==45)=ab:=by rw[cH];omega
    have f3:au (c2.toNat<48)=ab:=bx (by omega);have f4:au (57<c2.toNat)=ab:=bx (by omega);have kV:bits .or .u8 101 32=101:=by decide
    clear t2;go_wp2_with (refine (internal_strconv_lower _ _).mono ?_;rintro e sX ⟨rfl,rfl⟩);go_loopw [5,9] (fun v5 v9 wr=>∃i e:Nat,dk+1≤i∧i≤s.size∧v5=.int .i64 (i:Nat)∧v9=.int .i64 (e:Nat)∧aj (o.jB (E.take (i-(dk+1)))=e)∧wr=sX) (fun v5 _ _=>s.size-(RowKit.intOf v5).toNat);case atStart=>exact⟨dk+1,0,aC _,by omega,by go_num,rfl,I (by simp[o.jB]),rfl⟩
    case round=>
     obtain⟨i,e,um,je,rfl,rfl,he,rfl⟩:=hrel;have nY:=o.Cz (E.take (i-(dk+1))) (fun c an=>dM.out c (qb an));rw[he.out] at nY;by_cases r2:i<s.size
     ·have uo:i-(dk+1)<E.length:=by omega
      have Ba:s[i]'r2=E[i-(dk+1)]:=lW.out.get uo r2 (by omega);have p9:=dM.out E[i-(dk+1)] (jc _);have bc:=I (show o.jB (E.take (i+1-(dk+1)))=o.o8 e E[i-(dk+1)] by rw[show i+1-(dk+1)=i-(dk+1)+1 by omega,kc uo,o.Kl,he.out]);generalize E[i-(dk+1)]=c at Ba p9 bc;unfold o.digit at p9;have UH:((c.toNat:Int)==95)=ab:=by rw[cH];omega
      obtain⟨Bb,UI⟩:=p9;have bJ:=I Bb;by_cases eb:e<10000
      ·go_wp2;go_roundw;case rel=>exact⟨i+1,e*10+(c.toNat-48),by omega,by omega,by go_num,int_eq (by have:=bJ.out;omega),I (by rw[bc.out];unfold o.o8;rw[ba eb]),trivial⟩
       case measure=>simp[RowKit.intOf];omega
      ·go_wp2;go_roundw;case rel=>exact⟨i+1,e,by omega,by omega,by go_num,rfl,I (by rw[bc.out];unfold o.o8;rw[aU eb]),trivial⟩
       case measure=>simp[RowKit.intOf];omega
     ·obtain rfl:i=s.size:=by omega
      have mc:=I (show o.jB E=e by rw[←he.out,fp (by omega)]);have hw:IntKind.i64.wrap (a8+(e:Nat))=a8+(e:Nat):=gF _ (by omega);clear r2;go_wp2;go_ret;exact⟨rfl,⟨_,j'.out.y7 (a8+(e:Nat)),⟨vB.out.Vh _,Vj.out,by rw[ej.out];show a8+(e:Nat)=a8+((o.jB E:Nat):Int);rw[mc.out],vD.out,Bt.out⟩⟩,ay.out.setCell (aC _) _⟩
   ·obtain⟨t1,t2,t3,t4,t5⟩:=bc.out;have lW:=I t3;have dM:=I t5;clear bc t3 t5;obtain⟨N,cW⟩:∃N,s.size=N:=⟨_,rfl⟩;have A9:dk<s.size:=by omega
    have UF:s[dk]'A9=101:=t2 0 (by decide) (by omega);have UJ:dk+1<s.size:=by omega
    have aqE:s[dk+1]'UJ=45:=t2 1 (by decide) (by omega);have cX:dk+2<s.size:=by omega
    have a2:s[dk+2]'cX=E[0]:=lW.out.get t4 cX (by omega);have gq:=dM.out E[0] (jc _);generalize E[0]=c2 at a2 gq;unfold o.digit at gq;have f1:((c2.toNat:Int)==43)=ab:=by rw[cH];omega
    have f2:((c2.toNat:Int)==45)=ab:=by rw[cH];omega
    have f3:au (c2.toNat<48)=ab:=bx (by omega);have f4:au (57<c2.toNat)=ab:=bx (by omega);have kV:bits .or .u8 101 32=101:=by decide
    clear t2;go_wp2_with (refine (internal_strconv_lower _ _).mono ?_;rintro e sX ⟨rfl,rfl⟩);go_loopw [5,9] (fun v5 v9 wr=>∃i e:Nat,dk+2≤i∧i≤s.size∧v5=.int .i64 (i:Nat)∧v9=.int .i64 (e:Nat)∧aj (o.jB (E.take (i-(dk+2)))=e)∧wr=sX) (fun v5 _ _=>s.size-(RowKit.intOf v5).toNat);case atStart=>exact⟨dk+2,0,aC _,by omega,by go_num,rfl,I (by simp[o.jB]),rfl⟩
    case round=>
     obtain⟨i,e,um,je,rfl,rfl,he,rfl⟩:=hrel;have nY:=o.Cz (E.take (i-(dk+2))) (fun c an=>dM.out c (qb an));rw[he.out] at nY;by_cases r2:i<s.size
     ·have uo:i-(dk+2)<E.length:=by omega
      have Ba:s[i]'r2=E[i-(dk+2)]:=lW.out.get uo r2 (by omega);have p9:=dM.out E[i-(dk+2)] (jc _);have bc:=I (show o.jB (E.take (i+1-(dk+2)))=o.o8 e E[i-(dk+2)] by rw[show i+1-(dk+2)=i-(dk+2)+1 by omega,kc uo,o.Kl,he.out]);generalize E[i-(dk+2)]=c at Ba p9 bc;unfold o.digit at p9;have UH:((c.toNat:Int)==95)=ab:=by rw[cH];omega
      obtain⟨Bb,UI⟩:=p9;have bJ:=I Bb;by_cases eb:e<10000
      ·go_wp2;go_roundw;case rel=>exact⟨i+1,e*10+(c.toNat-48),by omega,by omega,by go_num,int_eq (by have:=bJ.out;omega),I (by rw[bc.out];unfold o.o8;rw[ba eb]),trivial⟩
       case measure=>simp[RowKit.intOf];omega
      ·go_wp2;go_roundw;case rel=>exact⟨i+1,e,by omega,by omega,by go_num,rfl,I (by rw[bc.out];unfold o.o8;rw[aU eb]),trivial⟩
       case measure=>simp[RowKit.intOf];omega
     ·obtain rfl:i=s.size:=by omega
      have mc:=I (show o.jB E=e by rw[←he.out,fp (by omega)]);have hw:IntKind.i64.wrap (a8 + -(e:Nat))=a8 + -(e:Nat):=gF _ (by omega);clear r2;go_wp2;go_ret;exact⟨rfl,⟨_,j'.out.y7 (a8 + -(e:Nat)),⟨vB.out.Vh _,Vj.out,by rw[ej.out];show a8 + -(e:Nat)=a8 + -((o.jB E:Nat):Int);rw[mc.out],vD.out,Bt.out⟩⟩,ay.out.setCell (aC _) _⟩
def Lv (A B:Nat):Prop:=∀(e6 fz:Value) (w:af),b2 w e6 (o.wd A)→b2 w fz (o.wd B)→aq ak 61 #[e6,fz] w (CP w A B)
theorem ale {A B:Nat} (be:A<256^4096) (az:(o.wd B).length=1):Lv A B:=fun e6 fz w hx aW=>by
 have ao:=cp (o.rF A be) (show 1024≤2500 by decide);rcases eh A B with h | h
 ·exact XP e6 fz A B w hx aW ao (by omega) h
 ·exact XQ e6 fz A B w hx aW ao az h
theorem aav (v:Value) (neg:Bool) (V:Nat) (n:Int) (w:af) (aB:cy neg V=n) (h:b2 w v (o.wd V)) (ao:(o.wd V).length≤10000) :
 aq ak 62 #[v,.bool neg] w fun e w'=>e=.returned (bz n)∧ah w.heap.size w w':=by
 have aa:=FM v (o.wd V) neg w h ao (o.fa V);rw[show Cu w neg (o.wd V)=fun e w'=>e=.returned (cO (neg && !(o.bytesOf (o.wd V)).isEmpty) (o.bytesOf (o.wd V)))∧ah w.heap.size w w' from rfl,o.KK,o.sy,CN aB] at aa;exact aa
theorem alf (A B:Int):cy (au (A<0) != au (B<0)) (A.natAbs/B.natAbs)=A.tdiv B:=by
 have h:∀a b:Nat,(a:Int).tdiv (b:Int)=((a/b:Nat):Int):=fun a b=>by simp
 unfold cy;by_cases be:A<0<;>by_cases az:B<0
 ·rw[bE be,bE az];obtain⟨a,aS⟩:∃a:Nat,A = -(a:Int):=⟨A.natAbs,by omega⟩;obtain⟨b,ad⟩:∃b:Nat,B = -(b:Int):=⟨B.natAbs,by omega⟩;subst aS ad;simp[Int.neg_tdiv,Int.tdiv_neg]
 ·rw[bE be,bx az];obtain⟨a,aS⟩:∃a:Nat,A = -(a:Int):=⟨A.natAbs,by omega⟩;obtain⟨b,ad⟩:∃b:Nat,B=(b:Int):=⟨B.natAbs,by omega⟩;subst aS ad;simp[Int.neg_tdiv]
 ·rw[bx be,bE az];obtain⟨a,aS⟩:∃a:Nat,A=(a:Int):=⟨A.natAbs,by omega⟩;obtain⟨b,ad⟩:∃b:Nat,B = -(b:Int):=⟨B.natAbs,by omega⟩;subst aS ad;simp[Int.tdiv_neg]
 ·rw[bx be,bx az];obtain⟨a,aS⟩:∃a:Nat,A=(a:Int):=⟨A.natAbs,by omega⟩;obtain⟨b,ad⟩:∃b:Nat,B=(b:Int):=⟨B.natAbs,by omega⟩;subst aS ad;simp
theorem alg (A B:Int):cy (au (A<0)) (A.natAbs%B.natAbs)=A.tmod B:=by
 have key:∀a b:Nat,(a:Int).tmod (b:Int)=((a%b:Nat):Int):=fun a b=>rfl;obtain⟨b,ad⟩:∃b:Nat,B=(b:Int)∨B = -(b:Int):=⟨B.natAbs,Int.natAbs_eq B⟩;have aH:A.tmod B=A.tmod (b:Int):=by rcases ad with rfl | rfl<;>simp
 have aT:B.natAbs=b:=by rcases ad with rfl | rfl<;>simp
 rw[aH,aT];unfold cy;by_cases be:A<0
 ·rw[bE be,ba rfl];obtain⟨a,aS⟩:∃a:Nat,A = -(a:Int):=⟨A.natAbs,by omega⟩;subst aS;rw[Int.neg_tmod,key,Int.natAbs_neg,Es]
 ·rw[bx be];obtain⟨a,aS⟩:∃a:Nat,A=(a:Int):=⟨A.natAbs,by omega⟩;subst aS;rw[key,Es];rfl
theorem aI.tU {w W:af} {T aaw:TypeId} {a b x y:Value} (hw:(w.alloc (.cells #[x,y] aaw)).alloc (.cells #[a,b] T)=W):aI W (w.heap.size+1) T a b:=by
 rw[←hw];have:=aI.new (w.alloc (.cells #[x,y] aaw)) T a b;simpa using this
theorem aax (A B:Int) (w:af) (be:o.bO A) (az:o.bO B) (ar:B≠0) (aL:Lv A.natAbs B.natAbs) :
 aq ak 27 #[bz A,bz B] w fun e w'=>e=.returned (.tuple #[bz (A.tdiv B),bz (A.tmod B),.int .i64 0])∧ah w.heap.size w w':=by
 have et:=I (fun W=>yg A B W be az);have dM:=I aL;have qA:(o.wd (A.natAbs/B.natAbs)).length≤10000:=cp (o.rF _ (gQ (s9 _ _) be)) (by decide);have m':(o.wd (A.natAbs%B.natAbs)).length≤10000:=cp (o.rF _ (gQ (E7 _ _) be)) (by decide);have Lw:aj (∀W v,b2 W v (o.wd (A.natAbs/B.natAbs))→aq ak 62 #[v,.bool (!(au (A<0)==au (B<0)))] W fun e w'=>e=.returned (bz (A.tdiv B))∧ah W.heap.size W w'):=I (fun W v h=>aav v _ _ _ W (alf A B) h qA);have SB:aj (∀W v,b2 W v (o.wd (A.natAbs%B.natAbs))→aq ak 62 #[v,.bool (au (A<0))] W fun e w'=>e=.returned (bz (A.tmod B))∧ah W.heap.size W w'):=I (fun W v h=>aav v _ _ _ W (alg A B) h m');have dT:o.wd B.natAbs≠[]:=fun e=>by
  have:=o.eA B.natAbs;rw[e] at this;simp[o.num] at this;omega
 have Lx:0<(o.wd B.natAbs).length:=List.length_pos_iff.2 dT;obtain⟨bp,fi⟩:∃bp,au (A<0)=bp:=⟨_,rfl⟩;obtain⟨bt,gi⟩:∃bt,au (B<0)=bt:=⟨_,rfl⟩;have aS:bz A=.agg #[.bool bp,.string (ax (o.bs A.natAbs))]:=by unfold bz cO;rw[fi]
 have ad:bz B=.agg #[.bool bt,.string (ax (o.bs B.natAbs))]:=by unfold bz cO;rw[gi]
 rw[aS] at et ⊢;rw[ad] at et ⊢;rw[fi] at et Lw SB;rw[gi] at et Lw;generalize ax (o.bs A.natAbs)=d' at *;generalize ax (o.bs B.natAbs)=dN at *;generalize A.natAbs=bo at *;generalize B.natAbs=V at *;obtain⟨qO,qs,GX⟩:∃f s,bz (A.tdiv B)=.agg #[.bool f,.string s]:=⟨_,_,rfl⟩;obtain⟨rP,da,pZ⟩:∃f s,bz (A.tmod B)=.agg #[.bool f,.string s]:=⟨_,_,rfl⟩;rw[GX] at Lw ⊢;rw[pZ] at SB ⊢;clear aS ad fi gi be az GX pZ aL qA m' dT ar;obtain⟨aZ,bl⟩:∃aZ,(((w.alloc (.cells #[.bool bp,.string d'] 46)).alloc (.cells #[.bool bt,.string dN] 46)).alloc (.cells #[.bool ab,.string ⟨#[]⟩] 46)).alloc (.cells #[.bool ab,.string ⟨#[]⟩] 46)=aZ:=⟨_,rfl⟩;have cY:aj (aI aZ w.heap.size 46 (.bool bp) (.string d')):=I (by rw[←bl];exact (((aI.new _ _ _ _).alloc _).alloc _).alloc _);have dt:aj (aI aZ (w.heap.size+1) 46 (.bool bt) (.string dN)):=I (by
  rw[←bl];have:=((aI.new (w.alloc (.cells #[.bool bp,.string d'] 46)) 46 (.bool bt) (.string dN)).alloc (.cells #[.bool ab,.string ⟨#[]⟩] 46)).alloc (.cells #[.bool ab,.string ⟨#[]⟩] 46);simpa using this)
 have eI:aj (aI aZ (w.heap.size+2) 46 (.bool ab) (.string ⟨#[]⟩)):=I (by
  rw[←bl];have:=(aI.new ((w.alloc (.cells #[.bool bp,.string d'] 46)).alloc (.cells #[.bool bt,.string dN] 46)) 46 (.bool ab) (.string ⟨#[]⟩)).alloc (.cells #[.bool ab,.string ⟨#[]⟩] 46);simpa using this)
 have lx:aj (aI aZ (w.heap.size+3) 46 (.bool ab) (.string ⟨#[]⟩)):=I (by
  rw[←bl];have:=aI.new (((w.alloc (.cells #[.bool bp,.string d'] 46)).alloc (.cells #[.bool bt,.string dN] 46)).alloc (.cells #[.bool ab,.string ⟨#[]⟩] 46)) 46 (.bool ab) (.string ⟨#[]⟩);simpa using this)
 have bu:aj (ah w.heap.size w aZ):=I (by rw[←bl];exact ((((aK _ _).alloc (aC _) _).alloc (by simp) _).alloc (by simp;omega) _).alloc (by simp;omega) _);have dL:w.heap.size+4≤aZ.heap.size:=by rw[←bl];simp
 obtain⟨cn,bY,_,_⟩:=cY.out.cells;obtain⟨b0,bD,_,_⟩:=dt.out.cells;go_enter func27,ntmps27;go_wp2_with fail;refine (et.out _).mono ?_;rintro e aQ ⟨c7,gn,rfl,hv,hy,bb⟩;obtain⟨ic,ac,rfl⟩:=hv.form;obtain⟨gl,cV,rfl⟩:=hy.form;generalize (o.wd bo).length=gx at *;generalize (o.wd V).length=gX at *;have wI:((gX:Int)==0)=ab:=by rw[cH];omega
 obtain⟨bh,dn⟩:∃bh,(aQ.alloc (.cells #[.slice ic gx ac,.bool bp] 85)).alloc (.cells #[.slice gl gX cV,.bool bt] 85)=bh:=⟨_,rfl⟩;have bf:ah aQ.heap.size aQ bh:=by rw[←dn];exact ((aK _ _).alloc (aC _) _).alloc (by simp) _
 have iy:w.heap.size+4≤aQ.heap.size:=cp dL bb.size;have dc:=I (chain (chain bu.out bb (by omega)) bf (by omega));have iB:=I ((eI.out.below bb).below bf);have qP:=I ((lx.out.below bb).below bf);have sI:=I (hv.below bf);have rQ:=I (hy.below bf);have k6:aj (aI bh aQ.heap.size 85 (.slice ic gx ac) (.bool bp)):=I (by rw[←dn];exact (aI.new _ _ _ _).alloc _);have k5:aj (aI bh (aQ.heap.size+1) 85 (.slice gl gX cV) (.bool bt)):=I (aI.tU dn);have pa:w.heap.size+4≤bh.heap.size:=cp iy bf.size;clear cn bY b0 bD cY dt eI lx bu dL bb hv hy bl bf;obtain⟨cn,bY,_,_⟩:=k6.out.cells;obtain⟨b0,bD,_,_⟩:=k5.out.cells;go_wp2_with fail;refine (dM.out _ _ _ (by exact sI.out) (by exact rQ.out)).mono ?_;rintro e cw ⟨CQ,jD,rfl,SC,wL,cL⟩;obtain⟨dQ,e1,rfl⟩:=SC.form;obtain⟨yi,rc,rfl⟩:=wL.form;generalize (o.wd (bo/V)).length=aay at *;generalize (o.wd (bo%V)).length=aaz at *;have qQ:=I (k6.out.below cL);have C':=I (k5.out.below cL);have SD:=I (iB.out.below cL);have SE:=I (qP.out.below cL);have gA:=I (chain dc.out cL (by omega));have Ly:=I SC;have Gp:=I wL;have rE:w.heap.size+4≤cw.heap.size:=cp pa cL.size;clear cn bY b0 bD dn cL SC wL k6 k5 iB qP dc;obtain⟨_,bY,_,_⟩:=qQ.out.cells;obtain⟨_,bD,_,_⟩:=C'.out.cells;have cU:=I (show ah cw.heap.size cw cw.drew from (aK _ cw).drew);have aN:aj (∀W,ah cw.heap.size cw W→W.cell? ⟨aQ.heap.size,1,J⟩=U (.bool bp)∧W.cell? ⟨aQ.heap.size+1,1,J⟩=U (.bool bt)):=I (fun W ad=>⟨(qQ.out.below ad).cells.2.1,(C'.out.below ad).cells.2.1⟩);have jm:aj (∀W,ah cw.heap.size cw W→∀k,k≠aQ.heap.size→k≠aQ.heap.size+1→∀x y,((W.setCell ⟨k,0,J⟩ x).setCell ⟨k,1,J⟩ y).cell? ⟨aQ.heap.size,1,J⟩=U (.bool bp)∧((W.setCell ⟨k,0,J⟩ x).setCell ⟨k,1,J⟩ y).cell? ⟨aQ.heap.size+1,1,J⟩=U (.bool bt)):=I (fun W ad k aa ae x y=>⟨((qQ.out.below ad).both aa).cells.2.1,((C'.out.below ad).both ae).cells.2.1⟩);have Rn:aj (∀W,ah cw.heap.size cw W→∀k,k≠aQ.heap.size→k≠aQ.heap.size+1→∀x y,∀j,j≠aQ.heap.size→j≠aQ.heap.size+1→∀hr lE,((((W.setCell ⟨k,0,J⟩ x).setCell ⟨k,1,J⟩ y).setCell ⟨j,0,J⟩ hr).setCell ⟨j,1,J⟩ lE).cell? ⟨aQ.heap.size,1,J⟩=U (.bool bp)∧((((W.setCell ⟨k,0,J⟩ x).setCell ⟨k,1,J⟩ y).setCell ⟨j,0,J⟩ hr).setCell ⟨j,1,J⟩ lE).cell? ⟨aQ.heap.size+1,1,J⟩=U (.bool bt)):=I (fun W ad k aa ae x y j aJ bQ hr lE=>⟨(((qQ.out.below ad).both aa).both aJ).cells.2.1,(((C'.out.below ad).both ae).both bQ).cells.2.1⟩);go_wp2;go_region_held3 (fun W=>W.cell? ⟨aQ.heap.size,1,J⟩=U (.bool bp)∧W.cell? ⟨aQ.heap.size+1,1,J⟩=U (.bool bt)) (first | with_reducible exact⟨bY,bD⟩ | with_reducible exact aN.out _ cU.out | with_reducible exact aN.out _ mv | with_reducible exact aN.out _ mw | (with_reducible refine jm.out _ ?_ _ ?_ ?_ _ _;(first | exact mv | exact mw);omega;omega) | (with_reducible refine Rn.out _ ?_ _ ?_ ?_ _ _ _ ?_ ?_ _ _;(first | exact mv | exact mw);omega;omega;omega;omega)) (first
  | (go_at_call 62;(with_reducible refine (Lw.out _ (.slice dQ aay e1) ?_).mono ?_);(first | exact Ly.out.below cU.out | exact Ly.out.below mw);rintro e Gf ⟨rfl,yh⟩;(first | (have mv:ah cw.heap.size cw Gf:=mw.trans (yh.mono mw.size);have iz:=I mv;obtain⟨cl,bH,f0,f1⟩:=(SD.out.below mv).cells;obtain⟨t0,t1,g0,g1⟩:=(SE.out.below mv).cells) | (have mv:ah cw.heap.size cw Gf:=(aK _ cw).drew.trans yh)))
  | (go_at_call 62;(with_reducible refine (SB.out _ (.slice yi aaz rc) ?_).mono ?_);(first | exact Gp.out.below cU.out | exact Gp.out.below mv);rintro e Gg ⟨rfl,pb⟩;(first | (have mw:ah cw.heap.size cw Gg:=mv.trans (pb.mono mv.size);have iz:=I mw;obtain⟨cl,bH,f0,f1⟩:=(SD.out.below mw).cells;obtain⟨t0,t1,g0,g1⟩:=(SE.out.below mw).cells) | (have mw:ah cw.heap.size cw Gg:=(aK _ cw).drew.trans pb))))
 all_goals
  have Am:=SD.out.below iz.out;have x0:=SE.out.below iz.out;have kZ:=I ((Am.set (.bool qO) (.string qs)).both (k:=w.heap.size+2) (j:=w.heap.size+3) (x:=.bool rP) (y:=.string da) (by omega));have iP:=I ((x0.both (k:=w.heap.size+3) (j:=w.heap.size+2) (x:=.bool qO) (y:=.string qs) (by omega)).set (.bool rP) (.string da));have k0:=I (fG (fG (gA.out.trans (iz.out.mono (by omega))) (show w.heap.size≤w.heap.size+2 by omega) (.bool qO) (.string qs)) (show w.heap.size≤w.heap.size+3 by omega) (.bool rP) (.string da));obtain⟨aM,aG,_,_⟩:=kZ.out.cells;obtain⟨tF,iT,_,_⟩:=iP.out.cells;clear Am x0;go_wp2;refine bI (v:=.tuple #[.agg #[.bool qO,.string qs],.agg #[.bool rP,.string da],.int .i64 0]) (by simp[bK,results27,go_sem,aM,aG,tF,iT]) rfl ⟨rfl,k0.out⟩
theorem aaA (eu ea eJ rg:Bool) (ev en qs da:ByteArray) (w:af) (aE:∀W,aq ak 27 #[.agg #[.bool eu,.string ev],.agg #[.bool ea,.string en]] W fun e w'=>e=.returned (.tuple #[.agg #[.bool eJ,.string qs],.agg #[.bool rg,.string da],.int .i64 0])∧ah W.heap.size W w')
 (aF:da.toList.isEmpty=ai∨rg=ea) :
 aq ak 23 #[.agg #[.bool eu,.string ev],.agg #[.bool ea,.string en]] w fun e w'=>e=.returned (.tuple #[.agg #[.bool eJ,.string qs],.agg #[.bool rg,.string da],.int .i64 0])∧ah w.heap.size w w':=by
 have b3:=I aE;clear aE;obtain⟨aZ,bl⟩:∃aZ,(((w.alloc (.cells #[.bool eu,.string ev] 46)).alloc (.cells #[.bool ea,.string en] 46)).alloc (.cells #[.bool ab,.string ⟨#[]⟩] 46)).alloc (.cells #[.bool ab,.string ⟨#[]⟩] 46)=aZ:=⟨_,rfl⟩;have cY:aj (aI aZ w.heap.size 46 (.bool eu) (.string ev)):=I (by rw[←bl];exact (((aI.new _ _ _ _).alloc _).alloc _).alloc _);have dt:aj (aI aZ (w.heap.size+1) 46 (.bool ea) (.string en)):=I (by
  rw[←bl];have:=((aI.new (w.alloc (.cells #[.bool eu,.string ev] 46)) 46 (.bool ea) (.string en)).alloc (.cells #[.bool ab,.string ⟨#[]⟩] 46)).alloc (.cells #[.bool ab,.string ⟨#[]⟩] 46);simpa using this)
 have eI:aj (aI aZ (w.heap.size+2) 46 (.bool ab) (.string ⟨#[]⟩)):=I (by
  rw[←bl];have:=(aI.new ((w.alloc (.cells #[.bool eu,.string ev] 46)).alloc (.cells #[.bool ea,.string en] 46)) 46 (.bool ab) (.string ⟨#[]⟩)).alloc (.cells #[.bool ab,.string ⟨#[]⟩] 46);simpa using this)
 have lx:aj (aI aZ (w.heap.size+3) 46 (.bool ab) (.string ⟨#[]⟩)):=I (by
  rw[←bl];have:=aI.new (((w.alloc (.cells #[.bool eu,.string ev] 46)).alloc (.cells #[.bool ea,.string en] 46)).alloc (.cells #[.bool ab,.string ⟨#[]⟩] 46)) 46 (.bool ab) (.string ⟨#[]⟩);simpa using this)
 have bu:aj (ah w.heap.size w aZ):=I (by rw[←bl];exact ((((aK _ _).alloc (aC _) _).alloc (by simp) _).alloc (by simp;omega) _).alloc (by simp;omega) _);have dL:w.heap.size+4≤aZ.heap.size:=by rw[←bl];simp
 obtain⟨cn,bY,_,_⟩:=cY.out.cells;obtain⟨b0,bD,_,_⟩:=dt.out.cells;go_enter func23,PA;go_wp2_with fail;refine (b3.out _).mono ?_;rintro e aQ ⟨rfl,bb⟩;have iy:w.heap.size+4≤aQ.heap.size:=cp dL bb.size;obtain⟨bh,dn⟩:∃bh,(aQ.alloc (.cells #[.bool eJ,.string qs] 46)).alloc (.cells #[.bool rg,.string da] 46)=bh:=⟨_,rfl⟩;have bf:ah aQ.heap.size aQ bh:=by rw[←dn];exact ((aK _ _).alloc (aC _) _).alloc (by simp) _
 have dc:=I (chain (chain bu.out bb (by omega)) bf (by omega));have uZ:=I ((dt.out.below bb).below bf);have iB:=I ((eI.out.below bb).below bf);have qP:=I ((lx.out.below bb).below bf);have ni:aj (aI bh aQ.heap.size 46 (.bool eJ) (.string qs)):=I (by rw[←dn];exact (aI.new _ _ _ _).alloc _);have kY:aj (aI bh (aQ.heap.size+1) 46 (.bool rg) (.string da)):=I (aI.tU dn);clear cn bY b0 bD cY dt eI lx bu dL bl bb bf;obtain⟨b0,bD,_,_⟩:=uZ.out.cells;obtain⟨a0,b1,_,_⟩:=ni.out.cells;obtain⟨im,cd,_,_⟩:=kY.out.cells;obtain⟨cl,bH,f0,f1⟩:=iB.out.cells;obtain⟨t0,t1,g0,g1⟩:=qP.out.cells;have kZ:=I ((iB.out.set (.bool eJ) (.string qs)).both (k:=w.heap.size+2) (j:=w.heap.size+3) (x:=.bool rg) (y:=.string da) (by omega));have iP:=I ((qP.out.both (k:=w.heap.size+3) (j:=w.heap.size+2) (x:=.bool eJ) (y:=.string qs) (by omega)).set (.bool rg) (.string da));have k0:=I (fG (fG dc.out (show w.heap.size≤w.heap.size+2 by omega) (.bool eJ) (.string qs)) (show w.heap.size≤w.heap.size+3 by omega) (.bool rg) (.string da));have aL:da.toList.isEmpty=ai∨(da.toList.isEmpty=ab∧rg=ea):=by
  cases h:da.toList.isEmpty
  ·rcases aF with aF | aF
   ·rw[h] at aF;cases aF
   ·exact .inr ⟨rfl,aF⟩
  ·exact .inl rfl
 clear aF;rcases aL with d1 | ⟨d1,rfl⟩;all_goals
  go_wp2;go_region;go_wp2_with fail;obtain⟨aM,aG,_,_⟩:=kZ.out.drew.cells;obtain⟨tF,iT,_,_⟩:=iP.out.drew.cells;refine bI (v:=.tuple #[.agg #[.bool eJ,.string qs],.agg #[.bool rg,.string da],.int .i64 0]) (by simp[bK,OG,go_sem,aM,aG,tF,iT]) rfl ⟨rfl,k0.out.drew⟩
theorem aaB (eu ea eJ rg:Bool) (ev en qs da:ByteArray) (w:af) (aE:∀W,aq ak 23 #[.agg #[.bool eu,.string ev],.agg #[.bool ea,.string en]] W fun e w'=>e=.returned (.tuple #[.agg #[.bool eJ,.string qs],.agg #[.bool rg,.string da],.int .i64 0])∧ah W.heap.size W w')
 (aF:da.toList.isEmpty=ab) :
 aq ak 22 #[.agg #[.bool eu,.string ev],.agg #[.bool ea,.string en]] w fun e w'=>e=.returned (.tuple #[.agg #[.bool eJ,.string qs],.int .i64 1])∧ah w.heap.size w w':=by
 have b3:=I aE;clear aE;obtain⟨aZ,bl⟩:∃aZ,((w.alloc (.cells #[.bool eu,.string ev] 46)).alloc (.cells #[.bool ea,.string en] 46)).alloc (.cells #[.bool ab,.string ⟨#[]⟩] 46)=aZ:=⟨_,rfl⟩;have cY:aj (aI aZ w.heap.size 46 (.bool eu) (.string ev)):=I (by rw[←bl];exact ((aI.new _ _ _ _).alloc _).alloc _);have dt:aj (aI aZ (w.heap.size+1) 46 (.bool ea) (.string en)):=I (by
  rw[←bl];have:=(aI.new (w.alloc (.cells #[.bool eu,.string ev] 46)) 46 (.bool ea) (.string en)).alloc (.cells #[.bool ab,.string ⟨#[]⟩] 46);simpa using this)
 have eI:aj (aI aZ (w.heap.size+2) 46 (.bool ab) (.string ⟨#[]⟩)):=I (by
  rw[←bl];have:=aI.new ((w.alloc (.cells #[.bool eu,.string ev] 46)).alloc (.cells #[.bool ea,.string en] 46)) 46 (.bool ab) (.string ⟨#[]⟩);simpa using this)
 have bu:aj (ah w.heap.size w aZ):=I (by rw[←bl];exact (((aK _ _).alloc (aC _) _).alloc (by simp) _).alloc (by simp;omega) _);have dL:w.heap.size+3≤aZ.heap.size:=by rw[←bl];simp
 obtain⟨cn,bY,_,_⟩:=cY.out.cells;obtain⟨b0,bD,_,_⟩:=dt.out.cells;go_enter func22,ntmps22;go_wp2_with fail;refine (b3.out _).mono ?_;rintro e aQ ⟨rfl,bb⟩;have iy:w.heap.size+3≤aQ.heap.size:=cp dL bb.size;obtain⟨bh,dn⟩:∃bh,(aQ.alloc (.cells #[.bool eJ,.string qs] 46)).alloc (.cells #[.bool rg,.string da] 46)=bh:=⟨_,rfl⟩;have bf:ah aQ.heap.size aQ bh:=by rw[←dn];exact ((aK _ _).alloc (aC _) _).alloc (by simp) _
 have dc:=I (chain (chain bu.out bb (by omega)) bf (by omega));have iB:=I ((eI.out.below bb).below bf);have ni:aj (aI bh aQ.heap.size 46 (.bool eJ) (.string qs)):=I (by rw[←dn];exact (aI.new _ _ _ _).alloc _);have kY:aj (aI bh (aQ.heap.size+1) 46 (.bool rg) (.string da)):=I (aI.tU dn);clear cn bY b0 bD cY dt eI bu dL bl bb bf;obtain⟨a0,b1,_,_⟩:=ni.out.cells;obtain⟨im,cd,_,_⟩:=kY.out.cells;obtain⟨cl,bH,f0,f1⟩:=iB.out.cells;have kZ:=I (iB.out.set (.bool eJ) (.string qs));have k0:=I (fG dc.out (show w.heap.size≤w.heap.size+2 by omega) (.bool eJ) (.string qs));go_wp2_with fail;obtain⟨aM,aG,_,_⟩:=kZ.out.cells;refine bI (v:=.tuple #[.agg #[.bool eJ,.string qs],.int .i64 1]) (by simp[bK,results22,go_sem,aM,aG]) rfl ⟨rfl,k0.out⟩
theorem TV (A B:Int) (w:af) (be:o.bO A) (az:o.bO B) (ar:B=0) :
 aq ak 27 #[bz A,bz B] w fun e w'=>e=.returned (.tuple #[cO ab [],cO ab [],.int .i64 90])∧ah w.heap.size w w':=by
 have et:=I (fun W=>yg A B W be az);have Lx:(o.wd B.natAbs).length=0:=by rw[ar];show (o.wd 0).length=0;rw[o.KM];rfl
 obtain⟨bp,fi⟩:∃bp,au (A<0)=bp:=⟨_,rfl⟩;obtain⟨bt,gi⟩:∃bt,au (B<0)=bt:=⟨_,rfl⟩;have aS:bz A=.agg #[.bool bp,.string (ax (o.bs A.natAbs))]:=by unfold bz cO;rw[fi]
 have ad:bz B=.agg #[.bool bt,.string (ax (o.bs B.natAbs))]:=by unfold bz cO;rw[gi]
 rw[aS] at et ⊢;rw[ad] at et ⊢;rw[fi] at et;rw[gi] at et;generalize ax (o.bs A.natAbs)=d' at *;generalize ax (o.bs B.natAbs)=dN at *;generalize A.natAbs=bo at *;generalize B.natAbs=V at *;clear aS ad fi gi be az ar;obtain⟨aZ,bl⟩:∃aZ,(((w.alloc (.cells #[.bool bp,.string d'] 46)).alloc (.cells #[.bool bt,.string dN] 46)).alloc (.cells #[.bool ab,.string ⟨#[]⟩] 46)).alloc (.cells #[.bool ab,.string ⟨#[]⟩] 46)=aZ:=⟨_,rfl⟩;have cY:aj (aI aZ w.heap.size 46 (.bool bp) (.string d')):=I (by rw[←bl];exact (((aI.new _ _ _ _).alloc _).alloc _).alloc _);have dt:aj (aI aZ (w.heap.size+1) 46 (.bool bt) (.string dN)):=I (by
  rw[←bl];have:=((aI.new (w.alloc (.cells #[.bool bp,.string d'] 46)) 46 (.bool bt) (.string dN)).alloc (.cells #[.bool ab,.string ⟨#[]⟩] 46)).alloc (.cells #[.bool ab,.string ⟨#[]⟩] 46);simpa using this)
 have eI:aj (aI aZ (w.heap.size+2) 46 (.bool ab) (.string ⟨#[]⟩)):=I (by
  rw[←bl];have:=(aI.new ((w.alloc (.cells #[.bool bp,.string d'] 46)).alloc (.cells #[.bool bt,.string dN] 46)) 46 (.bool ab) (.string ⟨#[]⟩)).alloc (.cells #[.bool ab,.string ⟨#[]⟩] 46);simpa using this)
 have lx:aj (aI aZ (w.heap.size+3) 46 (.bool ab) (.string ⟨#[]⟩)):=I (by
  rw[←bl];have:=aI.new (((w.alloc (.cells #[.bool bp,.string d'] 46)).alloc (.cells #[.bool bt,.string dN] 46)).alloc (.cells #[.bool ab,.string ⟨#[]⟩] 46)) 46 (.bool ab) (.string ⟨#[]⟩);simpa using this)
 have bu:aj (ah w.heap.size w aZ):=I (by rw[←bl];exact ((((aK _ _).alloc (aC _) _).alloc (by simp) _).alloc (by simp;omega) _).alloc (by simp;omega) _);have dL:w.heap.size+4≤aZ.heap.size:=by rw[←bl];simp
 obtain⟨cn,bY,_,_⟩:=cY.out.cells;obtain⟨b0,bD,_,_⟩:=dt.out.cells;go_enter func27,ntmps27;go_wp2_with fail;refine (et.out _).mono ?_;rintro e aQ ⟨c7,gn,rfl,hv,hy,bb⟩;obtain⟨ic,ac,rfl⟩:=hv.form;obtain⟨gl,cV,rfl⟩:=hy.form;generalize (o.wd bo).length=gx at *;generalize (o.wd V).length=gX at *;subst Lx;obtain⟨bh,dn⟩:∃bh,(aQ.alloc (.cells #[.slice ic gx ac,.bool bp] 85)).alloc (.cells #[.slice gl 0 cV,.bool bt] 85)=bh:=⟨_,rfl⟩;have bf:ah aQ.heap.size aQ bh:=by rw[←dn];exact ((aK _ _).alloc (aC _) _).alloc (by simp) _
 have iy:w.heap.size+4≤aQ.heap.size:=cp dL bb.size;have dc:=I (chain (chain bu.out bb (by omega)) bf (by omega));have iB:=I ((eI.out.below bb).below bf);have qP:=I ((lx.out.below bb).below bf);have sI:=I (hv.below bf);have rQ:=I (hy.below bf);have k6:aj (aI bh aQ.heap.size 85 (.slice ic gx ac) (.bool bp)):=I (by rw[←dn];exact (aI.new _ _ _ _).alloc _);have k5:aj (aI bh (aQ.heap.size+1) 85 (.slice gl 0 cV) (.bool bt)):=I (aI.tU dn);have pa:w.heap.size+4≤bh.heap.size:=cp iy bf.size;clear cn bY b0 bD cY dt eI lx bu dL bb hv hy bl bf;have kZ:=I ((iB.out.set (.bool ab) (.string ⟨#[]⟩)).both (k:=w.heap.size+2) (j:=w.heap.size+3) (x:=.bool ab) (y:=.string ⟨#[]⟩) (by omega));have iP:=I ((qP.out.both (k:=w.heap.size+3) (j:=w.heap.size+2) (x:=.bool ab) (y:=.string ⟨#[]⟩) (by omega)).set (.bool ab) (.string ⟨#[]⟩));have k0:=I (fG (fG dc.out (show w.heap.size≤w.heap.size+2 by omega) (.bool ab) (.string ⟨#[]⟩)) (show w.heap.size≤w.heap.size+3 by omega) (.bool ab) (.string ⟨#[]⟩));obtain⟨cl,bH,f0,f1⟩:=(show aI bh (w.heap.size+1+1) _ (.bool ab) (.string ⟨#[]⟩) from iB.out).cells;obtain⟨t0,t1,g0,g1⟩:=(show aI bh (w.heap.size+1+1+1) _ (.bool ab) (.string ⟨#[]⟩) from qP.out).cells;obtain⟨cn,bY,_,_⟩:=k6.out.cells;obtain⟨b0,bD,_,_⟩:=k5.out.cells;go_wp2_with fail;obtain⟨aM,aG,_,_⟩:=(show aI _ (w.heap.size+1+1) _ (.bool ab) (.string ⟨#[]⟩) from kZ.out).cells;obtain⟨tF,iT,_,_⟩:=(show aI _ (w.heap.size+1+1+1) _ (.bool ab) (.string ⟨#[]⟩) from iP.out).cells;refine bI (v:=.tuple #[.agg #[.bool ab,.string ⟨#[]⟩],.agg #[.bool ab,.string ⟨#[]⟩],.int .i64 90]) (by simp[bK,results27,go_sem,aM,aG,tF,iT]) rfl ⟨rfl,k0.out⟩
theorem anM (eu ea eJ rg:Bool) (ev en qs da:ByteArray) (bm:Int) (w:af) (aE:∀W,aq ak 27 #[.agg #[.bool eu,.string ev],.agg #[.bool ea,.string en]] W fun e w'=>e=.returned (.tuple #[.agg #[.bool eJ,.string qs],.agg #[.bool rg,.string da],.int .i64 bm])∧ah W.heap.size W w')
 (he:bm≠0) :
 aq ak 23 #[.agg #[.bool eu,.string ev],.agg #[.bool ea,.string en]] w fun e w'=>e=.returned (.tuple #[.agg #[.bool eJ,.string qs],.agg #[.bool rg,.string da],.int .i64 bm])∧ah w.heap.size w w':=by
 have b3:=I aE;clear aE;obtain⟨aZ,bl⟩:∃aZ,(((w.alloc (.cells #[.bool eu,.string ev] 46)).alloc (.cells #[.bool ea,.string en] 46)).alloc (.cells #[.bool ab,.string ⟨#[]⟩] 46)).alloc (.cells #[.bool ab,.string ⟨#[]⟩] 46)=aZ:=⟨_,rfl⟩;have cY:aj (aI aZ w.heap.size 46 (.bool eu) (.string ev)):=I (by rw[←bl];exact (((aI.new _ _ _ _).alloc _).alloc _).alloc _);have dt:aj (aI aZ (w.heap.size+1) 46 (.bool ea) (.string en)):=I (by
  rw[←bl];have:=((aI.new (w.alloc (.cells #[.bool eu,.string ev] 46)) 46 (.bool ea) (.string en)).alloc (.cells #[.bool ab,.string ⟨#[]⟩] 46)).alloc (.cells #[.bool ab,.string ⟨#[]⟩] 46);simpa using this)
 have eI:aj (aI aZ (w.heap.size+2) 46 (.bool ab) (.string ⟨#[]⟩)):=I (by
  rw[←bl];have:=(aI.new ((w.alloc (.cells #[.bool eu,.string ev] 46)).alloc (.cells #[.bool ea,.string en] 46)) 46 (.bool ab) (.string ⟨#[]⟩)).alloc (.cells #[.bool ab,.string ⟨#[]⟩] 46);simpa using this)
 have lx:aj (aI aZ (w.heap.size+3) 46 (.bool ab) (.string ⟨#[]⟩)):=I (by
  rw[←bl];have:=aI.new (((w.alloc (.cells #[.bool eu,.string ev] 46)).alloc (.cells #[.bool ea,.string en] 46)).alloc (.cells #[.bool ab,.string ⟨#[]⟩] 46)) 46 (.bool ab) (.string ⟨#[]⟩);simpa using this)
 have bu:aj (ah w.heap.size w aZ):=I (by rw[←bl];exact ((((aK _ _).alloc (aC _) _).alloc (by simp) _).alloc (by simp;omega) _).alloc (by simp;omega) _);have dL:w.heap.size+4≤aZ.heap.size:=by rw[←bl];simp
 obtain⟨cn,bY,_,_⟩:=cY.out.cells;obtain⟨b0,bD,_,_⟩:=dt.out.cells;go_enter func23,PA;go_wp2_with fail;refine (b3.out _).mono ?_;rintro e aQ ⟨rfl,bb⟩;have iy:w.heap.size+4≤aQ.heap.size:=cp dL bb.size;obtain⟨bh,dn⟩:∃bh,(aQ.alloc (.cells #[.bool eJ,.string qs] 46)).alloc (.cells #[.bool rg,.string da] 46)=bh:=⟨_,rfl⟩;have bf:ah aQ.heap.size aQ bh:=by rw[←dn];exact ((aK _ _).alloc (aC _) _).alloc (by simp) _
 have dc:=I (chain (chain bu.out bb (by omega)) bf (by omega));have uZ:=I ((dt.out.below bb).below bf);have iB:=I ((eI.out.below bb).below bf);have qP:=I ((lx.out.below bb).below bf);have ni:aj (aI bh aQ.heap.size 46 (.bool eJ) (.string qs)):=I (by rw[←dn];exact (aI.new _ _ _ _).alloc _);have kY:aj (aI bh (aQ.heap.size+1) 46 (.bool rg) (.string da)):=I (aI.tU dn);clear cn bY b0 bD cY dt eI lx bu dL bl bb bf;obtain⟨b0,bD,_,_⟩:=uZ.out.cells;obtain⟨a0,b1,_,_⟩:=ni.out.cells;obtain⟨im,cd,_,_⟩:=kY.out.cells;obtain⟨cl,bH,f0,f1⟩:=iB.out.cells;obtain⟨t0,t1,g0,g1⟩:=qP.out.cells;have kZ:=I ((iB.out.set (.bool eJ) (.string qs)).both (k:=w.heap.size+2) (j:=w.heap.size+3) (x:=.bool rg) (y:=.string da) (by omega));have iP:=I ((qP.out.both (k:=w.heap.size+3) (j:=w.heap.size+2) (x:=.bool eJ) (y:=.string qs) (by omega)).set (.bool rg) (.string da));have k0:=I (fG (fG dc.out (show w.heap.size≤w.heap.size+2 by omega) (.bool eJ) (.string qs)) (show w.heap.size≤w.heap.size+3 by omega) (.bool rg) (.string da));go_wp2;go_region;go_wp2_with fail;obtain⟨aM,aG,_,_⟩:=kZ.out.drew.cells;obtain⟨tF,iT,_,_⟩:=iP.out.drew.cells;refine bI (v:=.tuple #[.agg #[.bool eJ,.string qs],.agg #[.bool rg,.string da],.int .i64 bm]) (by simp[bK,OG,go_sem,aM,aG,tF,iT]) rfl ⟨rfl,k0.out.drew⟩
theorem ab5 (eu ea eJ rg:Bool) (ev en qs da:ByteArray) (bm:Int) (w:af) (aE:∀W,aq ak 23 #[.agg #[.bool eu,.string ev],.agg #[.bool ea,.string en]] W fun e w'=>e=.returned (.tuple #[.agg #[.bool eJ,.string qs],.agg #[.bool rg,.string da],.int .i64 bm])∧ah W.heap.size W w') :
 aq ak 24 #[.agg #[.bool eu,.string ev],.agg #[.bool ea,.string en]] w fun e w'=>e=.returned (.tuple #[.agg #[.bool rg,.string da],.int .i64 bm])∧ah w.heap.size w w':=by
 have b3:=I aE;clear aE;obtain⟨aZ,bl⟩:∃aZ,((w.alloc (.cells #[.bool eu,.string ev] 46)).alloc (.cells #[.bool ea,.string en] 46)).alloc (.cells #[.bool ab,.string ⟨#[]⟩] 46)=aZ:=⟨_,rfl⟩;have cY:aj (aI aZ w.heap.size 46 (.bool eu) (.string ev)):=I (by rw[←bl];exact ((aI.new _ _ _ _).alloc _).alloc _);have dt:aj (aI aZ (w.heap.size+1) 46 (.bool ea) (.string en)):=I (by
  rw[←bl];have:=(aI.new (w.alloc (.cells #[.bool eu,.string ev] 46)) 46 (.bool ea) (.string en)).alloc (.cells #[.bool ab,.string ⟨#[]⟩] 46);simpa using this)
 have eI:aj (aI aZ (w.heap.size+2) 46 (.bool ab) (.string ⟨#[]⟩)):=I (by
  rw[←bl];have:=aI.new ((w.alloc (.cells #[.bool eu,.string ev] 46)).alloc (.cells #[.bool ea,.string en] 46)) 46 (.bool ab) (.string ⟨#[]⟩);simpa using this)
 have bu:aj (ah w.heap.size w aZ):=I (by rw[←bl];exact (((aK _ _).alloc (aC _) _).alloc (by simp) _).alloc (by simp;omega) _);have dL:w.heap.size+3≤aZ.heap.size:=by rw[←bl];simp
 obtain⟨cn,bY,_,_⟩:=cY.out.cells;obtain⟨b0,bD,_,_⟩:=dt.out.cells;go_enter func24,ntmps24;go_wp2_with fail;refine (b3.out _).mono ?_;rintro e aQ ⟨rfl,bb⟩;have iy:w.heap.size+3≤aQ.heap.size:=cp dL bb.size;obtain⟨bh,dn⟩:∃bh,(aQ.alloc (.cells #[.bool eJ,.string qs] 46)).alloc (.cells #[.bool rg,.string da] 46)=bh:=⟨_,rfl⟩;have bf:ah aQ.heap.size aQ bh:=by rw[←dn];exact ((aK _ _).alloc (aC _) _).alloc (by simp) _
 have dc:=I (chain (chain bu.out bb (by omega)) bf (by omega));have iB:=I ((eI.out.below bb).below bf);have ni:aj (aI bh aQ.heap.size 46 (.bool eJ) (.string qs)):=I (by rw[←dn];exact (aI.new _ _ _ _).alloc _);have kY:aj (aI bh (aQ.heap.size+1) 46 (.bool rg) (.string da)):=I (aI.tU dn);clear cn bY b0 bD cY dt eI bu dL bl bb bf;obtain⟨a0,b1,_,_⟩:=ni.out.cells;obtain⟨im,cd,_,_⟩:=kY.out.cells;obtain⟨cl,bH,f0,f1⟩:=iB.out.cells;have kZ:=I (iB.out.set (.bool rg) (.string da));have k0:=I (fG dc.out (show w.heap.size≤w.heap.size+2 by omega) (.bool rg) (.string da));go_wp2_with fail;obtain⟨aM,aG,_,_⟩:=kZ.out.cells;refine bI (v:=.tuple #[.agg #[.bool rg,.string da],.int .i64 bm]) (by simp[bK,results24,go_sem,aM,aG]) rfl ⟨rfl,k0.out⟩
theorem ab6 (eu ea eJ rg:Bool) (ev en qs da:ByteArray) (bm:Int) (w:af) (aE:∀W,aq ak 23 #[.agg #[.bool eu,.string ev],.agg #[.bool ea,.string en]] W fun e w'=>e=.returned (.tuple #[.agg #[.bool eJ,.string qs],.agg #[.bool rg,.string da],.int .i64 bm])∧ah W.heap.size W w') :
 aq ak 25 #[.agg #[.bool eu,.string ev],.agg #[.bool ea,.string en]] w fun e w'=>e=.returned (.tuple #[.agg #[.bool eJ,.string qs],.int .i64 bm])∧ah w.heap.size w w':=by
 have b3:=I aE;clear aE;obtain⟨aZ,bl⟩:∃aZ,((w.alloc (.cells #[.bool eu,.string ev] 46)).alloc (.cells #[.bool ea,.string en] 46)).alloc (.cells #[.bool ab,.string ⟨#[]⟩] 46)=aZ:=⟨_,rfl⟩;have cY:aj (aI aZ w.heap.size 46 (.bool eu) (.string ev)):=I (by rw[←bl];exact ((aI.new _ _ _ _).alloc _).alloc _);have dt:aj (aI aZ (w.heap.size+1) 46 (.bool ea) (.string en)):=I (by
  rw[←bl];have:=(aI.new (w.alloc (.cells #[.bool eu,.string ev] 46)) 46 (.bool ea) (.string en)).alloc (.cells #[.bool ab,.string ⟨#[]⟩] 46);simpa using this)
 have eI:aj (aI aZ (w.heap.size+2) 46 (.bool ab) (.string ⟨#[]⟩)):=I (by
  rw[←bl];have:=aI.new ((w.alloc (.cells #[.bool eu,.string ev] 46)).alloc (.cells #[.bool ea,.string en] 46)) 46 (.bool ab) (.string ⟨#[]⟩);simpa using this)
 have bu:aj (ah w.heap.size w aZ):=I (by rw[←bl];exact (((aK _ _).alloc (aC _) _).alloc (by simp) _).alloc (by simp;omega) _);have dL:w.heap.size+3≤aZ.heap.size:=by rw[←bl];simp
 obtain⟨cn,bY,_,_⟩:=cY.out.cells;obtain⟨b0,bD,_,_⟩:=dt.out.cells;go_enter func25,ntmps25;go_wp2_with fail;refine (b3.out _).mono ?_;rintro e aQ ⟨rfl,bb⟩;have iy:w.heap.size+3≤aQ.heap.size:=cp dL bb.size;obtain⟨bh,dn⟩:∃bh,(aQ.alloc (.cells #[.bool eJ,.string qs] 46)).alloc (.cells #[.bool rg,.string da] 46)=bh:=⟨_,rfl⟩;have bf:ah aQ.heap.size aQ bh:=by rw[←dn];exact ((aK _ _).alloc (aC _) _).alloc (by simp) _
 have dc:=I (chain (chain bu.out bb (by omega)) bf (by omega));have iB:=I ((eI.out.below bb).below bf);have ni:aj (aI bh aQ.heap.size 46 (.bool eJ) (.string qs)):=I (by rw[←dn];exact (aI.new _ _ _ _).alloc _);have kY:aj (aI bh (aQ.heap.size+1) 46 (.bool rg) (.string da)):=I (aI.tU dn);clear cn bY b0 bD cY dt eI bu dL bl bb bf;obtain⟨a0,b1,_,_⟩:=ni.out.cells;obtain⟨im,cd,_,_⟩:=kY.out.cells;obtain⟨cl,bH,f0,f1⟩:=iB.out.cells;have kZ:=I (iB.out.set (.bool eJ) (.string qs));have k0:=I (fG dc.out (show w.heap.size≤w.heap.size+2 by omega) (.bool eJ) (.string qs));go_wp2_with fail;obtain⟨aM,aG,_,_⟩:=kZ.out.cells;refine bI (v:=.tuple #[.agg #[.bool eJ,.string qs],.int .i64 bm]) (by simp[bK,results25,go_sem,aM,aG]) rfl ⟨rfl,k0.out⟩
theorem ab7 (eu ea eJ rg:Bool) (ev en qs da:ByteArray) (bm:Int) (w:af) (aE:∀W,aq ak 27 #[.agg #[.bool eu,.string ev],.agg #[.bool ea,.string en]] W fun e w'=>e=.returned (.tuple #[.agg #[.bool eJ,.string qs],.agg #[.bool rg,.string da],.int .i64 bm])∧ah W.heap.size W w') :
 aq ak 26 #[.agg #[.bool eu,.string ev],.agg #[.bool ea,.string en]] w fun e w'=>e=.returned (.tuple #[.agg #[.bool eJ,.string qs],.int .i64 bm])∧ah w.heap.size w w':=by
 have b3:=I aE;clear aE;obtain⟨aZ,bl⟩:∃aZ,((w.alloc (.cells #[.bool eu,.string ev] 46)).alloc (.cells #[.bool ea,.string en] 46)).alloc (.cells #[.bool ab,.string ⟨#[]⟩] 46)=aZ:=⟨_,rfl⟩;have cY:aj (aI aZ w.heap.size 46 (.bool eu) (.string ev)):=I (by rw[←bl];exact ((aI.new _ _ _ _).alloc _).alloc _);have dt:aj (aI aZ (w.heap.size+1) 46 (.bool ea) (.string en)):=I (by
  rw[←bl];have:=(aI.new (w.alloc (.cells #[.bool eu,.string ev] 46)) 46 (.bool ea) (.string en)).alloc (.cells #[.bool ab,.string ⟨#[]⟩] 46);simpa using this)
 have eI:aj (aI aZ (w.heap.size+2) 46 (.bool ab) (.string ⟨#[]⟩)):=I (by
  rw[←bl];have:=aI.new ((w.alloc (.cells #[.bool eu,.string ev] 46)).alloc (.cells #[.bool ea,.string en] 46)) 46 (.bool ab) (.string ⟨#[]⟩);simpa using this)
 have bu:aj (ah w.heap.size w aZ):=I (by rw[←bl];exact (((aK _ _).alloc (aC _) _).alloc (by simp) _).alloc (by simp;omega) _);have dL:w.heap.size+3≤aZ.heap.size:=by rw[←bl];simp
 obtain⟨cn,bY,_,_⟩:=cY.out.cells;obtain⟨b0,bD,_,_⟩:=dt.out.cells;go_enter func26,ntmps26;go_wp2_with fail;refine (b3.out _).mono ?_;rintro e aQ ⟨rfl,bb⟩;have iy:w.heap.size+3≤aQ.heap.size:=cp dL bb.size;obtain⟨bh,dn⟩:∃bh,(aQ.alloc (.cells #[.bool eJ,.string qs] 46)).alloc (.cells #[.bool rg,.string da] 46)=bh:=⟨_,rfl⟩;have bf:ah aQ.heap.size aQ bh:=by rw[←dn];exact ((aK _ _).alloc (aC _) _).alloc (by simp) _
 have dc:=I (chain (chain bu.out bb (by omega)) bf (by omega));have iB:=I ((eI.out.below bb).below bf);have ni:aj (aI bh aQ.heap.size 46 (.bool eJ) (.string qs)):=I (by rw[←dn];exact (aI.new _ _ _ _).alloc _);have kY:aj (aI bh (aQ.heap.size+1) 46 (.bool rg) (.string da)):=I (aI.tU dn);clear cn bY b0 bD cY dt eI bu dL bl bb bf;obtain⟨a0,b1,_,_⟩:=ni.out.cells;obtain⟨im,cd,_,_⟩:=kY.out.cells;obtain⟨cl,bH,f0,f1⟩:=iB.out.cells;have kZ:=I (iB.out.set (.bool eJ) (.string qs));have k0:=I (fG dc.out (show w.heap.size≤w.heap.size+2 by omega) (.bool eJ) (.string qs));go_wp2_with fail;obtain⟨aM,aG,_,_⟩:=kZ.out.cells;refine bI (v:=.tuple #[.agg #[.bool eJ,.string qs],.int .i64 bm]) (by simp[bK,results26,go_sem,aM,aG]) rfl ⟨rfl,k0.out⟩
theorem ab8 (eu ea eJ rg:Bool) (ev en qs da:ByteArray) (bm:Int) (w:af) (aE:∀W,aq ak 27 #[.agg #[.bool eu,.string ev],.agg #[.bool ea,.string en]] W fun e w'=>e=.returned (.tuple #[.agg #[.bool eJ,.string qs],.agg #[.bool rg,.string da],.int .i64 bm])∧ah W.heap.size W w') :
 aq ak 28 #[.agg #[.bool eu,.string ev],.agg #[.bool ea,.string en]] w fun e w'=>e=.returned (.tuple #[.agg #[.bool rg,.string da],.int .i64 bm])∧ah w.heap.size w w':=by
 have b3:=I aE;clear aE;obtain⟨aZ,bl⟩:∃aZ,((w.alloc (.cells #[.bool eu,.string ev] 46)).alloc (.cells #[.bool ea,.string en] 46)).alloc (.cells #[.bool ab,.string ⟨#[]⟩] 46)=aZ:=⟨_,rfl⟩;have cY:aj (aI aZ w.heap.size 46 (.bool eu) (.string ev)):=I (by rw[←bl];exact ((aI.new _ _ _ _).alloc _).alloc _);have dt:aj (aI aZ (w.heap.size+1) 46 (.bool ea) (.string en)):=I (by
  rw[←bl];have:=(aI.new (w.alloc (.cells #[.bool eu,.string ev] 46)) 46 (.bool ea) (.string en)).alloc (.cells #[.bool ab,.string ⟨#[]⟩] 46);simpa using this)
 have eI:aj (aI aZ (w.heap.size+2) 46 (.bool ab) (.string ⟨#[]⟩)):=I (by
  rw[←bl];have:=aI.new ((w.alloc (.cells #[.bool eu,.string ev] 46)).alloc (.cells #[.bool ea,.string en] 46)) 46 (.bool ab) (.string ⟨#[]⟩);simpa using this)
 have bu:aj (ah w.heap.size w aZ):=I (by rw[←bl];exact (((aK _ _).alloc (aC _) _).alloc (by simp) _).alloc (by simp;omega) _);have dL:w.heap.size+3≤aZ.heap.size:=by rw[←bl];simp
 obtain⟨cn,bY,_,_⟩:=cY.out.cells;obtain⟨b0,bD,_,_⟩:=dt.out.cells;go_enter func28,ntmps28;go_wp2_with fail;refine (b3.out _).mono ?_;rintro e aQ ⟨rfl,bb⟩;have iy:w.heap.size+3≤aQ.heap.size:=cp dL bb.size;obtain⟨bh,dn⟩:∃bh,(aQ.alloc (.cells #[.bool eJ,.string qs] 46)).alloc (.cells #[.bool rg,.string da] 46)=bh:=⟨_,rfl⟩;have bf:ah aQ.heap.size aQ bh:=by rw[←dn];exact ((aK _ _).alloc (aC _) _).alloc (by simp) _
 have dc:=I (chain (chain bu.out bb (by omega)) bf (by omega));have iB:=I ((eI.out.below bb).below bf);have ni:aj (aI bh aQ.heap.size 46 (.bool eJ) (.string qs)):=I (by rw[←dn];exact (aI.new _ _ _ _).alloc _);have kY:aj (aI bh (aQ.heap.size+1) 46 (.bool rg) (.string da)):=I (aI.tU dn);clear cn bY b0 bD cY dt eI bu dL bl bb bf;obtain⟨a0,b1,_,_⟩:=ni.out.cells;obtain⟨im,cd,_,_⟩:=kY.out.cells;obtain⟨cl,bH,f0,f1⟩:=iB.out.cells;have kZ:=I (iB.out.set (.bool rg) (.string da));have k0:=I (fG dc.out (show w.heap.size≤w.heap.size+2 by omega) (.bool rg) (.string da));go_wp2_with fail;obtain⟨aM,aG,_,_⟩:=kZ.out.cells;refine bI (v:=.tuple #[.agg #[.bool rg,.string da],.int .i64 bm]) (by simp[bK,results28,go_sem,aM,aG]) rfl ⟨rfl,k0.out⟩
end Go.Proofs.YtkhphoonnkoipaaGreatDoor
