/- Lemmas. -/
import Derived.Test.YtkhphoonnkoipaaGreatDoorVaah
set_option linter.all false
set_option maxHeartbeats 4000000
set_option maxRecDepth 100000
open Go.Proofs.Tryz Go.RowKit Go.Lib
open Bool renaming true→ai,false→ab
namespace Go.Proofs.YtkhphoonnkoipaaGreatDoor
theorem ady (a7:Nat) (dJ:Bool) (s:ByteArray) (M D:List UInt8) (w:World) (b5:Hid (s.size=a7+M.length+1+D.length)) (dz:0<D.length) (FO:D.length≤1000) (H7:∀c ∈ D,o.digit c) (H8:h9 s (a7+M.length+1) D) (UE:a7+M.length<s.size) (ef:s[a7+M.length]'UE=101) (dy:FW M) (aJ:3≤M.length) (ao:M.length≤1000) (gM:h9 s a7 M) (rI:(o.run M).dr=ai) (uj:(o.run M).dot=ai)
 (fr:o.digit M[0]) (yN:(a7=0∧dJ=ab)∨(a7=1∧dJ=ai∧∃iZ:0<s.size,s[0]'iZ=45)) :
 Calls prog 278 #[.string s] w (QU (o.run M) (o.jB D:Int) dJ (a7+M.length+1+D.length) w):=by
 have oC:s.size=a7+M.length+1+D.length:=b5.out;obtain⟨N,cW⟩:∃N,a7+M.length+1+D.length=N:=⟨_,rfl⟩;rw[cW] at oC ⊢;have adw:a7+3≤N:=by omega
 have adx:N≤2002:=by omega
 have b0:a7<s.size:=by omega
 have bD:a7+1<s.size:=by omega
 have a0:s[a7]'b0=M[0]:=gM 0 (by omega) (by omega);have b1:s[a7+1]'bD=M[1]:=gM 1 (by omega) (by omega);have iN:(bits .or .u8 (M[1].toNat:Int) 32==120)=ab:=QV (dy.1 _ (jc _));generalize M[0]=c0 at a0 fr;generalize M[1]=c1 at b1 iN;unfold o.digit at fr;have cd:((c0.toNat:Int)==43)=ab:=by rw[cH];omega
 have cF:((c0.toNat:Int)==45)=ab:=by rw[cH];omega
 obtain⟨jx,fw⟩:∃jx:Bool,((c0.toNat:Int)==48)=jx:=⟨_,rfl⟩;have bU:=I cW;have o3:=I ao;clear cW aJ ao b5;have dd:=I ef;have lW:=I H8;have dM:=I H7;clear ef H8 H7;have eQ:=I gM;have di:=I dy;have eK:=I (show (o.run M).dr=ai∧(o.run M).dot=ai from⟨rI,uj⟩);clear gM dy rI uj;obtain⟨eD,yW⟩:∃x,x=a7:=⟨_,rfl⟩;have bF:=I yW;clear yW;cases jx<;>rcases yN with ⟨rfl,hz⟩ | ⟨rfl,hz,iZ,jF⟩
 all_goals
  have vv:=I hz;clear hz;go_enter PH,OZ;go_wp2;go_step3;go_wp2_with (refine (internal_strconv_lower _ _).mono ?_;rintro e w' ⟨rfl,rfl⟩);go_step3;go_wp2;go_loop [2,5,7,9,13,14,15,16,17] (fun v2 v5 gI v9 Dx HZ H0 H2 H3=>∃(i m nd dj:Nat) (a8:Int) (dot dr cr:Bool),eD≤i∧i≤eD+M.length∧Hid (o.run (M.take (i-eD))=⟨m,nd,dj,a8,dot,dr,cr⟩)∧gI=.int .i64 i∧v2=.int .u64 m∧v5=.bool cr∧v9=.bool ab∧Dx=.bool dot∧HZ=.bool dr∧H0=.int .i64 nd∧H2=.int .i64 dj∧H3=.int .i64 a8) (fun _ _ gI _ _ _ _ _ _=>N-(RowKit.intOf gI).toNat);case atStart=>exact⟨eD,0,0,0,0,ab,ab,ab,aC _,by omega,I (by rw[oR];rfl),int_eq (by have:=bF.out;omega),rfl,rfl,rfl,rfl,rfl,rfl,rfl,rfl⟩
  case round=>
   obtain⟨i,m,nd,dj,a8,dot,dr,cr,ls,aA,ej,rfl,rfl,rfl,rfl,rfl,rfl,rfl,rfl,rfl⟩:=hrel;have e4:=o.Cy (M.take (i-eD)) (fun c an=>di.out.1 c (qb an));rw[ej.out,gN,h2 (by omega)] at e4;have iq:=e4.m;have jM:dj≤19:=e4.dj;have tT:nd≤1001:=by have:=e4.nd;have:=o3.out;simp only at *;omega
   have GO:-1001≤a8:=by have:=e4.lo;have:=o3.out;simp only at *;omega
   have UD:a8≤1001:=by have:=e4.up;have:=o3.out;simp only at *;omega
   have fx:i≤N:=by have:=bU.out;have:=bF.out;omega
   have mI:m<10000000000000000000:=cv iq (dB (n:=10) (by decide) jM);have jt:dj<19→m<1000000000000000000:=fun h=>cv iq (dB (n:=10) (j:=18) (by decide) (by simp only;omega));clear e4 iq;by_cases bV:i<eD+M.length
   ·have fh:i<N:=by have:=bU.out;have:=bF.out;omega
    have uk:i<s.size:=by omega
    have k2:i-eD<M.length:=by omega
    have jP:s[i]'uk=M[i-eD]:=eQ.out.get k2 uk (by have:=bF.out;omega);have kO:=di.out.1 M[i-eD] (jc _);have nn:=I (di.out.2 (i-eD) k2);have bc:=I (show o.run (M.take (i+1-eD))=o.step ⟨m,nd,dj,a8,dot,dr,cr⟩ M[i-eD] by rw[show i+1-eD=i-eD+1 by omega,kc k2,o.x1,ej.out]);generalize M[i-eD]=c at jP kO nn bc;rcases kO with rfl | kO
    ·obtain rfl:dot=ab:=by have:=nn.out rfl;rw[ej.out] at this;exact this
     clear nn mI jt;go_wp2;go_round;case rel=>exact⟨i+1,m,nd,dj,nd,ai,dr,cr,by omega,by omega,I (by rw[bc.out];rfl),by go_num,rfl,rfl,rfl,rfl,rfl,rfl,rfl,rfl⟩
     case measure=>simp[RowKit.intOf];omega
    ·unfold o.digit at kO;obtain⟨iN,mu⟩:=kO;have d95:((c.toNat:Int)==95)=ab:=by rw[cH];omega
     have d46:((c.toNat:Int)==46)=ab:=by rw[cH];omega
     have bJ:=I (show 48≤c.toNat from iN);clear nn;by_cases fT:c.toNat=48
     ·have d48:((c.toNat:Int)==48)=ai:=by rw[gy];omega
      have H4:((c.toNat:Int) != 48)=ab:=by simp;omega
      by_cases pn:nd=0
      ·have kj:((nd:Int)==0)=ai:=by rw[gy];omega
       have aN:=I (bc.out.trans (o.Km fT pn));clear fT pn bc mI jt;go_wp2;go_round;case rel=>exact⟨i+1,m,nd,dj,a8-1,dot,ai,cr,by omega,by omega,aN,by go_num,rfl,rfl,rfl,rfl,rfl,rfl,rfl,rfl⟩
       case measure=>simp[RowKit.intOf];omega
      ·have kj:((nd:Int)==0)=ab:=by rw[cH];omega
       by_cases ln:dj<19
       ·have H5:=jt ln;have aN:=I (bc.out.trans (o.CA iN (by omega) ln));clear fT pn bc mI jt;go_wp2;go_round;case rel=>exact⟨i+1,m*10+(c.toNat-48),nd+1,dj+1,a8,dot,ai,cr,by omega,by omega,aN,by go_num,int_eq (by have:=bJ.out;omega),rfl,rfl,rfl,rfl,by go_num,by go_num,rfl⟩
        case measure=>simp[RowKit.intOf];omega
       ·have aN:=I (bc.out.trans (o.CB iN (by omega) ln));rw[ba fT] at aN;clear fT pn bc mI jt;go_wp2;go_round;case rel=>exact⟨i+1,m,nd+1,dj,a8,dot,ai,cr,by omega,by omega,aN,by go_num,rfl,rfl,rfl,rfl,rfl,by go_num,rfl,rfl⟩
        case measure=>simp[RowKit.intOf];omega
     ·have d48:((c.toNat:Int)==48)=ab:=by rw[cH];omega
      have H4:((c.toNat:Int) != 48)=ai:=by simp;omega
      by_cases ln:dj<19
      ·have H5:=jt ln;have aN:=I (bc.out.trans (o.CA iN (by omega) ln));clear fT bc mI jt;go_wp2;go_round;case rel=>exact⟨i+1,m*10+(c.toNat-48),nd+1,dj+1,a8,dot,ai,cr,by omega,by omega,aN,by go_num,int_eq (by have:=bJ.out;omega),rfl,rfl,rfl,rfl,by go_num,by go_num,rfl⟩
       case measure=>simp[RowKit.intOf];omega
      ·have aN:=I (bc.out.trans (o.CB iN (by omega) ln));rw[aU fT] at aN;clear fT bc mI jt;go_wp2;go_round;case rel=>exact⟨i+1,m,nd+1,dj,a8,dot,ai,ai,by omega,by omega,aN,by go_num,rfl,rfl,rfl,rfl,rfl,by go_num,rfl,rfl⟩
       case measure=>simp[RowKit.intOf];omega
   ·obtain rfl:i=eD+M.length:=by omega
    rw[show eD+M.length-eD=M.length by omega,EF] at ej;obtain rfl:dr=ai:=by have:=eK.out.1;rw[ej.out] at this;exact this
    obtain rfl:dot=ai:=by have:=eK.out.2;rw[ej.out] at this;exact this
    have H9:eD+M.length<N:=by have:=bU.out;have:=bF.out;omega
    obtain⟨dk,r1⟩:∃dk,eD+M.length=dk:=⟨_,rfl⟩;have A9:dk<s.size:=by omega
    have UF:s[dk]'A9=101:=by subst r1;have b6:=bF.out;subst b6;exact dd.out
    have aqB:dk+1<N:=by have:=bU.out;have:=bF.out;omega
    have cX:dk+1<s.size:=by omega
    have a2:s[dk+1]'cX=D[0]:=lW.out.get dz cX (by have:=bF.out;omega);have gq:=dM.out D[0] (jc _);generalize D[0]=c2 at a2 gq;unfold o.digit at gq;have f1:((c2.toNat:Int)==43)=ab:=by rw[cH];omega
    have f2:((c2.toNat:Int)==45)=ab:=by rw[cH];omega
    have kV:bits .or .u8 101 32=101:=by decide
    have A':=I (show dk+1+D.length=N by have:=bU.out;have:=bF.out;omega);rw[r1];clear jt bV fx aA ls;have UG:=I r1;clear r1 H9;go_wp2_with (refine (internal_strconv_lower _ _).mono ?_;rintro e w' ⟨rfl,rfl⟩);go_loop [7,9,20] (fun gI v9 v20=>∃i e:Nat,dk+1≤i∧i≤N∧gI=.int .i64 i∧v9=.bool ab∧v20=.int .i64 e∧Hid (o.jB (D.take (i-(dk+1)))=e)) (fun gI _ _=>N-(RowKit.intOf gI).toNat);case atStart=>exact⟨dk+1,0,aC _,by omega,by go_num,rfl,rfl,I (by simp[o.jB])⟩
    case round=>
     obtain⟨i,e,um,je,rfl,rfl,rfl,he⟩:=hrel;have nY:=o.Cz (D.take (i-(dk+1))) (fun c an=>dM.out c (qb an));rw[he.out] at nY;by_cases r2:i<N
     ·have p0:i<s.size:=by omega
      have uo:i-(dk+1)<D.length:=by have:=A'.out;omega
      have Ba:s[i]'p0=D[i-(dk+1)]:=lW.out.get uo p0 (by have:=UG.out;have:=bF.out;omega);have p9:=dM.out D[i-(dk+1)] (jc _);have bc:=I (show o.jB (D.take (i+1-(dk+1)))=o.o8 e D[i-(dk+1)] by rw[show i+1-(dk+1)=i-(dk+1)+1 by omega,kc uo,o.Kl,he.out]);generalize D[i-(dk+1)]=c at Ba p9 bc;unfold o.digit at p9;have UH:((c.toNat:Int)==95)=ab:=by rw[cH];omega
      obtain⟨Bb,UI⟩:=p9;have bJ:=I Bb;by_cases eb:e<10000
      ·go_wp2;go_round;case rel=>exact⟨i+1,e*10+(c.toNat-48),by omega,by omega,by go_num,rfl,int_eq (by have:=bJ.out;omega),I (by rw[bc.out];unfold o.o8;rw[ba eb])⟩
       case measure=>simp[RowKit.intOf];omega
      ·go_wp2;go_round;case rel=>exact⟨i+1,e,by omega,by omega,by go_num,rfl,rfl,I (by rw[bc.out];unfold o.o8;rw[aU eb])⟩
       case measure=>simp[RowKit.intOf];omega
     ·obtain rfl:N=i:=by omega
      have mc:=I (show o.jB D=e by rw[←he.out,fp (by have:=A'.out;omega)]);clear r2;by_cases iu:m=0
      ·have g0:((m:Int) != 0)=ab:=by simp;omega
       have H6:=I iu;clear iu;go_wp2;refine bI (v:=.tuple #[.int .u64 m,.int .i64 0,.bool dJ,.bool cr,.bool ab,.int .i64 N,.bool ai]) (by simp[results,BM,go_sem,vv.out]) rfl ⟨?_,rfl⟩;rw[ej.out,mc.out,show o.n7 ⟨m,nd,dj,a8,ai,ai,cr⟩ (e:Int)=0 by unfold o.n7;rw[ba H6.out]]
      ·have g0:((m:Int) != 0)=ai:=by simp;omega
       go_wp2;refine bI (v:=.tuple #[.int .u64 m,.int .i64 ((a8+e)-dj),.bool dJ,.bool cr,.bool ab,.int .i64 N,.bool ai]) (by simp[results,BM,go_sem,vv.out]) rfl ⟨?_,rfl⟩;rw[ej.out,mc.out,show o.n7 ⟨m,nd,dj,a8,ai,ai,cr⟩ (e:Int)=(a8+e)-dj by unfold o.n7;rw[aU iu]]
end Go.Proofs.YtkhphoonnkoipaaGreatDoor
