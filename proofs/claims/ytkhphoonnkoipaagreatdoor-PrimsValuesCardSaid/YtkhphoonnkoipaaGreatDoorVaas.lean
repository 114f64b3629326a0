/- Lemmas. -/
import Derived.Test.YtkhphoonnkoipaaGreatDoorVaar
import Derived.Test.YtkhphoonnkoipaaGreatDoorVaah
set_option linter.all false
set_option maxHeartbeats 4000000
set_option maxRecDepth 100000
open Go.Proofs.Tryz Go.RowKit Go.Lib
open Option renaming none→J,some→U
open Bool renaming true→ai,false→ab
open Decidable renaming decide→au
open Go renaming World→af,Calls→aq
open Go.RowKit renaming Below→ah
open Go.Proofs.Tryz renaming prog→ak
namespace Go.Proofs.YtkhphoonnkoipaaGreatDoor
theorem M1 (A k:Nat):(A:Int)/2^k=((A/2^k:Nat):Int):=by push_cast;rfl
theorem aeF {A k:Nat} (h:A<2^k):((A:Int)/2^k==0)=ai:=by rw[M1,nu h];rfl
theorem aeG {A k:Nat} (h:2^k≤A):((A:Int)/2^k==0)=ab:=by
 have:0<A/2^k:=Nat.div_pos h (dK (by omega));rw[M1,cH];omega
theorem aeH {n k:Nat} (aB:n<18446744073709551616) (aA:2^k≤1152921504606846976):bits BinOp.and IntKind.u64 (n:Int) ((2:Int)^k-1)=((n%2^k:Nat):Int):=by
 have cn:0<2^k:=dK (by omega);have an:((2:Int)^k-1)=((2^k-1:Nat):Int):=by
  rw[show (2:Int)^k=((2^k:Nat):Int) by push_cast;rfl];omega
 rw[an];exact J' aB (by
  rcases eh 63 k with h | h
  ·have:2^64≤2^k:=dB (by omega) h;omega
  ·exact h)
theorem Vb (P k N:Nat) (D:ca) (w:af) (dz:o.iD D N) (fx:1≤k) (aA:k≤60) (eU:-1000000≤D.a8) (fE:D.a8≤1000000) (h:Has w P D) :
 aq ak 268 #[.pointer (U ⟨P,0,J⟩),.int .u64 k] w fun e w'=>e=.returned (.tuple #[])∧(∃fC r hD,Bs D N k fC r hD∧Has w' P fC)∧ah P w w':=by
 have iH:=I h;have dM:=I dz;have lT:=dz.le;have FE:=dz.pos;have h4:(0:Int)≤(k:Int):=by omega
 have fh:(k:Int)<64:=by omega
 have c1:=h.nd;have yD:2^k≤1152921504606846976:=cp (dB (by omega) aA) (by decide);have Iu:=I yD;have sC:o.ap N D.nd 0=0:=o.aeB dz.aV;clear yD;clear h dz;go_enter func268,ntmps268;refine lq (fun K hK=>?_);have cI:=I hK;clear hK;go_wp2_with fail;refine cI.out _ _ ?_;clear cI;refine lq (fun K hK=>?_);have cI:=I hK;clear hK;go_wp2_with fail;refine cI.out _ _ ?_;clear cI;refine lq (fun K hK=>?_);have cI:=I hK;clear hK;go_wp2_with fail;refine cI.out _ _ ?_;clear cI;refine lq (fun K hK=>?_);go_cut [4,6,7] from 12 to 48 (fun a b _ hJ=>∃r:Nat,a=.int .i64 (r:Int)∧b=.int .u64 (o.ap N D.nd r:Nat)∧1≤r∧r≤D.nd+20∧Hid (2^k≤o.ap N D.nd r)∧Hid (o.ap N D.nd (r-1)<2^k)∧hJ=w);case first=>
  go_wp2;go_loopw [4,6,7] (fun a b _ wr=>∃r:Nat,r≤D.nd∧a=.int .i64 (r:Int)∧b=.int .u64 (o.ap N D.nd r:Nat)∧Hid (∀s,s<r→o.ap N D.nd s<2^k)∧wr=w) (fun a _ _ _=>D.nd+1-(RowKit.intOf a).toNat);case atStart=>exact⟨0,by omega,rfl,by rw[sC];rfl,I (fun s a1=>by omega),rfl⟩
  case round=>
   obtain⟨r,aF,rfl,rfl,eQ,rfl⟩:=hrel;by_cases ar:o.ap N D.nd r<2^k
   ·have b0:=aeF ar;have Dw:=I (show ∀s,s<r+1→o.ap N D.nd s<2^k from fun s a1=>by
     by_cases e:s=r
     ·subst e;exact ar
     ·exact eQ.out s (by omega))
    have ad:o.ap N D.nd r<1152921504606846976:=cv ar Iu.out;clear ar;by_cases aa:D.nd≤r
    ·have rV:r=D.nd:=by omega
     have bD:((o.ap N D.nd r:Int)==0)=ab:=by
      rw[cH,rV,o.Bq (aC _),oR,hn,fI];have:=dM.out.lo;have aJ:0<10^(D.nd-1):=dK (by omega);omega
     clear rV;obtain⟨sX,xa⟩:∃x,x=wr:=⟨wr,rfl⟩;subst xa;go_wp2;go_loopw [4,6] (fun a b wr=>∃r:Nat,D.nd≤r∧r≤D.nd+20∧a=.int .i64 (r:Int)∧b=.int .u64 (o.ap N D.nd r:Nat)∧Hid (∀s,s<r→o.ap N D.nd s<2^k)∧wr=sX) (fun a _ _=>D.nd+20-(RowKit.intOf a).toNat);case atStart=>exact⟨r,aa,by omega,rfl,rfl,eQ,rfl⟩
     case round=>
      obtain⟨r,aa,ae,rfl,rfl,eQ,rfl⟩:=hrel;by_cases ar:o.ap N D.nd r<2^k
      ·have b0:=aeF ar;have Dw:=I (show ∀s,s<r+1→o.ap N D.nd s<2^k from fun s a1=>by
        by_cases e:s=r
        ·subst e;exact ar
        ·exact eQ.out s (by omega))
       have ad:o.ap N D.nd r<1152921504606846976:=cv ar Iu.out;have a1:r<D.nd+20:=by
        refine Nat.lt_of_not_le (fun fR=>?_);have aH:=o.Bq (N:=N) (nd:=D.nd) (q:=r) aa;have aT:10^19≤10^(r-D.nd):=dB (by omega) (by omega);have b8:=dM.out.lo;have aJ:0<10^(D.nd-1):=dK (by omega);have eb:1*10^19≤N*10^(r-D.nd):=kz (by omega) aT;rw[←aH] at eb;omega
       have bU:=I (o.MZ (N:=N) aa);clear ar;generalize o.ap N D.nd r=A at b0 ad bU ⊢;have g1:IntKind.u64.wrap ((A:Int)*10)=(A:Int)*10:=ik _ (by omega);go_wp2;go_roundw;case rel=>exact⟨r+1,by omega,by omega,by go_num,by rw[bU.out];congr 1;omega,Dw,by first | rfl | trivial⟩
       case measure=>simp[RowKit.intOf];omega
      ·have fR:2^k≤o.ap N D.nd r:=by omega
       have b0:=aeG fR;have eK:=I fR;clear ar fR;go_wp2_with fail;go_meet;case rel=>exact⟨r,rfl,rfl,by omega,ae,eK,I (eQ.out (r-1) (by omega)),rfl⟩
    ·have c5:=iH.out.dr r (by omega);rw[dM.out.dr r (by omega)] at c5;have hL:N/10^(D.nd-1-r)%10<10:=eW _ (by omega);have bU:=I (o.MY (N:=N) (nd:=D.nd) (q:=r) (by omega));generalize N/10^(D.nd-1-r)%10=gE at c5 hL bU;generalize o.ap N D.nd r=A at b0 ad bU ⊢;have f1:(0:Int)≤(r:Int):=by omega
     have f2:(r:Int)<800:=by omega
     have f3:au ((D.nd:Int)≤(r:Int))=ab:=bx (by omega);have g0:IntKind.u64.wrap ((gE:Int)+48)=(gE:Int)+48:=ik _ (by omega);have g1:IntKind.u64.wrap ((A:Int)*10)=(A:Int)*10:=ik _ (by omega);have g2:IntKind.u64.wrap ((A:Int)*10+((gE:Int)+48))=(A:Int)*10+((gE:Int)+48):=ik _ (by omega);have g3:IntKind.u64.wrap ((A:Int)*10+((gE:Int)+48)-48)=(A:Int)*10+(gE:Int):=by rw[show (A:Int)*10+((gE:Int)+48)-48=(A:Int)*10+(gE:Int) by omega];exact ik _ (by omega)
     go_wp2;go_roundw;case rel=>exact⟨r+1,by omega,by go_num,by rw[bU.out];congr 1;omega,Dw,by first | rfl | trivial⟩
     case measure=>simp[RowKit.intOf];omega
   ·have fR:2^k≤o.ap N D.nd r:=by omega
    have b0:=aeG fR;have eK:=I fR;have vg:1≤r:=by
     refine Et (fun e=>?_);rw[e,sC] at fR;have:0<2^k:=dK (by omega);omega
    clear ar fR;go_wp2_with fail;go_meet;case rel=>exact⟨r,rfl,rfl,vg,by omega,eK,I (eQ.out (r-1) (by omega)),rfl⟩
 case rest=>
 obtain⟨r,rfl,rfl,mn,iK,rM,y9,rfl⟩:=hcut;have c2:=iH.out.a8;have c3:=iH.out.free 801;have g1:IntKind.i64.wrap ((r:Int)-1)=(r:Int)-1:=gF _ (by omega);have g2:IntKind.i64.wrap (D.a8-((r:Int)-1))=D.a8-((r:Int)-1):=gF _ (by omega);have yD:((2^k:Nat):Int)≤1152921504606846976:=by have:=Iu.out;omega
 have cn:(0:Int)<((2^k:Nat):Int):=by have:0<2^k:=dK (by omega);omega
 have g3:IntKind.u64.wrap ((2:Int)^k)=(2:Int)^k:=by
  rw[show (2:Int)^k=((2^k:Nat):Int) by push_cast;rfl];exact ik _ (by omega)
 have g4:IntKind.u64.wrap ((2:Int)^k-1)=(2:Int)^k-1:=by
  rw[show (2:Int)^k=((2^k:Nat):Int) by push_cast;rfl];exact ik _ (by omega)
 clear yD cn;go_wp2;go_loopw [4,5,6] (fun a b c wr=>∃j:Nat,a=.int .i64 ((r+j:Nat):Int)∧b=.int .i64 (j:Int)∧c=.int .u64 (o.ap N D.nd (r+j)%(10*2^k):Nat)∧r+j≤max r D.nd∧Hid (Has wr P { o.ca.cut D N k r j D.cr with a8:=D.a8-((r:Int)-1) })∧Hid (ah P wc wr)) (fun a _ _ _=>D.nd-(RowKit.intOf a).toNat);case atStart=>
  refine⟨0,rfl,rfl,?_,by omega,?_,?_⟩
  ·have fe:o.ap N D.nd r<10*2^k:=by
    have aH:=o.Br N D.nd (r-1) 1;rw[show r-1+1=r by omega,JN] at aH;have:=y9.out;omega
   rw[jd,eF fe]
  ·exact I (by rw[o.asB];exact iH.out.y7 _)
  ·exact I ((aK P wc).setCell (p:=⟨P,801,J⟩) (aC _) _)
 case round=>
  obtain⟨j,rfl,rfl,rfl,bP,b9,ay⟩:=hrel;have c1:wr.cell? ⟨P,800,J⟩=U (.int .i64 (D.nd:Nat)):=b9.out.nd;by_cases ar:r+j<D.nd
  ·have c5:=b9.out.dr (r+j) (by omega);have rp:=b9.out.dr j (by omega);have yx:=b9.out.free j;rw[show ({ o.ca.cut D N k r j D.cr with a8:=D.a8-((r:Int)-1) }:ca).d (r+j)=D.d (r+j) from o.asC (D:=D) (t:=D.cr) _ (by omega),dM.out.dr (r+j) ar] at c5;have hL:N/10^(D.nd-1-(r+j))%10<10:=eW _ (by omega);have bU:=I (o.MY (N:=N) (nd:=D.nd) (q:=r+j) ar);generalize N/10^(D.nd-1-(r+j))%10=gE at c5 hL bU;have mF:=I (o.aeD (o.ap N D.nd (r+j)) k);have azs:=I (o.Va (o.ap N D.nd (r+j)) k);have jh:=I (show o.It N D.nd k r j=o.ap N D.nd (r+j)%(10*2^k)/2^k+48 by rw[o.aeC];rfl);have mS:=I (show o.ap N D.nd (r+(j+1))%(10*2^k)=10*(o.ap N D.nd (r+j)%(10*2^k)%2^k)+gE by
    rw[o.Va,show r+(j+1)=r+j+1 by omega,bU.out,o.M0 _ _ _ hL])
   generalize o.ap N D.nd (r+j)%(10*2^k)=n at mF jh mS ⊢;generalize aE:r+j=q at *;have f3:au ((q:Int)<(D.nd:Int))=ai:=bE (by omega);have f1:(0:Int)≤(q:Int):=by omega
   have f2:(q:Int)<800:=by omega
   have f4:(0:Int)≤(j:Int):=by omega
   have f5:(j:Int)<800:=by omega
   have aO:=Iu.out;have gi:n<18446744073709551616:=by have:=mF.out;omega
   have nQ:=aeH gi aO;have gs:=M1 n k;have ao:n%2^k<2^k:=eW _ (dK (by omega));have QS:=I (show n/2^k<10 by
    have:=mF.out;rw[kQ (dK (by omega))];exact this)
   have Vc:=QS.out;have nF:=I (show n%2^k<1152921504606846976 by omega);have Vd:=nF.out;clear aO ao;generalize w2:n%2^k=uu at nQ Vd;generalize Iv:n/2^k=q7 at gs Vc;have Iw:=I w2;have Ve:=I Iv;clear w2 Iv;have g0:IntKind.u64.wrap ((gE:Int)+48)=(gE:Int)+48:=ik _ (by omega);have g5:IntKind.u64.wrap ((uu:Int)*10)=(uu:Int)*10:=ik _ (by omega);have g6:IntKind.u64.wrap ((uu:Int)*10+((gE:Int)+48))=(uu:Int)*10+((gE:Int)+48):=ik _ (by omega);have g7:IntKind.u64.wrap ((uu:Int)*10+((gE:Int)+48)-48)=(uu:Int)*10+(gE:Int):=by rw[show (uu:Int)*10+((gE:Int)+48)-48=(uu:Int)*10+(gE:Int) by omega];exact ik _ (by omega)
   have g8:IntKind.u64.wrap ((q7:Int)+48)=(q7:Int)+48:=ik _ (by omega);have g9:((q7:Int)+48)%256=(q7:Int)+48:=by omega
   have b3:=I aE;clear aE;go_wp2;go_roundw;case rel=>exact⟨j+1,by congr 1;have:=b3.out;omega,by go_num,by rw[mS.out,Iw.out];congr 1;omega,by have:=b3.out;omega,I (by rw[←o.aeE,jh.out,Ve.out];exact b9.out.put j (q7+48) (by omega)),I (ay.out.setCell (aC _) _)⟩
   case measure=>simp[RowKit.intOf];omega
  ·have f3:au (((r+j:Nat):Int)<(D.nd:Int))=ab:=bx (by omega);have y0:r≤D.nd+k:=by
    refine I5 (fun qB=>?_);have aH:=o.Bq (N:=N) (nd:=D.nd) (q:=r-1) (by omega);have aT:2^k≤2^(r-1-D.nd):=dB (by omega) (by omega);have b8:2^(r-1-D.nd)≤10^(r-1-D.nd):=NI (by omega) _;have eb:=dM.out.lo;have aJ:0<10^(D.nd-1):=dK (by omega);have vR:1*10^(r-1-D.nd)≤N*10^(r-1-D.nd):=fD _ (by omega);have:=y9.out;rw[aH] at this;omega
   have asG:=I y0;clear y0;obtain⟨sX,xa⟩:∃x,x=wr:=⟨wr,rfl⟩;subst xa;go_wp2;go_loopg [5,6] (D.nd+k+1-(r+j)) (fun g b c wr=>∃(q:Nat) (t:Bool),g=D.nd+k+1-q∧q≤D.nd+k+1∧D.nd≤q∧r≤q∧b=.int .i64 ((min (q-r) 800:Nat):Int)∧c=.int .u64 (o.ap N D.nd q%(10*2^k):Nat)∧Hid (Has wr P { o.ca.cut D N k r (min (q-r) 800) t with a8:=D.a8-((r:Int)-1) })∧Hid (q-r≤800→t=D.cr)∧Hid (ah P wc wr));case atStart=>exact⟨r+j,D.cr,rfl,by have:=asG.out;omega,by omega,by omega,by rw[show min (r+j-r) 800=j by omega],rfl,I (by rw[show min (r+j-r) 800=j by omega];exact b9.out),I (fun _=>rfl),ay⟩
   case round=>
    obtain⟨q,t,aY,sz,lQ,J1,rfl,rfl,b9,iO,ay⟩:=hrel;by_cases ar:o.ap N D.nd q%(10*2^k)=0
    ·have aeI:r<q:=by
      refine Nat.lt_of_le_of_ne J1 (fun e=>?_);rw[←e] at ar;have aH:=o.Br N D.nd (r-1) 1;rw[show r-1+1=r by omega,JN] at aH;have dm:=y9.out;have ga:=rM.out;have iL:0<2^k:=dK (by omega);rw[eF (by omega)] at ar;omega
     obtain⟨hD,ao⟩:=asF (D:=D) (N:=N) (k:=k) (t:=t) mn iK rM.out y9.out aeI lQ (by omega) sz ar iO.out;have cD:=I ao;rw[ar];clear ao ar aeI;have qI:min (q-r) 800≤800:=Ez _ _;generalize min (q-r) 800=m at b9 cD qI ⊢;have c1:wr.cell? ⟨P,800,J⟩=U (.int .i64 (D.nd:Nat)):=b9.out.nd;have c3:=b9.out.free 800;rw[show ((0:Nat):Int)=0 from rfl];go_wp2_with fail;refine (U5 P _ _ ?_ (b9.out.Bk m)).mono ?_
     ·exact qI
     rintro e w' ⟨rfl,wa,hs⟩;go_wp2_with fail;exact⟨rfl,_,xE results268 _ _ _,rfl,⟨_,r,hD,cD.out,wa⟩,(ay.out.setCell (aC _) _).trans hs⟩
    ·have vy:q≤D.nd+k:=by
      refine I5 (fun qB=>ar (o.asD N D.nd k q (by omega)))
     have mF:=I (o.aeD (o.ap N D.nd q) k);have mS:=I (show o.ap N D.nd (q+1)%(10*2^k)=10*(o.ap N D.nd q%(10*2^k)%2^k) by
      have e:=o.M0 (o.ap N D.nd q) 0 k (by omega);rw[jd,jd] at e;rw[o.Va,o.MZ lQ,e])
     obtain⟨m,hm⟩:∃m,m=min (q-r) 800:=⟨_,rfl⟩;have jh:=I (show m<800→o.It N D.nd k r m=o.ap N D.nd q%(10*2^k)/2^k+48 from fun h=>by
      rw[o.aeC,show q=r+m by omega];rfl)
     rw[←hm] at b9 ⊢;have di:=I hm;clear hm;generalize o.ap N D.nd q%(10*2^k)=n at mF jh mS ar ⊢;have aO:=Iu.out;have gi:n<18446744073709551616:=by have:=mF.out;omega
     have nQ:=aeH gi aO;have gs:=M1 n k;have ao:n%2^k<2^k:=eW _ (dK (by omega));have Vc:n/2^k<10:=by
      have:=mF.out;rw[kQ (dK (by omega))];exact this
     have Vd:n%2^k<1152921504606846976:=by omega
     clear aO ao;generalize w2:n%2^k=uu at nQ Vd;generalize Iv:n/2^k=q7 at gs Vc;have Iw:=I w2;have Ve:=I Iv;clear w2 Iv;have f0:au ((0:Int)<(n:Int))=ai:=bE (by omega);have g5:IntKind.u64.wrap ((uu:Int)*10)=(uu:Int)*10:=ik _ (by omega);have g8:IntKind.u64.wrap ((q7:Int)+48)=(q7:Int)+48:=ik _ (by omega);have g9:((q7:Int)+48)%256=(q7:Int)+48:=by omega
     have f4:(0:Int)≤(m:Int):=by omega
     have qI:m≤800:=by have:=di.out;omega
     have yx:=b9.out.free 803;have Lg:wr.cell? ⟨P,803,J⟩=U (.bool t):=b9.out.cr;have eK:=I aY;have kh:0<n:=by omega
     clear aY ar;by_cases jn:m<800
     ·have f5:(m:Int)<800:=by omega
      have f6:au ((m:Int)<800)=ai:=bE f5;have rp:=b9.out.dr m (by omega);have c9:=b9.out.free m;go_wp2;go_roundg (D.nd+k+1-(q+1));case measure=>have:=eK.out;omega
      case rel=>exact⟨q+1,t,rfl,by omega,by omega,by omega,by have:=di.out;congr 1;omega,by rw[mS.out,Iw.out];congr 1;omega,I (by rw[show min (q+1-r) 800=m+1 by have:=di.out;omega,←o.aeE,jh.out jn,Ve.out];exact b9.out.put m (q7+48) jn),I (fun h=>iO.out (by omega)),I (ay.out.setCell (aC _) _)⟩
     ·have f6:au ((m:Int)<800)=ab:=bx (by omega);by_cases fe:q7=0
      ·have aX:¬ 0<q7:=by omega
       clear fe;go_wp2;go_roundg (D.nd+k+1-(q+1));case measure=>have:=eK.out;omega
       case rel=>exact⟨q+1,t,rfl,by omega,by omega,by omega,by have:=di.out;congr 1;omega,by rw[mS.out,Iw.out];congr 1;omega,I (by rw[show min (q+1-r) 800=m by have:=di.out;omega];exact b9.out),I (fun h=>iO.out (by omega)),ay⟩
      ·have aX:0<q7:=by omega
       clear fe;go_wp2;go_roundg (D.nd+k+1-(q+1));case measure=>have:=eK.out;omega
       case rel=>exact⟨q+1,ai,rfl,by omega,by omega,by omega,by have:=di.out;congr 1;omega,by rw[mS.out,Iw.out];congr 1;omega,I (by rw[show min (q+1-r) 800=m by have:=di.out;omega];exact b9.out.MU ai),I (fun h=>by have:=di.out;omega),I (ay.out.setCell (aC _) _)⟩
def ca.up (D:ca) (m:Nat):Bool:=if D.d m=53∧m+1=D.nd then (if D.cr=ai then ai else au (0<m∧(D.d (m-1)-48)%2≠0)) else au (53≤D.d m)
theorem asH (P:Nat) (D:ca) (p:Int) (w:af) (hp:p<0) (h:Has w P D):aq ak 269 #[.pointer (U ⟨P,0,J⟩),.int .i64 p] w fun e w'=>e=.returned (.bool ab)∧w'=w:=by
 have c1:=h.nd;have f1:au (p<0)=ai:=bE hp;clear h;go_enter zC,zy;go_wp2;go_ret;exact⟨rfl,rfl⟩
theorem asI (P:Nat) (D:ca) (p:Nat) (w:af) (hp:D.nd≤p) (h:Has w P D):aq ak 269 #[.pointer (U ⟨P,0,J⟩),.int .i64 (p:Int)] w fun e w'=>e=.returned (.bool ab)∧w'=w:=by
 have c1:=h.nd;have f0:au ((p:Int)<0)=ab:=bx (by omega);have f1:au ((D.nd:Int)≤(p:Int))=ai:=bE (by omega);clear h;go_enter zC,zy;go_wp2;go_ret;exact⟨rfl,rfl⟩
theorem asJ (P:Nat) (D:ca) (N m:Nat) (w:af) (dz:o.iD D N) (hm:m<D.nd) (h:Has w P D):aq ak 269 #[.pointer (U ⟨P,0,J⟩),.int .i64 (m:Int)] w fun e w'=>e=.returned (.bool (D.up m))∧w'=w:=by
 have hle:=dz.le;have c1:=h.nd;have c2:=h.cr;have c3:=h.dr m (by omega);have f0:au ((m:Int)<0)=ab:=bx (by omega);have f1:au ((D.nd:Int)≤(m:Int))=ab:=bx (by omega);have f2:(0:Int)≤(m:Int):=by omega
 have f3:(m:Int)<800:=by omega
 have f4:IntKind.i64.wrap ((m:Int)+1)=(m:Int)+1:=gF _ (by omega);have iH:=I h;have dM:=I dz;clear h dz;by_cases aa:D.d m=53
 ·have f5:((D.d m:Int)==53)=ai:=by rw[aa];rfl
  by_cases ae:m+1=D.nd
  ·have f6:((m:Int)+1==(D.nd:Int))=ai:=by rw[gy];omega
   cases bn:D.cr with
   | true=>
     have dd:=I (show D.up m=ai by unfold ca.up;rw[ba ⟨aa,ae⟩,ba bn]);rw[bn] at c2;have H1:=I aa;clear aa bn;have Vf:=I ae;clear ae;go_enter zC,zy;go_wp2;go_ret;exact⟨by rw[dd.out];rfl,rfl⟩
   | false=>
     have dd:=I (show D.up m=au (0<m∧(D.d (m-1)-48)%2≠0) by unfold ca.up;rw[ba ⟨aa,ae⟩,aU (by rw[bn];decide)]);rw[bn] at c2;have H1:=I aa;clear aa bn;have Vf:=I ae;clear ae;by_cases aJ:0<m
     ·obtain⟨j,rfl⟩:∃j,m=j+1:=⟨m-1,by omega⟩;have c4:=iH.out.dr j (by omega);have aL:=dM.out.dr j (by omega);have hL:N/10^(D.nd-1-j)%10<10:=eW _ (by omega);rw[nt,aL] at dd;rw[aL] at c4;generalize N/10^(D.nd-1-j)%10=gE at hL c4 dd;rw[Ok,Ol] at f0 f1 f2 f3 f4 f6 ⊢;have g0:au ((0:Int)<(j:Int)+1)=ai:=bE (by omega);have g1:IntKind.i64.wrap ((j:Int)+1-1)=(j:Int):=by rw[NV];exact gF _ (by omega)
      have g2:(0:Int)≤(j:Int):=by omega
      have g3:(j:Int)<800:=by omega
      go_enter zC,zy;go_wp2;go_ret;refine⟨?_,rfl⟩;rw[dd.out];have:au (0<j+1∧(gE+48-48)%2≠0)=((gE:Int)%2 != 0):=by
       rw[mg,ij,kR];omega
      rw[this];rfl
     ·obtain rfl:m=0:=by omega
      rw[bx (by omega)] at dd;rw[show ((0:Nat):Int)=0 from rfl] at f0 f1 f2 f3 f4 f6 ⊢;go_enter zC,zy;go_wp2;go_ret;exact⟨by rw[dd.out];rfl,rfl⟩
  ·have f6:((m:Int)+1==(D.nd:Int))=ab:=by rw[cH];omega
   have dd:=I (show D.up m=au (53≤D.d m) by unfold ca.up;rw[aU (fun h=>ae h.2)]);rw[bE (by omega)] at dd;have f7:au ((53:Int)≤(D.d m:Int))=ai:=bE (by omega);have H1:=I aa;clear aa;go_enter zC,zy;go_wp2;go_ret;exact⟨by rw[dd.out];rfl,rfl⟩
 ·have f5:((D.d m:Int)==53)=ab:=by rw[cH];omega
  have dd:=I (show D.up m=au (53≤D.d m) by unfold ca.up;rw[aU (fun h=>aa h.1)]);clear aa;go_enter zC,zy;go_wp2;go_ret;refine⟨?_,rfl⟩;rw[dd.out];have:au (53≤D.d m)=au ((53:Int)≤(D.d m:Int)):=by
   rw[mg,ij,ij];omega
  first | rfl | (rw[this];rfl)
theorem M4 (P k N:Nat) (D:ca) (w:af) (dz:o.iD D N) (fx:1≤k) (aA:k≤60) (eU:-1000000≤D.a8) (fE:D.a8≤1000000) (bn:y8 w P) (h:Has w P D) :
 aq ak 233 #[.pointer (U ⟨P,0,J⟩),.int .i64 (k:Int)] w fun e w'=>e=.returned (.tuple #[])∧(∃fC E hD,Bp D N k fC E hD∧Has w' P fC)∧ah P w w':=by
 have c1:=h.nd;have pc:=dz.pos;have bJ:=I (asw P k N D w dz fx aA eU fE bn h);have f1:((D.nd:Int)==0)=ab:=by rw[cH];omega
 have f2:au ((0:Int)<(k:Int))=ai:=bE (by omega);have f3:au ((60:Int)<(k:Int))=ab:=bx (by omega);have f4:IntKind.u64.wrap (k:Int)=(k:Int):=ik _ (by omega);clear h bn dz;go_enter PK,O3;go_wp2;go_loopw [1] (fun a wr=>a=.int .i64 (k:Int)∧wr=w) (fun _ _=>0);case atStart=>exact⟨rfl,rfl⟩
 case round=>
  obtain⟨rfl,rfl⟩:=hrel;go_wp2_with fail;refine bJ.out.mono ?_;rintro e w' ⟨rfl,aF,ad⟩;go_wp2_with fail;exact⟨rfl,_,xE On _ _ _,rfl,aF,ad⟩
theorem aeM (P k N:Nat) (D:ca) (w:af) (dz:o.iD D N) (fx:1≤k) (aA:k≤60) (eU:-1000000≤D.a8) (fE:D.a8≤1000000) (h:Has w P D) :
 aq ak 233 #[.pointer (U ⟨P,0,J⟩),.int .i64 (-(k:Int))] w fun e w'=>e=.returned (.tuple #[])∧(∃fC r hD,Bs D N k fC r hD∧Has w' P fC)∧ah P w w':=by
 have c1:=h.nd;have pc:=dz.pos;have bJ:=I (Vb P k N D w dz fx aA eU fE h);obtain⟨z,aX⟩:∃z:Int,z = -(k:Int):=⟨_,rfl⟩;rw[←aX];have f1:((D.nd:Int)==0)=ab:=by rw[cH];omega
 have f2:au ((0:Int)<z)=ab:=bx (by omega);have f3:au (z<0)=ai:=bE (by omega);have f5:au (z < -60)=ab:=bx (by omega);have f6:IntKind.i64.wrap (-z)=(k:Int):=by rw[aX,BZ];exact gF _ (by omega)
 have f4:IntKind.u64.wrap (k:Int)=(k:Int):=ik _ (by omega);clear h dz aX;go_enter PK,O3;go_wp2;go_loopw [1] (fun a wr=>a=.int .i64 z∧wr=w) (fun _ _=>0);case atStart=>exact⟨rfl,rfl⟩
 case round=>
  obtain⟨rfl,rfl⟩:=hrel;go_wp2_with fail;refine bJ.out.mono ?_;rintro e w' ⟨rfl,aF,ad⟩;go_wp2_with fail;exact⟨rfl,_,xE On _ _ _,rfl,aF,ad⟩
theorem as0 (P:Nat) (D:ca) (w:af) (hp:20<D.a8) (h:Has w P D):aq ak 299 #[.pointer (U ⟨P,0,J⟩)] w fun e w'=>e=.returned (.int .u64 18446744073709551615)∧w'=w:=by
 have c1:=h.a8;have f1:au ((20:Int)<D.a8)=ai:=bE hp;clear h;go_enter PL,O4;go_wp2;go_ret;exact⟨rfl,rfl⟩
theorem as1 (P:Nat) (D:ca) (w:af) (hp:D.a8<0) (h:Has w P D):aq ak 299 #[.pointer (U ⟨P,0,J⟩)] w fun e w'=>e=.returned (.int .u64 0)∧w'=w:=by
 have c1:=h.a8;have f1:au ((20:Int)<D.a8)=ab:=bx (by omega);have f2:au ((0:Int)<D.a8)=ab:=bx (by omega);have bJ:=I (asH P D D.a8 w hp h);clear h;go_enter PL,O4;go_wp2;go_loopw [3,4] (fun a b wr=>a=.int .i64 0∧b=.int .u64 0∧wr=w) (fun _ _ _=>0);case atStart=>exact⟨rfl,rfl,rfl⟩
 case round=>
  obtain⟨rfl,rfl,rfl⟩:=hrel;go_wp2;go_loopw [3,4] (fun a b as2=>a=.int .i64 0∧b=.int .u64 0∧as2=wr) (fun _ _ _=>0);case atStart=>exact⟨rfl,rfl,rfl⟩
  case round=>
   obtain⟨rfl,rfl,rfl⟩:=hrel;go_wp2_with fail;refine bJ.out.mono ?_;rintro e w' ⟨rfl,rfl⟩;go_wp2;go_ret;exact⟨rfl,rfl⟩
theorem Iz (n:Nat):IntKind.u64.wrap (n:Int)=((n%18446744073709551616:Nat):Int):=by
 unfold IntKind.wrap;simp[IntKind.bits,IntKind.signed]
def ca.one (D:ca) (p:Nat):Bool:=if p<D.nd then D.up p else ab
theorem as3 (P N p:Nat) (D:ca) (w:af) (dz:o.iD D N) (hp:D.a8=p) (fE:p≤20) (h:Has w P D):aq ak 299 #[.pointer (U ⟨P,0,J⟩)] w fun e w'=>e=.returned (.int .u64 ((o.ap N D.nd p+(if D.one p=ai then 1 else 0))%18446744073709551616:Nat))∧w'=w:=by
 have hle:=dz.le;have sC:o.ap N D.nd 0=0:=o.aeB dz.aV;have c1:=h.a8;have c2:=h.nd;rw[hp] at c1;have f1:au ((20:Int)<(p:Int))=ab:=bx (by omega);have bJ:=I (show aq ak 269 #[.pointer (U ⟨P,0,J⟩),.int .i64 (p:Int)] w fun e w'=>e=.returned (.bool (D.one p))∧w'=w from by
  unfold ca.one;split
  ·exact asJ P D N p w dz (by assumption) h
  ·exact asI P D p w (by omega) h)
 have iH:=I h;have dM:=I dz;generalize D.one p=up at bJ ⊢;obtain⟨R,bS⟩:∃R,R=(o.ap N D.nd p+(if up=ai then 1 else 0))%18446744073709551616:=⟨_,rfl⟩;rw[←bS];have bG:=I bS;clear bS;clear h dz hp;go_enter PL,O4;go_wp2;go_loopw [3,4] (fun a b wr=>∃i:Nat,i≤p∧i≤D.nd∧a=.int .i64 (i:Int)∧b=.int .u64 (o.ap N D.nd i%18446744073709551616:Nat)∧wr=w) (fun a _ _=>p-(RowKit.intOf a).toNat);case atStart=>exact⟨0,by omega,by omega,rfl,by rw[sC];rfl,rfl⟩
 case round=>
  obtain⟨i,um,je,rfl,rfl,rfl⟩:=hrel;by_cases aa:i<p
  ·have f2:au ((i:Int)<(p:Int))=ai:=bE (by omega);by_cases ae:i<D.nd
   ·have f3:au ((i:Int)<(D.nd:Int))=ai:=bE (by omega);have f4:(0:Int)≤(i:Int):=by omega
    have f5:(i:Int)<800:=by omega
    have c3:=iH.out.dr i (by omega);rw[dM.out.dr i ae] at c3;have hL:N/10^(D.nd-1-i)%10<10:=eW _ (by omega);have bU:=I (o.MY (N:=N) (nd:=D.nd) (q:=i) ae);generalize N/10^(D.nd-1-i)%10=gE at c3 hL bU;generalize o.ap N D.nd i=A at bU ⊢;obtain⟨v,aD⟩:∃v,v=A%18446744073709551616:=⟨_,rfl⟩;rw[←aD];obtain⟨x,hx⟩:∃x,x=v*10%18446744073709551616:=⟨_,rfl⟩;obtain⟨y,aW⟩:∃y,y=(x+gE)%18446744073709551616:=⟨_,rfl⟩;have g1:IntKind.u64.wrap ((v:Int)*10)=(x:Int):=by rw[hx,←Iz];push_cast;rfl
    have g2:IntKind.u64.wrap ((x:Int)+(gE:Int))=(y:Int):=by rw[aW,←Iz];push_cast;rfl
    have hi:=I (show y=o.ap N D.nd (i+1)%18446744073709551616 by rw[bU.out];omega);clear aD hx aW;go_wp2;go_roundw;case rel=>exact⟨i+1,by omega,by omega,by go_num,by rw[hi.out],by first | rfl | trivial⟩
    case measure=>simp[RowKit.intOf];omega
   ·have f3:au ((i:Int)<(D.nd:Int))=ab:=bx (by omega);go_wp2_with fail;obtain⟨sX,xa⟩:∃x,x=wr:=⟨wr,rfl⟩;subst xa;go_loopw [3,4] (fun a b wr=>∃i:Nat,i≤p∧(i=p∨D.nd≤i)∧a=.int .i64 (i:Int)∧b=.int .u64 (o.ap N D.nd i%18446744073709551616:Nat)∧wr=sX) (fun a _ _=>p-(RowKit.intOf a).toNat);case atStart=>exact⟨i,by omega,by omega,rfl,rfl,rfl⟩
    case round=>
     obtain⟨i,um,je,rfl,rfl,rfl⟩:=hrel;by_cases aa:i<p
     ·have f2:au ((i:Int)<(p:Int))=ai:=bE (by omega);have bU:=I (o.MZ (N:=N) (nd:=D.nd) (q:=i) (by omega));generalize o.ap N D.nd i=A at bU ⊢;obtain⟨v,aD⟩:∃v,v=A%18446744073709551616:=⟨_,rfl⟩;rw[←aD];obtain⟨x,hx⟩:∃x,x=v*10%18446744073709551616:=⟨_,rfl⟩;have g1:IntKind.u64.wrap ((v:Int)*10)=(x:Int):=by rw[hx,←Iz];push_cast;rfl
      have hi:=I (show x=o.ap N D.nd (i+1)%18446744073709551616 by rw[bU.out];omega);clear aD hx;go_wp2;go_roundw;case rel=>exact⟨i+1,by omega,by omega,by go_num,by rw[hi.out],by first | rfl | trivial⟩
      case measure=>simp[RowKit.intOf];omega
     ·obtain rfl:i=p:=by omega
      have f2:au ((i:Int)<(i:Int))=ab:=bx (by omega);generalize o.ap N D.nd i=A at bG ⊢;cases up with
      | true=>
        obtain⟨v,aD⟩:∃v,v=A%18446744073709551616:=⟨_,rfl⟩;rw[←aD];obtain⟨x,hx⟩:∃x,x=(v+1)%18446744073709551616:=⟨_,rfl⟩;have g1:IntKind.u64.wrap ((v:Int)+1)=(x:Int):=by rw[hx,←Iz];push_cast;rfl
        have hi:=I (show R=x by rw[bG.out,ba rfl];omega);clear aD hx;go_wp2_with fail;refine bJ.out.mono ?_;rintro e w' ⟨rfl,rfl⟩;go_wp2;go_ret;exact⟨by rw[hi.out];rfl,rfl⟩
      | false=>
        have hi:=I (show R=A%18446744073709551616 by rw[bG.out,aU (by decide),jd]);generalize A%18446744073709551616=v at hi ⊢;go_wp2_with fail;refine bJ.out.mono ?_;rintro e w' ⟨rfl,rfl⟩;go_wp2;go_ret;exact⟨by rw[hi.out];rfl,rfl⟩
  ·obtain rfl:i=p:=by omega
   have f2:au ((i:Int)<(i:Int))=ab:=bx (by omega);clear aa;go_wp2_with fail;obtain⟨sX,xa⟩:∃x,x=wr:=⟨wr,rfl⟩;subst xa;go_loopw [3,4] (fun a b wr=>a=.int .i64 (i:Int)∧b=.int .u64 (o.ap N D.nd i%18446744073709551616:Nat)∧wr=sX) (fun _ _ _=>0);case atStart=>exact⟨rfl,rfl,rfl⟩
   case round=>
    obtain⟨rfl,rfl,rfl⟩:=hrel;generalize o.ap N D.nd i=A at bG ⊢;cases up with
    | true=>
      obtain⟨v,aD⟩:∃v,v=A%18446744073709551616:=⟨_,rfl⟩;rw[←aD];obtain⟨x,hx⟩:∃x,x=(v+1)%18446744073709551616:=⟨_,rfl⟩;have g1:IntKind.u64.wrap ((v:Int)+1)=(x:Int):=by rw[hx,←Iz];push_cast;rfl
      have hi:=I (show R=x by rw[bG.out,ba rfl];omega);clear aD hx;go_wp2_with fail;refine bJ.out.mono ?_;rintro e w' ⟨rfl,rfl⟩;go_wp2;go_ret;exact⟨by rw[hi.out];rfl,rfl⟩
    | false=>
      have hi:=I (show R=A%18446744073709551616 by rw[bG.out,aU (by decide),jd]);generalize A%18446744073709551616=v at hi ⊢;go_wp2_with fail;refine bJ.out.mono ?_;rintro e w' ⟨rfl,rfl⟩;go_wp2;go_ret;exact⟨by rw[hi.out];rfl,rfl⟩
theorem o.asV {N nd q:Nat} (h:10^(nd-1)≤N) (aB:0<nd):10^q≤o.ap N nd (q+1):=by
 unfold o.ap;rw[kP (dK (by decide))];have aH:(10:Nat)^nd=10^(nd-1)*10:=by rw[←ei];congr 1;omega
 rw[aH,ei,show 10^q*(10^(nd-1)*10)=10^(nd-1)*(10^q*10) by rw[xn]];exact fD _ h
theorem Bs.M5 {D fC:ca} {N k r hD:Nat} (h:Bs D N k fC r hD) (dz:o.iD D N) (aA:k≤60):r≤20:=by
 rcases eh 20 r with aF | aF
 ·exfalso;have aa:=h.aV;have ae:10^(r-2)≤o.ap N D.nd (r-1):=by
   have:=o.asV (q:=r-2) dz.lo dz.pos;rwa[show r-2+1=r-1 by omega] at this
  have aJ:10^19≤10^(r-2):=dB (by decide) (by omega);have bQ:2^k≤2^60:=dB (by decide) aA;have dm:(2:Nat)^60<10^19:=by decide
  omega
 ·exact aF
theorem asW (P n N:Nat) (D:ca) (w:af) (dz:o.iD D N) (lT:1≤n) (aB:n≤400000) (eU:-400000≤D.a8) (fE:D.a8≤1000000) (h:Has w P D) :
 aq ak 233 #[.pointer (U ⟨P,0,J⟩),.int .i64 (-(n:Int))] w fun e w'=>e=.returned (.tuple #[])∧(∃fC hD,o.iD fC hD∧Has w' P fC∧fC.a8≤D.a8∧D.a8-n-20≤fC.a8∧fC.dJ=D.dJ)∧ah P w w':=by
 have c1:=h.nd;have pc:=dz.pos;have dM:=I dz;have iH:=I h;obtain⟨z,aX⟩:∃z:Int,z = -(n:Int):=⟨_,rfl⟩;rw[←aX];have f1:((D.nd:Int)==0)=ab:=by rw[cH];omega
 have f2:au ((0:Int)<z)=ab:=bx (by omega);have f3:au (z<0)=ai:=bE (by omega);have fQ:=I aX;clear h dz aX;go_enter PK,O3;go_wp2;go_loopw [1] (fun a wr=>∃m:Nat,1≤m∧m≤n∧a=.int .i64 (-(m:Int))∧Hid (∃dX hS,o.iD dX hS∧Has wr P dX∧dX.a8≤D.a8∧D.a8-(n-m)≤dX.a8∧dX.dJ=D.dJ)∧Hid (ah P w wr)) (fun a _=>(-(RowKit.intOf a)).toNat);case atStart=>exact⟨n,lT,aC _,by rw[fQ.out],I ⟨D,N,dM.out,iH.out,by omega,by omega,rfl⟩,I (aK _ _)⟩
 case round=>
  obtain⟨m,jl,hd,rfl,b9,ay⟩:=hrel;clear c1 f2 f3 f1 dM iH;obtain⟨dX,hS,cZ,cT,gR,lH,rZ⟩:=b9.out;have j':=I cZ;have vB:=I cT;have vD:=I rZ;clear b9 cZ cT rZ;obtain⟨y,aW⟩:∃y:Int,y = -(m:Int):=⟨_,rfl⟩;by_cases azy:60<m
  ·have bJ:=I (Vb P 60 hS dX wr j'.out (by omega) (by omega) (by omega) (by omega) vB.out);have f5:au (y < -60)=ai:=bE (by omega);have f6:IntKind.i64.wrap (y+60)=y+60:=gF _ (by omega);rw[←aW];have hi:=I aW;clear aW;go_wp2_with fail;refine bJ.out.mono ?_;rintro e w' ⟨rfl,⟨oF,r,oG,aF,hh⟩,ad⟩;have Vk:=aF.M5 j'.out (by omega);have mn:=aF.bH;have kS:=aF.a8;have bG:=I aF;have Vl:=I hh;have bu:=I (ay.out.trans ad);clear aF hh ad;go_wp2;go_roundw;case rel=>exact⟨m-60,by omega,by omega,by rw[hi.out];congr 1;omega,I ⟨oF,oG,bG.out.is,Vl.out,by omega,by omega,by rw[bG.out.dJ,vD.out]⟩,bu⟩
   case measure=>have:=hi.out;simp only[RowKit.intOf];omega
  ·have bJ:=I (Vb P m hS dX wr j'.out (by omega) (by omega) (by omega) (by omega) vB.out);have f5:au (y < -60)=ab:=bx (by omega);have f6:IntKind.i64.wrap (-y)=(m:Int):=by rw[aW,BZ];exact gF _ (by omega)
   have f4:IntKind.u64.wrap (m:Int)=(m:Int):=ik _ (by omega);rw[←aW];clear aW;go_wp2_with fail;refine bJ.out.mono ?_;rintro e w' ⟨rfl,⟨oF,r,oG,aF,hh⟩,ad⟩;have Vk:=aF.M5 j'.out (by omega);have mn:=aF.bH;have kS:=aF.a8;have bG:=I aF;have Vl:=I hh;have bu:=I (ay.out.trans ad);clear aF hh ad;go_wp2_with fail;exact⟨rfl,_,xE On _ _ _,rfl,⟨oF,oG,bG.out.is,Vl.out,by omega,by omega,by rw[bG.out.dJ,vD.out]⟩,bu.out⟩
namespace o
theorem iD.d0 {D:ca} {N:Nat} (h:iD D N):D.d 0=N/10^(D.nd-1)+48∧1≤N/10^(D.nd-1)∧N/10^(D.nd-1)≤9:=by
 have hp:=h.pos;have cn:0<10^(D.nd-1):=dK (by decide);have aa:1≤N/10^(D.nd-1):=(kP cn).2 (by rw[fW];exact h.lo);have ae:N/10^(D.nd-1)<10:=by
  rw[kQ cn,dx,←ei,show (D.nd-1).succ=D.nd by omega];exact h.aV
 refine⟨?_,aa,by omega⟩;rw[h.dr 0 hp,BU,eF ae]
def qa (D:ca):Int:=10*D.a8+D.d 0-48
theorem xb {D:ca} {N:Nat} (h:iD D N):10*D.a8+1≤qa D∧qa D≤10*D.a8+9:=by
 obtain⟨aa,ae,aJ⟩:=h.d0;unfold qa;rw[aa];omega
end o
theorem Bs.aeN {D fC:ca} {N k r hD:Nat} (h:Bs D N k fC r hD) (dz:o.iD D N) (aA:1≤k):o.qa fC+1≤o.qa D:=by
 obtain⟨b1,a2,a3⟩:=dz.d0;obtain⟨cd,cF,fw⟩:=h.is.d0;have aF:=h.bH;have kS:=h.a8;have hp:=h.is.pos;have eU:=dz.pos;rcases eh 1 r with aa | aa
 ·unfold o.qa;rw[b1,cd];omega
 ·obtain rfl:r=1:=by omega
  have aH:o.ap N D.nd 1=N/10^(D.nd-1):=o.MX eU;have aD:=h.val;have aT:hD/10^(fC.nd-1)=N/10^(D.nd-1)/2^k:=by
   rw[aD,hE,dx,←hE,show 1+fC.nd-1=1+(fC.nd-1) by omega,o.Br,aH]
  have b8:N/10^(D.nd-1)/2^k<N/10^(D.nd-1):=Nat.div_lt_self (by omega) (Nat.one_lt_two_pow (by omega));unfold o.qa;rw[b1,cd,aT];omega
theorem Bp.Vm {D fC:ca} {N k E hD:Nat} (h:Bp D N k fC E hD) (dz:o.iD D N) (aA:k≤60):E≤19:=by
 rcases eh 19 E with ef | ef
 ·exfalso;have eU:=dz.pos;have aa:=h.lo;have ae:=dz.aV;have aH:10^(D.nd-1+E)=10^D.nd*10^(E-1):=by rw[←cm];congr 1;omega
  rw[aH] at aa;have aJ:10^19≤10^(E-1):=dB (by decide) (by omega);have bQ:2^k≤2^60:=dB (by decide) aA;have dm:(2:Nat)^60<10^19:=by decide
  have ga:N*2^k<10^D.nd*10^(E-1):=cv (jG ae (ez k)) (gp _ (by omega));omega
 ·exact ef
theorem Bp.Vn {D fC:ca} {N k E hD:Nat} (h:Bp D N k fC E hD) (dz:o.iD D N) (aA:1≤k):o.qa D+1≤o.qa fC:=by
 obtain⟨b1,a2,a3⟩:=dz.d0;obtain⟨cd,cF,fw⟩:=h.is.d0;have kS:=h.a8;have hp:=h.is.pos;have eU:=dz.pos;rcases kd E with ar | ar
 ·subst ar;have aD:=h.val;have hle:=h.le;have aT:hD/10^(fC.nd-1)=N*2^k/10^(D.nd-1):=by
   rw[aD,hE,←cm];congr 2;omega
  have b8:N/10^(D.nd-1)*2≤N*2^k/10^(D.nd-1):=by
   rw[kP (dK (by decide))];have aa:2^1≤2^k:=dB (by decide) aA;calc N/10^(D.nd-1)*2*10^(D.nd-1)=N/10^(D.nd-1)*10^(D.nd-1)*2:=by ac_rfl
    _≤N*2^k:=kz (Ej _ _) aa
  unfold o.qa;rw[b1,cd,aT];omega
 ·unfold o.qa;rw[b1,cd];omega
theorem aeO:∀i:Fin 9,∃x,o.pC[i.val]? = U x∧1≤x∧x≤27:=by decide
def sZ (w:af) (P:Nat):Int:=match w.cell? ⟨P,801,J⟩,w.cell? ⟨P,0,J⟩ with | some (.int _ a),U (.int _ b)=>10*a+b-48 | _,_=>0
theorem Has.sZ {w:af} {P:Nat} {D:ca} (h:Has w P D):sZ w P=o.qa D:=by unfold Go.Proofs.YtkhphoonnkoipaaGreatDoor.sZ o.qa;rw[h.a8,h.dr 0 (by decide)]
namespace o
structure p' (D:ca) (N:Nat):Prop where
 dr:∀i,i<D.nd→D.d i=N/10^(D.nd-1-i)%10+48
 lo:D.nd=0∨10^(D.nd-1)≤N
 aV:N<10^D.nd
theorem p'.zero {D:ca} (h:D.nd=0):p' D 0:=⟨fun i aV=>by omega,.inl h,by rw[h];decide⟩
theorem p'.add {D:ca} {N c:Nat} (h:p' D N) (aa:48≤c) (ae:c≤57) (ar:D.nd=0→c≠48):p' { (D.put D.nd c)with nd:=D.nd+1 } (N*10+(c-48)):=by
 refine⟨fun i aV=>?_,.inr ?_,?_⟩
 ·show (if i=D.nd then c else D.d i)=(N*10+(c-48))/10^(D.nd+1-1-i)%10+48;have xQ:i<D.nd+1:=aV;by_cases e:i=D.nd
  ·rw[ba e,e,nt,oR,hn,uD];omega
  ·rw[aU e,h.dr i (by omega),show D.nd+1-1-i=1+(D.nd-1-i) by omega,cm,←hE,JN,show (N*10+(c-48))/10=N by omega]
 ·show 10^(D.nd+1-1)≤N*10+(c-48);rw[nt];rcases h.lo with e | e
  ·have:=ar e;rw[e];show 1≤_;omega
  ·have hp:0<D.nd∨D.nd=0:=by omega
   rcases hp with hp | hp
   ·have aT:(10:Nat)^D.nd=10^(D.nd-1)*10:=by rw[←ei];congr 1;omega
    rw[aT];omega
   ·have:=ar hp;rw[hp];show 1≤_;omega
 ·show N*10+(c-48)<10^(D.nd+1);have:=h.aV;rw[ei];omega
theorem p'.is {D:ca} {N:Nat} (h:p' D N) (aa:0<D.nd) (ae:D.nd≤800):iD D N:=⟨ae,aa,h.dr,by rcases h.lo with e | e<;>omega,h.aV⟩
end o
namespace o
def aeJ (zs:Array Value) (i:Nat):Bool:=match zs[i]? with | some (.int k n)=>k == .u8&&n==0 | _=>ab
theorem asK:((List.range 800).all (aeJ zeroCells218))=ai:=by kernel_rfl
theorem asL {i:Nat} (h:i<800):zeroCells218[i]? = U (.int .u8 0):=by
 have:=List.all_eq_true.1 asK i (List.mem_range.2 h);unfold aeJ at this;split at this
 ·rename_i k n aA;rw[Bool.and_eq_true_iff,gy,gy] at this;obtain⟨rfl,rfl⟩:=this;exact aA
 ·exact absurd this (by decide)
def sY (l:List UInt8):Nat:=l.foldl (fun n c=>if c=46 then n else n*10+(c.toNat-48)) 0
theorem asM (l:List UInt8) (c:UInt8):sY (l++[c])=if c=46 then sY l else sY l*10+(c.toNat-48):=by simp[sY]
theorem asN (l:List UInt8) (h:∀c ∈ l,c=46∨digit c):(run l).nd=0→(run l).m=0:=by
 induction l using UK with
 | nil=>intro _;rfl
 | snoc l c dw=>
   have dw:=dw (fun x hx=>h x (by simp[hx]));rw[x1];generalize run l=s at dw ⊢;unfold step;split
   ·exact dw
   ·split
    ·exact dw
    ·split<;>(intro e;simp at e)
end o
theorem asO {w:af} {P:Nat} (h:w.heap[P]? = U (.cells zeroCells218 218 (0,0))):Has w P ⟨fun _=>0,0,0,ab,ab⟩:=by
 have a1:P<w.heap.size:=by
  rcases eh P w.heap.size with aa | aa
  ·exact aa
  ·rw[IK aa] at h;cases h
 have an:∀i,w.cell? ⟨P,i,J⟩=zeroCells218[i]?:=by
  intro i;unfold World.cell?;simp only[h];rfl
 refine⟨a1,fun i aV=>?_,?_,?_,?_,?_,fun i=>?_⟩
 ·rw[an,o.asL aV];rfl
 ·rw[an];kernel_rfl
 ·rw[an];kernel_rfl
 ·rw[an];kernel_rfl
 ·rw[an];kernel_rfl
 ·unfold World.frozen?;simp[h]
def Ix (s:ByteArray) (j:Nat):Option (Bool×List UInt8)→Prop
 | none=>s.size=j
 | some (ab,D)=>s.size=j+1+D.length∧h9 s j [101]∧h9 s (j+1) D∧0<D.length∧∀c ∈ D,o.digit c
 | some (ai,D)=>s.size=j+2+D.length∧h9 s j [101,45]∧h9 s (j+2) D∧0<D.length∧∀c ∈ D,o.digit c
def Vg:Option (Bool×List UInt8)→Int | none=>0 | some (ab,D)=>o.jB D | some (ai,D)=>-(o.jB D:Int)
structure asP (D:ca) (M:List UInt8) (ex:Option (Bool×List UInt8)) (neg:Bool):Prop where
 T':o.p' D (o.sY M)
 nd:D.nd=(o.run M).nd
 a8:D.a8=(o.run M).a8+Vg ex
 dJ:D.dJ=neg
 cr:D.cr=ab
structure asQ (wr:af) (P:Nat) (w:af) (M:List UInt8) (nd:Nat) (a8:Int) (neg:Bool):Prop where
 ex:∃D,Has wr P D∧o.p' D (o.sY M)∧D.nd=nd∧D.a8=a8∧D.dJ=neg∧D.cr=ab
 aeA:ah P w wr
end Go.Proofs.YtkhphoonnkoipaaGreatDoor
