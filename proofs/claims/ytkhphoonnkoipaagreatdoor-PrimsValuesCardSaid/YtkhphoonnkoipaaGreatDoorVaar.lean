/- Lemmas. -/
import Derived.Test.YtkhphoonnkoipaaGreatDoorVaad
set_option linter.all false
set_option maxHeartbeats 4000000
set_option maxRecDepth 100000
open Go.Proofs.Tryz Go.RowKit Go.Lib
open Option renaming none→J,some→U
open Bool renaming true→ai,false→ab
open Decidable renaming decide→au
open Go renaming World→af
open Go.RowKit renaming Below→ah
namespace Go.Proofs.YtkhphoonnkoipaaGreatDoor
structure ca where
 d:Nat→Nat
 nd:Nat
 a8:Int
 dJ:Bool
 cr:Bool
structure Has (w:af) (P:Nat) (D:ca):Prop where
 size:P<w.heap.size
 dr:∀i,i<800→w.cell? ⟨P,i,J⟩=U (.int .u8 (D.d i:Nat))
 nd:w.cell? ⟨P,800,J⟩=U (.int .i64 (D.nd:Nat))
 a8:w.cell? ⟨P,801,J⟩=U (.int .i64 D.a8)
 dJ:w.cell? ⟨P,802,J⟩=U (.bool D.dJ)
 cr:w.cell? ⟨P,803,J⟩=U (.bool D.cr)
 free:∀i,w.frozen? ⟨P,i,J⟩=ab
theorem me {P i j:Nat} (h:i≠j):(⟨P,i,J⟩:Addr)≠⟨P,j,J⟩:=by intro e;injection e with _ e;exact h e
def ca.put (D:ca) (i x:Nat):ca:={ D with d:=fun j=>if j=i then x else D.d j }
theorem Has.put {w:af} {P:Nat} {D:ca} (h:Has w P D) (i x:Nat) (aV:i<800):Has (w.setCell ⟨P,i,J⟩ (.int .u8 (x:Nat))) P (D.put i x):=by
 refine⟨by rw[Eu];exact h.size,fun j bP=>?_,?_,?_,?_,?_,fun j=>by rw[Eg];exact h.free j⟩
 ·by_cases e:j=i
  ·subst e;rw[uw _ _ _ (h.dr j bP)];simp[ca.put]
  ·rw[b7 _ _ _ _ (me (fun aT=>e aT.symm)),h.dr j bP];simp[ca.put,e]
 ·rw[b7 _ _ _ _ (me (by omega))];exact h.nd
 ·rw[b7 _ _ _ _ (me (by omega))];exact h.a8
 ·rw[b7 _ _ _ _ (me (by omega))];exact h.dJ
 ·rw[b7 _ _ _ _ (me (by omega))];exact h.cr
theorem Has.Bk {w:af} {P:Nat} {D:ca} (h:Has w P D) (n:Nat):Has (w.setCell ⟨P,800,J⟩ (.int .i64 (n:Nat))) P { D with nd:=n }:=by
 refine⟨by rw[Eu];exact h.size,fun j bP=>?_,?_,?_,?_,?_,fun j=>by rw[Eg];exact h.free j⟩
 ·rw[b7 _ _ _ _ (me (by omega))];exact h.dr j bP
 ·rw[uw _ _ _ h.nd]
 ·rw[b7 _ _ _ _ (me (by omega))];exact h.a8
 ·rw[b7 _ _ _ _ (me (by omega))];exact h.dJ
 ·rw[b7 _ _ _ _ (me (by omega))];exact h.cr
theorem Has.y7 {w:af} {P:Nat} {D:ca} (h:Has w P D) (n:Int):Has (w.setCell ⟨P,801,J⟩ (.int .i64 n)) P { D with a8:=n }:=by
 refine⟨by rw[Eu];exact h.size,fun j bP=>?_,?_,?_,?_,?_,fun j=>by rw[Eg];exact h.free j⟩
 ·rw[b7 _ _ _ _ (me (by omega))];exact h.dr j bP
 ·rw[b7 _ _ _ _ (me (by omega))];exact h.nd
 ·rw[uw _ _ _ h.a8]
 ·rw[b7 _ _ _ _ (me (by omega))];exact h.dJ
 ·rw[b7 _ _ _ _ (me (by omega))];exact h.cr
theorem Has.U4 {w:af} {P:Nat} {D:ca} (h:Has w P D) (n:Bool):Has (w.setCell ⟨P,802,J⟩ (.bool n)) P { D with dJ:=n }:=by
 refine⟨by rw[Eu];exact h.size,fun j bP=>?_,?_,?_,?_,?_,fun j=>by rw[Eg];exact h.free j⟩
 ·rw[b7 _ _ _ _ (me (by omega))];exact h.dr j bP
 ·rw[b7 _ _ _ _ (me (by omega))];exact h.nd
 ·rw[b7 _ _ _ _ (me (by omega))];exact h.a8
 ·rw[uw _ _ _ h.dJ]
 ·rw[b7 _ _ _ _ (me (by omega))];exact h.cr
theorem Has.MU {w:af} {P:Nat} {D:ca} (h:Has w P D) (n:Bool):Has (w.setCell ⟨P,803,J⟩ (.bool n)) P { D with cr:=n }:=by
 refine⟨by rw[Eu];exact h.size,fun j bP=>?_,?_,?_,?_,?_,fun j=>by rw[Eg];exact h.free j⟩
 ·rw[b7 _ _ _ _ (me (by omega))];exact h.dr j bP
 ·rw[b7 _ _ _ _ (me (by omega))];exact h.nd
 ·rw[b7 _ _ _ _ (me (by omega))];exact h.a8
 ·rw[b7 _ _ _ _ (me (by omega))];exact h.dJ
 ·rw[uw _ _ _ h.cr]
def po (d:Nat→Nat):Nat→Nat
 | 0=>0
 | n+1=>if d n=48 then po d n else n+1
def ca.trim (D:ca):ca:={ D with nd:=po D.d D.nd,a8:=if po D.d D.nd=0 then 0 else D.a8 }
def DV (w:af) (P:Nat):Nat:=match w.cell? ⟨P,800,J⟩ with | some (.int _ n)=>n.toNat | _=>0
theorem Has.DV {w:af} {P:Nat} {D:ca} (h:Has w P D):DV w P=D.nd:=by unfold Go.Proofs.YtkhphoonnkoipaaGreatDoor.DV;rw[h.nd];exact qc _
theorem Has.drewN {w:af} {P:Nat} {D:ca} (h:Has w P D) (n:Nat):Has (w.drewN n) P D:=⟨h.size,h.dr,h.nd,h.a8,h.dJ,h.cr,h.free⟩
theorem Has.drew {w:af} {P:Nat} {D:ca} (h:Has w P D):Has w.drew P D:=⟨h.size,h.dr,h.nd,h.a8,h.dJ,h.cr,h.free⟩
theorem U5 (P:Nat) (D:ca) (w:af) (aB:D.nd≤800) (h:Has w P D):Calls prog 266 #[.pointer (U ⟨P,0,J⟩)] w fun e w'=>e=.returned (.tuple #[])∧Has w' P D.trim∧ah P w w':=by
 have iH:=I h;go_enter func266,ntmps266;go_wp2;go_loopw [20] (fun _ wr=>∃n:Nat,n≤D.nd∧Hid (Has wr P { D with nd:=n })∧Hid (po D.d n=po D.d D.nd)∧Hid (ah P w wr)) (fun _ wr=>DV wr P);case atStart=>exact⟨D.nd,aC _,iH,I rfl,I (aK _ _)⟩
 case round=>
  obtain⟨n,lT,b9,bc,ay⟩:=hrel;have di:=I b9.out.DV;have c1:=b9.out.nd;have c2:=b9.out.free 800;have c3:=b9.out.a8;have c4:=b9.out.free 801;simp only at c1 c3;by_cases ar:0<n
  ·obtain⟨m,rfl⟩:∃m,n=m+1:=⟨n-1,by omega⟩;rw[Ok,Ol] at c1;have c5:=b9.out.dr m (by omega);have rp:=b9.out.free m;have hw:IntKind.i64.wrap ((m:Int)+1-1)=m:=by rw[show (m:Int)+1-1=m by omega];exact gF _ (by omega)
   have aY:au ((0:Int)<(m:Int)+1)=ai:=bE (by omega);have iu:(0:Int)≤(m:Int):=by omega
   have jl:(m:Int)<800:=by omega
   simp only at c5;by_cases aa:D.d m=48
   ·have ae:((D.d m:Int)==48)=ai:=by rw[aa];rfl
    have aJ:=I aa;clear aa;go_wp2;go_quiet (fail);go_wp2_with fail;have lY:=(b9.out.drewN nq).Bk m;refine⟨⟨m,by omega,I lY,I ?_,I ((below_drewN ay.out nq).setCell (aC _) _)⟩,?_⟩
    ·rw[←bc.out,po,ba aJ.out]
    ·rw[lY.DV,di.out];show m<m+1;omega
   ·have ae:((D.d m:Int)==48)=ab:=by rw[cH];omega
    have aX:((m:Int)+1==0)=ab:=by rw[cH];omega
    have dd:=I (show D.trim={ D with nd:=m+1 } by
     have:=bc.out;rw[po,aU aa] at this;unfold ca.trim;rw[←this,aU (by omega)])
    clear aa;go_wp2;go_quiet (fail);go_wp2_with fail;exact⟨rfl,_,xE results266 _ _ _,rfl,by rw[dd.out];exact b9.out.drewN nq,below_drewN ay.out nq⟩
  ·obtain rfl:n=0:=by omega
   have dd:=I (show D.trim={ D with nd:=0,a8:=0 } by
    have:=bc.out;rw[po] at this;unfold ca.trim;rw[←this,ba rfl])
   rw[show ((0:Nat):Int)=0 from rfl] at c1;go_wp2;go_quiet (fail);go_wp2_with fail;exact⟨rfl,_,xE results266 _ _ _,rfl,by rw[dd.out];exact (b9.out.drewN nq).y7 0,(below_drewN ay.out nq).setCell (aC _) _⟩
namespace o
structure iD (D:ca) (N:Nat):Prop where
 le:D.nd≤800
 pos:0<D.nd
 dr:∀i,i<D.nd→D.d i=N/10^(D.nd-1-i)%10+48
 lo:10^(D.nd-1)≤N
 aV:N<10^D.nd
def r3:List UInt8→Nat
 | []=>0
 | c::t=>(c.toNat-48)*10^t.length+r3 t
def mK (d:Nat→Nat) (nd:Nat):Nat→List UInt8→Bool
 | _,[]=>ab
 | i,c::t=>if nd≤i then ai else if d i=c.toNat then mK d nd (i+1) t else au (d i<c.toNat)
def Cut:List UInt8→Prop
 | []=>True
 | c::t=>48≤c.toNat∧c.toNat≤57∧0<r3 (c::t)∧Cut t
instance:∀l,Decidable (Cut l)
 | []=>isTrue trivial
 | c::t=>have:=instDecidableCut t;(inferInstanceAs (Decidable (48≤c.toNat∧c.toNat≤57∧0<r3 (c::t)∧Cut t)))
theorem aen:∀l,Cut l→r3 l<10^l.length
 | [],_=>by simp[r3]
 | c::t,h=>by
   have aa:=aen t h.2.2.2;obtain⟨a,b,_⟩:=h;simp only[r3,ch,ei];have:(c.toNat-48)*10^t.length≤9*10^t.length:=fD _ (by omega);omega
theorem aeo {D:ca} {N:Nat} (h:iD D N):∀(l:List UInt8) (i:Nat),i≤D.nd→Cut l→(mK D.d D.nd i l=ai↔N%10^(D.nd-i)*10^l.length<r3 l*10^(D.nd-i))
 | [],i,aV,_=>by simp[mK,r3]
 | c::t,i,aV,an=>by
   by_cases he:i=D.nd
   ·subst he;have:=an.2.2.1;simp[mK,JB,this]
   ·obtain⟨m,hm⟩:∃m,D.nd-i=m+1:=⟨D.nd-i-1,by omega⟩;have hd:D.nd-(i+1)=m:=by omega
    have aL:=h.dr i (by omega);rw[show D.nd-1-i=m by omega] at aL;have aF:=aeo h t (i+1) (by omega) an.2.2.2;rw[hd] at aF;have a1:=aen t an.2.2.2;obtain⟨c1,c2,_⟩:=an;have be:N%10^m<10^m:=eW _ (dK (by omega));have cW:N%10^(m+1)=N/10^m%10*10^m+N%10^m:=by
     rw[ei,E6];rw[dx];omega
    have aS:N/10^m%10<10:=eW _ (by omega);rw[mK,aU (by omega),hm,cW,aL];generalize N/10^m%10=a at *;generalize N%10^m=A at *;simp only[r3,ch];generalize r3 t=S at *;generalize bn:t.length=L at *;generalize mj:c.toNat=df at *;obtain⟨b,rfl⟩:∃b,df=b+48:=⟨df-48,by omega⟩;rw[nt];have bY:0<10^m:=dK (by omega);have fA:0<10^L:=dK (by omega);have aH:(a*10^m+A)*10^(L+1)=10*(a*(10^m*10^L)+A*10^L):=by rw[ei];simp only[ff,fP,dx,xn,cE]
    have aT:(b*10^L+S)*10^(m+1)=10*(b*(10^m*10^L)+S*10^m):=by rw[ei];simp only[ff,fP,dx,xn,cE]
    rw[aH,aT];have f1:A*10^L<10^m*10^L:=jG be fA;have f2:S*10^m<10^m*10^L:=by rw[dx (10^m)];exact jG a1 bY
    generalize 10^m*10^L=Q at *;generalize A*10^L=oq at *;generalize S*10^m=azp at *;by_cases kW:a=b
    ·subst kW;rw[ba rfl,aF];omega
    ·rw[aU (by omega),ij];constructor
     ·intro bV;have:(a+1)*Q≤b*Q:=fD _ (by omega);rw[ff,fW] at this;omega
     ·intro bV;rcases eh a b with fe | fe
      ·omega
      ·exfalso;have:(b+1)*Q≤a*Q:=fD _ (by omega);rw[ff,fW] at this;omega
theorem ase:∀k,k<61→∃x,Go.Pinned.cheatRows[k]? = U x∧(1≤k→1≤x.1∧x.2.length+x.1=k+1∧r3 x.2=5^k∧Cut x.2∧2^k≤10^x.1∧10^(x.1-1)≤2^k):=by
 have h:((List.range 61).all fun k=>match Go.Pinned.cheatRows[k]? with | some x=>au (1≤k→1≤x.1∧x.2.length+x.1=k+1∧r3 x.2=5^k∧Cut x.2∧2^k≤10^x.1∧10^(x.1-1)≤2^k) | none=>ab)=ai:=by kernel_rfl
 intro k aA;have aa:=List.all_eq_true.1 h k (List.mem_range.2 aA);cases hx:Go.Pinned.cheatRows[k]? with
 | none=>rw[hx] at aa;cases aa
 | some x=>rw[hx] at aa;exact⟨x,rfl,jb aa⟩
def more (D:ca) (x:Nat×List UInt8):Nat:=if mK D.d D.nd 0 x.2=ai then x.1-1 else x.1
theorem asf {D:ca} {N k:Nat} {x:Nat×List UInt8} (h:iD D N) (aA:1≤k) (hx:1≤x.1∧x.2.length+x.1=k+1∧r3 x.2=5^k∧Cut x.2∧2^k≤10^x.1∧10^(x.1-1)≤2^k) :
 10^(D.nd-1+more D x)≤N*2^k∧N*2^k<10^(D.nd+more D x):=by
 obtain⟨aa,ae,aJ,bQ,dm,ga⟩:=hx;have hp:=aeo h x.2 0 (by omega) bQ;rw[BU,eF h.aV,aJ] at hp;have jg:=h.lo;have ny:=h.aV;have pc:=h.pos;have fA:0<2^k:=dK (by omega);have key:(N*10^x.2.length<5^k*10^D.nd↔N*2^k<10^(D.nd-1+x.1)):=by
  have aH:(5^k*10^D.nd)*2^k=10^(D.nd-1+x.1)*10^x.2.length:=by
   rw[←cm,show D.nd-1+x.1+x.2.length=D.nd+k by omega,s4,←Nat.mul_pow,←cm,jv k]
  have aT:(N*10^x.2.length)*2^k=N*2^k*10^x.2.length:=s4 _ _ _;rw[←BD fA,aH,aT,BD (dK (by omega))]
 unfold more;split
 ·rename_i ao;have iL:=key.1 (hp.1 ao);refine⟨?_,?_⟩
  ·rw[cm];exact kz jg ga
  ·rw[show D.nd+(x.1-1)=D.nd-1+x.1 by omega];exact iL
 ·rename_i ao;refine⟨Nat.not_lt.1 (fun iL=>ao (hp.2 (key.2 iL))),?_⟩;rw[cm];exact cv (jG ny fA) (gp _ dm)
end o
theorem asg (P:Nat) (D:ca) (l:List UInt8) (w:af) (aB:D.nd≤800) (h:Has w P D):Calls prog 291 #[.slice (U ⟨P,0,J⟩) D.nd 800,.string ⟨l.toArray⟩] w fun e w'=>e=.returned (.bool (o.mK D.d D.nd 0 l))∧∃n,w'=w.drewN n:=by
 have iH:=I h;have ao:(⟨l.toArray⟩:ByteArray).size=l.length:=by simp[ByteArray.size]
 go_enter func291,ntmps291;go_wp2;go_loopw [5] (fun s wr=>∃(k n:Nat),k≤l.length∧s=.int .i64 k∧Hid (o.mK D.d D.nd 0 l=o.mK D.d D.nd k (l.drop k))∧wr=w.drewN n) (fun s _=>l.length-(RowKit.intOf s).toNat);case atStart=>exact⟨0,0,by omega,rfl,I rfl,rfl⟩
 case round=>
  obtain⟨k,n,aA,rfl,bc,rfl⟩:=hrel;by_cases bV:k<l.length
  ·have fx:au ((k:Int)<(l.length:Int))=ai:=bE (by omega);have dM:=I (show l.drop k=l[k]::l.drop (k+1) from (xh bV));by_cases fR:D.nd≤k
   ·have fh:au ((D.nd:Int)≤(k:Int))=ai:=bE (by omega);have dd:=I (show o.mK D.d D.nd 0 l=ai by rw[bc.out,dM.out,o.mK,ba fR]);go_wp2;go_ret;exact⟨by rw[dd.out];rfl,n,rfl⟩
   ·have fh:au ((D.nd:Int)≤(k:Int))=ab:=bx (by omega);have c5:=iH.out.dr k (by omega);have iu:(0:Int)≤(k:Int):=by omega
    have jl:(k:Int)<(D.nd:Int):=by omega
    have hd:(k:Int)<(l.length:Int):=by omega
    have qq:k<(⟨l.toArray⟩:ByteArray).size:=by rw[ao];exact bV
    have aH:((⟨l.toArray⟩:ByteArray)[k]'qq).toNat=l[k].toNat:=rfl;by_cases he:D.d k=l[k].toNat
    ·have aT:((D.d k:Int) != (l[k].toNat:Int))=ab:=by rw[he];simp
     have dd:=I (show o.mK D.d D.nd 0 l=o.mK D.d D.nd (k+1) (l.drop (k+1)) by rw[bc.out,dM.out,o.mK,aU fR,ba he]);clear he;go_wp2;go_quiet (fail);go_wp2;go_roundw;case rel=>exact⟨k+1,_,by omega,by go_num,dd,rfl⟩
     case measure=>simp[RowKit.intOf];omega
    ·have aT:((D.d k:Int) != (l[k].toNat:Int))=ai:=by simp;omega
     have dd:=I (show o.mK D.d D.nd 0 l=au (D.d k<l[k].toNat) by rw[bc.out,dM.out,o.mK,aU fR,aU he]);have b8:au ((D.d k:Int)<(l[k].toNat:Int))=au (D.d k<l[k].toNat):=by simp
     clear he;go_wp2;go_quiet (fail);go_wp2;go_quiet (fail);go_wp2;go_ret;exact⟨by rw[dd.out,←b8];rfl,_,by rw[World.drewN_drewN,World.drewN_drewN]⟩
  ·obtain rfl:k=l.length:=by omega
   have fx:au ((l.length:Int)<(l.length:Int))=ab:=bx (by omega);have dd:=I (show o.mK D.d D.nd 0 l=ab by rw[bc.out,List.drop_length,o.mK]);go_wp2;go_ret;exact⟨by rw[dd.out];rfl,n,rfl⟩
namespace o
def Bl (M T i:Nat):Nat:=M/10^(T-1-i)%10+48
def q5 (N k q:Nat):Nat:=N%10^q*2^k/10^q
theorem ash (N k:Nat):q5 N k 0=0:=by simp[q5,JB]
theorem aep (N k q:Nat):q5 N k q<2^k:=by
 unfold q5;have p:0<10^q:=dK (by omega);rw[kQ p,dx (2^k)];exact jG (eW _ p) (dK (by omega))
theorem aeq (N k q:Nat):q5 N k q+N/10^q%10*2^k=N%10^(q+1)*2^k/10^q:=by
 unfold q5;have p:0<10^q:=dK (by omega);have cW:N%10^(q+1)=N/10^q%10*10^q+N%10^q:=by
  rw[ei,E6];rw[dx];omega
 rw[cW,ff,s4,jv (_*_*_),Ef _ _ p]
theorem asi (N k q:Nat):(q5 N k q+N/10^q%10*2^k)/10=q5 N k (q+1):=by
 rw[aeq,hE,←ei];rfl
theorem asj (N k q:Nat):(q5 N k q+N/10^q%10*2^k)%10=N*2^k/10^q%10:=by
 rw[aeq];have p:0<10^q:=dK (by omega);have h:=ky N (10^(q+1));generalize N%10^(q+1)=R at *;generalize N/10^(q+1)=H at *;rw[←h,ff,ei,show 10^q*10*H*2^k=(10*(H*2^k))*10^q by ac_rfl,jv,Ef _ _ p];omega
theorem aer {N n:Nat} (k:Nat) (h:N<10^n):q5 N k n=N*2^k/10^n:=by unfold q5;rw[eF h]
def ca.mid (D:ca) (M T lo:Nat) (t:Bool):ca:={ D with d:=fun i=>if lo≤i∧i<T then Bl M T i else D.d i,cr:=t }
theorem aes {D:ca} {M T lo:Nat} {t:Bool} (h:lo<T):(ca.mid D M T (lo+1) t).put lo (Bl M T lo)=ca.mid D M T lo t:=by
 unfold ca.put ca.mid;simp only[ca.mk.injEq,and_true];funext i;by_cases e:i=lo
 ·subst e;simp[h]
 ·rw[aU e];by_cases ae:lo≤i∧i<T
  ·rw[ba ae,ba (by omega)]
  ·rw[aU ae,aU (by omega)]
theorem asl {D:ca} {M T lo:Nat} {t:Bool} (i:Nat) (h:i<lo):(ca.mid D M T lo t).d i=D.d i:=by
 unfold ca.mid;simp only;rw[aU (by omega)]
theorem asm (D:ca) (M T:Nat):ca.mid D M T T D.cr=D:=by
 unfold ca.mid;cases D;simp only[ca.mk.injEq,and_true];funext i;rw[aU (by omega)]
theorem aet {w:af} {P:Nat} {D:ca} {M T lo:Nat} {t:Bool} (h:Has w P (ca.mid D M T (lo+1) t)) (jg:800≤lo):Has w P (ca.mid D M T lo t):=by
 refine⟨h.size,fun i aV=>?_,h.nd,h.a8,h.dJ,h.cr,h.free⟩;rw[h.dr i aV];unfold ca.mid;simp only;rw[aU (by omega),aU (by omega)]
theorem aeu (d:Nat→Nat):∀n,po d n≤n
 | 0=>aC _
 | n+1=>by
   rw[po];split
   ·have:=aeu d n;omega
   ·exact aC _
theorem aev {D:ca} {N:Nat} (h:iD D N):iD D.trim (N/10^(D.nd-D.trim.nd))∧N/10^(D.nd-D.trim.nd)*10^(D.nd-D.trim.nd)=N∧D.trim.a8=D.a8∧D.trim.nd≤D.nd:=by
 have key:∀n,0<n→n≤D.nd→N/10^(D.nd-n)*10^(D.nd-n)=N→0<po D.d n∧N/10^(D.nd-po D.d n)*10^(D.nd-po D.d n)=N:=by
  intro n;induction n with
  | zero=>intro ar;omega
  | succ n dw=>
    intro _ aa ae;rw[po];by_cases aJ:D.d n=48
    ·rw[ba aJ];have aL:=h.dr n (by omega);have aH:D.nd-1-n=D.nd-(n+1):=by omega
     rw[aH] at aL;have aX:N/10^(D.nd-(n+1))%10=0:=by omega
     have aB:0<n:=by
      refine Et (fun e=>?_);subst e;have jg:=h.lo;have ny:=h.aV;have aT:10^(D.nd-1)*10=10^D.nd:=by rw[←ei];congr 1;omega
      have dm:N/10^(D.nd-(0+1))<10:=by rw[kQ (dK (by omega)),dx];rw[hc,aT];exact ny
      have ga:1≤N/10^(D.nd-(0+1)):=by rw[kP (dK (by omega)),fW];exact jg
      omega
     refine dw aB (by omega) ?_;have b8:D.nd-n=D.nd-(n+1)+1:=by omega
     rw[b8,ei,←hE,dx (10^_) 10,←cE,Nat.div_mul_cancel (r8 aX)];exact ae
    ·rw[aU aJ];exact⟨by omega,ae⟩
 obtain⟨aG,bj⟩:=key D.nd h.pos (aC _) (by rw[oR];simp);have ao:=aeu D.d D.nd;have e:D.trim={ D with nd:=po D.d D.nd }:=by unfold ca.trim;rw[aU (by omega)]
 have hle:=h.le;refine⟨?_,?_,by rw[e],by rw[e];exact ao⟩
 ·rw[e];generalize po D.d D.nd=m at *;simp only;have hp:0<10^(D.nd-m):=dK (by omega);refine⟨by simp only;omega,by simp only;omega,fun i aV=>?_,?_,?_⟩
  ·simp only at aV ⊢;rw[h.dr i (by omega),hE,←cm,show D.nd-m+(m-1-i)=D.nd-1-i by omega]
  ·simp only;rw[kP hp,←cm,show m-1+(D.nd-m)=D.nd-1 by omega];exact h.lo
  ·simp only;rw[kQ hp,←cm,show m+(D.nd-m)=D.nd by omega];exact h.aV
 ·rw[e];exact bj
theorem asn {D:ca} {M T:Nat} {t:Bool} {p:Int} (dZ:0<T) (aa:10^(T-1)≤M) (ae:M<10^T):iD { ca.mid D M T 0 t with nd:=min T 800,a8:=p } (M/10^(T-min T 800)):=by
 have hm:min T 800≤T:=Om _ _;have hd:min T 800≤800:=Ez _ _;have pU:0<min T 800:=by omega
 generalize min T 800=m at *;have hp:0<10^(T-m):=dK (by omega);refine⟨hd,pU,fun i aV=>?_,?_,?_⟩
 ·simp only at aV ⊢;unfold ca.mid;simp only;rw[ba (by omega),Bl,hE,←cm,show T-m+(m-1-i)=T-1-i by omega]
 ·simp only;rw[kP hp,←cm,show m-1+(T-m)=T-1 by omega];exact aa
 ·simp only;rw[kQ hp,←cm,show m+(T-m)=T by omega];exact ae
end o
structure y8 (w:af) (P:Nat):Prop where
 lt:16<P
 info:w.cell? ⟨10,0,J⟩=U (.int .u64 52)
 xM:w.cell? ⟨10,1,J⟩=U (.int .u64 11)
 vV:w.cell? ⟨10,2,J⟩=U (.int .i64 (-1023))
 pC:∃(a:Addr) (cap:Nat),w.cell? ⟨14,0,J⟩=U (.slice (U a) 9 cap)∧a.block<P∧∀(i:Nat) (x:Nat),o.pC[i]? = U x→w.cell? (a.add i)=U (.int .i64 (x:Nat))
 Fo:∃(a:Addr) (cap:Nat),w.cell? ⟨12,0,J⟩=U (.slice (U a) 61 cap)∧a.block<P∧∀(i:Nat) (x:Nat×List UInt8),Go.Pinned.cheatRows[i]? = U x→w.cell? (a.add (2*i))=U (.int .i64 (x.1:Nat))∧w.cell? (a.add (2*i+1))=U (.string ⟨x.2.toArray⟩)
theorem y8.below {w w':af} {P:Nat} (h:y8 w P) (ad:ah P w w'):y8 w' P:=by
 have a1:=h.lt;have an:∀g a7,g<17→w'.cell? ⟨g,a7,J⟩=w.cell? ⟨g,a7,J⟩:=fun g a7 aY=>ad.cell (p:=⟨g,a7,J⟩) (by show g<_;omega);refine⟨a1,?_,?_,?_,?_,?_⟩
 ·rw[an _ _ (by omega)];exact h.info
 ·rw[an _ _ (by omega)];exact h.xM
 ·rw[an _ _ (by omega)];exact h.vV
 ·obtain⟨a,cap,aa,ae,aJ⟩:=h.pC;exact⟨a,cap,by rw[an _ _ (by omega)];exact aa,ae,fun i x hx=>by rw[ad.cell (by rw[xN];exact ae)];exact aJ i x hx⟩
 ·obtain⟨a,cap,aa,ae,aJ⟩:=h.Fo;exact⟨a,cap,by rw[an _ _ (by omega)];exact aa,ae,fun i x hx=>⟨by rw[ad.cell (by rw[xN];exact ae)];exact (aJ i x hx).1,by rw[ad.cell (by rw[xN];exact ae)];exact (aJ i x hx).2⟩⟩
theorem Env.aew {w:af} (h:Env w):y8 w w.heap.size:=⟨h.size,h.info,h.xM,h.vV,h.pC,h.Fo⟩
structure Bp (D:ca) (N k:Nat) (fC:ca) (E hD:Nat):Prop where
 is:o.iD fC hD
 a8:fC.a8=D.a8+E
 lo:10^(D.nd-1+E)≤N*2^k
 aV:N*2^k<10^(D.nd+E)
 le:fC.nd≤D.nd+E
 val:hD=N*2^k/10^(D.nd+E-fC.nd)
 exact:D.nd+E≤800→hD*10^(D.nd+E-fC.nd)=N*2^k∧fC.cr=D.cr
 dJ:fC.dJ=D.dJ
theorem asv {D:ca} {N k E:Nat} {t:Bool} (aB:0<D.nd) (jg:10^(D.nd-1+E)≤N*2^k) (ny:N*2^k<10^(D.nd+E)) (bn:D.nd+E≤800→t=D.cr) :
 ∃hD,Bp D N k ({ o.ca.mid D (N*2^k) (D.nd+E) 0 t with nd:=min (D.nd+E) 800,a8:=D.a8+E }:ca).trim E hD:=by
 have aa:=o.asn (D:=D) (M:=N*2^k) (T:=D.nd+E) (t:=t) (p:=D.a8+E) (by omega) (by rw[show D.nd+E-1=D.nd-1+E by omega];exact jg) ny;obtain⟨b1,a2,a3,a4⟩:=o.aev aa;have hm:min (D.nd+E) 800≤D.nd+E:=Om _ _;refine⟨_,b1,a3,jg,ny,cp a4 hm,?_,fun jn=>⟨?_,?_⟩,rfl⟩
 ·rw[hE,←cm];congr 2;simp only at a4 ⊢;omega
 ·have e:min (D.nd+E) 800=D.nd+E:=h2 jn;simp only[e,oR,hn,uD] at a2 ⊢;exact a2
 ·exact bn jn
theorem asw (P k N:Nat) (D:ca) (w:af) (dz:o.iD D N) (fx:1≤k) (aA:k≤60) (eU:-1000000≤D.a8) (fE:D.a8≤1000000) (bn:y8 w P) (h:Has w P D) :
 Calls prog 267 #[.pointer (U ⟨P,0,J⟩),.int .u64 k] w fun e w'=>e=.returned (.tuple #[])∧(∃fC E hD,Bp D N k fC E hD∧Has w' P fC)∧ah P w w':=by
 obtain⟨a,cap,t1,t2,t3⟩:=bn.Fo;obtain⟨x,hx,gg⟩:=o.ase k (by omega);obtain⟨t4,t5⟩:=t3 k x hx;rw[dx 2 k] at t4 t5;have t6:w.cell? ⟨(a.add (k*2)).block,(a.add (k*2)).off+1,J⟩=U (.string ⟨x.2.toArray⟩):=by
  rw[←t5];congr 1;unfold Addr.add;split
  ·simp_all
  ·simp[nW]
 clear t5;have hm:=o.asf dz fx (gg fx);have bJ:=I (fun n=>asg P D x.2 (w.drewN n) dz.le (h.drewN n));have iH:=I h;have c1:=h.nd;have h4:(0:Int)≤(k:Int):=by omega
 have fh:(k:Int)<61:=by omega
 have gu:x.1≤61:=by have:=(gg fx).2.1;omega
 have aha:1≤x.1:=(gg fx).1;clear t3 gg;have MW:o.more D x=if o.mK D.d D.nd 0 x.2=ai then x.1-1 else x.1:=rfl;have lT:=dz.le;have ef:o.more D x≤61:=by rw[MW];split<;>omega
 generalize o.more D x=E at hm MW ef;have U8:=I MW;generalize o.mK D.d D.nd 0 x.2=aeA at bJ U8;have jW:(0:Int)≤(D.nd:Int):=by omega
 have s1:(D.nd:Int)≤800:=by omega
 have di:=I hm;have dM:=I dz;have bc:=I bn;clear MW hx hm h bn dz;go_enter func267,ntmps267;go_wp2;go_quiet ((go_at_call 291;exact Calls.quiet_of (bJ.out _)));go_upto_if 30 with (fail)
 go_cut [4] from 31 to 32 (fun v hJ=>v=.int .i64 (E:Nat)∧hJ=w.drewN nq);case first=>
  cases aeA with
  | true=>
    have dd:(x.1:Int)-1=(E:Nat):=by have:=U8.out;rw[ba rfl] at this;omega
    have hw:IntKind.i64.wrap ((x.1:Int)-1)=(E:Nat):=by rw[dd];exact gF _ (by omega)
    have azq:=I dd;clear dd;go_wp2_with fail;go_meet;case rel=>exact⟨rfl,rfl⟩
  | false=>
    have dd:E=x.1:=by have:=U8.out;rw[aU (by decide)] at this;omega
    go_wp2_with fail;go_meet;case rel=>exact⟨by rw[dd],rfl⟩
 case rest=>
 obtain⟨rfl,rfl⟩:=hcut;have Iq:=I (iH.out.drewN nq);have cQ:=I (below_drewN (aK P w) nq);generalize w.drewN nq=cq at Iq cQ ⊢;clear t1 t4 t6 c1 bJ;have c1:=Iq.out.nd;have SZ:IntKind.i64.wrap ((D.nd:Int)+(E:Nat))=(D.nd:Int)+(E:Nat):=gF _ (by omega);have uH:IntKind.i64.wrap ((D.nd:Int)-1)=(D.nd:Int)-1:=gF _ (by omega);go_wp2;go_loopw [5,6,7] (fun r s n wr=>∃(i:Nat) (t:Bool),i≤D.nd∧r=.int .i64 ((i:Int)-1)∧s=.int .i64 ((i:Int)+(E:Nat))∧n=.int .u64 (o.q5 N k (D.nd-i):Nat)∧Hid (Has wr P (o.ca.mid D (N*2^k) (D.nd+E) (i+E) t))∧Hid (D.nd+E≤800→t=D.cr)∧Hid (ah P w wr)) (fun r _ _ _=>(RowKit.intOf r+1).toNat);case atStart=>exact⟨D.nd,D.cr,by omega,rfl,rfl,by rw[oR,o.ash];rfl,I (by rw[o.asm];exact Iq.out),I (fun _=>rfl),cQ⟩
 case round=>
  obtain⟨i,t,aV,rfl,rfl,rfl,b9,iO,ay⟩:=hrel;by_cases ar:0<i
  ·obtain⟨j,rfl⟩:∃j,i=j+1:=⟨i-1,by omega⟩;have c5:=b9.out.dr j (by omega);rw[o.asl j (by omega),dM.out.dr j (by omega),show D.nd-1-j=D.nd-(j+1) by omega] at c5;have hL:N/10^(D.nd-(j+1))%10<10:=eW _ (by omega);have qE:=I (o.aep N k (D.nd-(j+1)));have b3:=I (o.asi N k (D.nd-(j+1)));have bG:=I (o.asj N k (D.nd-(j+1)));rw[show D.nd-(j+1)+1=D.nd-j by omega] at b3;generalize N/10^(D.nd-(j+1))%10=gE at c5 hL b3 bG;generalize o.q5 N k (D.nd-(j+1))=df at qE b3 bG ⊢;obtain⟨m,hm⟩:∃m,m=j+E:=⟨_,rfl⟩;have aH:(((j+1:Nat):Int)-1)=(j:Int):=by omega
   have aT:(((j+1:Nat):Int)+(E:Nat))=(m:Int)+1:=by omega
   rw[aH,aT];have f1:(0:Int)≤(j:Int):=by omega
   have f2:(j:Int)<800:=by omega
   have f3:au ((0:Int)≤(j:Int))=ai:=bE f1;have f4:IntKind.i64.wrap ((m:Int)+1-1)=(m:Int):=by rw[NV];exact gF _ (by omega)
   have f5:IntKind.i64.wrap ((j:Int)-1)=(j:Int)-1:=gF _ (by omega);have f6:(0:Int)≤(m:Int):=by omega
   have g1:IntKind.u64.wrap ((gE+48:Nat):Int)=((gE+48:Nat):Int):=ik _ (by omega);have g2:IntKind.u64.wrap (((gE+48:Nat):Int)-48)=(gE:Int):=by rw[show ((gE+48:Nat):Int)-48=gE by omega];exact ik _ (by omega)
   have yD:2^k≤1152921504606846976:=cp (dB (by omega) aA) (by decide);have asx:gE*2^k≤9*2^k:=fD _ (by omega);have asy:=qE.out;have g3:IntKind.u64.wrap ((gE:Int)*2^k)=(gE:Int)*2^k:=by
    rw[show (gE:Int)*2^k=((gE*2^k:Nat):Int) by push_cast;rfl];exact ik _ (by omega)
   obtain⟨v,aD⟩:∃v,v=df+gE*2^k:=⟨_,rfl⟩;rw[←aD] at b3 bG;have g4:IntKind.u64.wrap ((df:Int)+(gE:Int)*2^k)=(v:Int):=by
    rw[show (df:Int)+(gE:Int)*2^k=(v:Int) by rw[aD];push_cast;rfl];exact ik _ (by omega)
   have ml:v<18446744073709551616:=by omega
   clear g1 yD asx asy aD aH aT;have g1:IntKind.u64.wrap ((gE+48:Nat):Int)=((gE+48:Nat):Int):=ik _ (by omega);have U9:(v:Int).tdiv 10=((v/10:Nat):Int):=rfl;have U':(v:Int)/10=((v/10:Nat):Int):=rfl;have g5:IntKind.u64.wrap ((v/10:Nat):Int)=((v/10:Nat):Int):=ik _ (by omega);have g6:IntKind.u64.wrap (10*((v/10:Nat):Int))=10*((v/10:Nat):Int):=ik _ (by omega);have g7:IntKind.u64.wrap ((v:Int)-10*((v/10:Nat):Int))=((v%10:Nat):Int):=by rw[show (v:Int)-10*((v/10:Nat):Int)=((v%10:Nat):Int) by omega];exact ik _ (by omega)
   have Du:v%10<10:=eW _ (by omega);generalize v%10=q6 at g7 Du bG;generalize Ir:v/10=asz at g5 U9 U' g6 g7 b3;have asA:=I Ir;clear Ir;have g8:IntKind.u64.wrap ((q6:Int)+48)=(q6:Int)+48:=ik _ (by omega);have g9:((q6:Int)+48)%256=(q6:Int)+48:=by omega
   have Is:=I (show o.Bl (N*2^k) (D.nd+E) m=q6+48 by unfold o.Bl;rw[bG.out,show D.nd+E-1-m=D.nd-(j+1) by omega]);rw[show j+1+E=m+1 by omega] at b9;have u7:=I (show m<D.nd+E by omega);have DX:=I hm;have abU:m<900:=by omega
   clear hm;have rp:=b9.out.free m;have yx:=b9.out.free 803;have Lg:=b9.out.cr;by_cases jn:m<800
   ·have f7:(m:Int)<800:=by omega
    have f8:au ((m:Int)<800)=ai:=bE f7;have c9:=b9.out.dr m jn;go_wp2;go_roundw;case rel=>exact⟨j,t,by omega,rfl,by rw[DX.out];push_cast;rfl,by rw[b3.out],I (by rw[←DX.out,←o.aes u7.out,Is.out];exact b9.out.put m (q6+48) jn),iO,I (ay.out.setCell (aC _) _)⟩
    case measure=>simp[RowKit.intOf]
   ·have f8:au ((m:Int)<800)=ab:=bx (by omega);by_cases fe:q6=0
    ·subst fe;rw[Int.natCast_zero] at g7;go_wp2;go_roundw;case rel=>exact⟨j,t,by omega,rfl,by rw[DX.out];push_cast;rfl,by rw[b3.out],I (by rw[←DX.out];exact o.aet b9.out (by omega)),iO,ay⟩
     case measure=>simp[RowKit.intOf]
    ·have f9:((q6:Int) != 0)=ai:=by simp;omega
     go_wp2;go_roundw;case rel=>exact⟨j,ai,by omega,rfl,by rw[DX.out];push_cast;rfl,by rw[b3.out],I (by rw[←DX.out];exact o.aet (t:=ai) (b9.out.MU ai) (by omega)),I (fun h=>by have:=u7.out;omega),I (ay.out.setCell (aC _) _)⟩
     case measure=>simp[RowKit.intOf]
  ·obtain rfl:i=0:=by omega
   rw[hc] at b9;have ny:=di.out.2;have jg:=di.out.1;have jO:N*2^k/10^D.nd<1152921504606846977:=by
    rw[←o.aer k dM.out.aV];have aa:=o.aep N k D.nd;have ae:2^k≤1152921504606846976:=cp (dB (by omega) aA) (by decide);omega
   have gP:o.q5 N k (D.nd-0)=N*2^k/10^D.nd:=o.aer k dM.out.aV;rw[gP,show ((0:Nat):Int)-1 = -1 from rfl,show ((0:Nat):Int)+(E:Nat)=(E:Int) by omega];have rM:=I jg;have y9:=I ny;have u5:=I jO;have FE:=dM.out.pos;clear gP jg ny jO di;generalize dy:N*2^k=M at b9 rM y9 u5 ⊢;have Gr:=I dy;clear dy;obtain⟨sX,xa⟩:∃x,x=wr:=⟨wr,rfl⟩;subst xa;go_wp2;go_loopw [6,7] (fun s n wr=>∃(i:Nat) (t:Bool),i≤E∧s=.int .i64 (i:Int)∧n=.int .u64 (M/10^(D.nd+(E-i)):Nat)∧Hid (Has wr P (o.ca.mid D M (D.nd+E) i t))∧Hid (D.nd+E≤800→t=D.cr)∧Hid (ah P w wr)) (fun s _ _=>(RowKit.intOf s).toNat);case atStart=>exact⟨E,t,by omega,rfl,by rw[oR,jd],b9,iO,ay⟩
   case round=>
    obtain⟨i,t,aV,rfl,rfl,b9,iO,ay⟩:=hrel;have CG:M/10^(D.nd+(E-i))<1152921504606846977:=by
     refine gQ ?_ u5.out;rw[cm,←hE];exact s9 _ _
    by_cases ar:0<i
    ·obtain⟨j,rfl⟩:∃j,i=j+1:=⟨i-1,by omega⟩;have fK:0<M/10^(D.nd+(E-(j+1))):=by
      refine Nat.div_pos (cp (dB (by omega) (by omega)) rM.out) (dK (by omega))
     have b3:=I (show M/10^(D.nd+(E-(j+1)))/10=M/10^(D.nd+(E-j)) by
      rw[hE,←ei,show (D.nd+(E-(j+1))).succ=D.nd+(E-j) by omega])
     have Is:=I (show o.Bl M (D.nd+E) j=M/10^(D.nd+(E-(j+1)))%10+48 by
      unfold o.Bl;rw[show D.nd+E-1-j=D.nd+(E-(j+1)) by omega])
     generalize M/10^(D.nd+(E-(j+1)))=v at fK CG b3 Is ⊢;rw[Ok,Ol];have f3:au ((0:Int)<(v:Int))=ai:=bE (by omega);have f4:IntKind.i64.wrap ((j:Int)+1-1)=(j:Int):=by rw[NV];exact gF _ (by omega)
     have f6:(0:Int)≤(j:Int):=by omega
     have f7:(j:Int)<800:=by omega
     have f8:au ((j:Int)<800)=ai:=bE f7;have U9:(v:Int).tdiv 10=((v/10:Nat):Int):=rfl;have U':(v:Int)/10=((v/10:Nat):Int):=rfl;have g5:IntKind.u64.wrap ((v/10:Nat):Int)=((v/10:Nat):Int):=ik _ (by omega);have g6:IntKind.u64.wrap (10*((v/10:Nat):Int))=10*((v/10:Nat):Int):=ik _ (by omega);have g7:IntKind.u64.wrap ((v:Int)-10*((v/10:Nat):Int))=((v%10:Nat):Int):=by rw[show (v:Int)-10*((v/10:Nat):Int)=((v%10:Nat):Int) by omega];exact ik _ (by omega)
     have Du:v%10<10:=eW _ (by omega);generalize v%10=q6 at g7 Du Is;generalize Ir:v/10=asz at g5 U9 U' g6 g7 b3;have asA:=I Ir;clear Ir;have g8:IntKind.u64.wrap ((q6:Int)+48)=(q6:Int)+48:=ik _ (by omega);have g9:((q6:Int)+48)%256=(q6:Int)+48:=by omega
     have u7:=I (show j<D.nd+E by omega);have rp:=b9.out.free j;have c9:=b9.out.dr j (by omega);go_wp2;go_roundw;case rel=>exact⟨j,t,by omega,rfl,by rw[b3.out],I (by rw[←o.aes u7.out,Is.out];exact b9.out.put j (q6+48) (by omega)),iO,I (ay.out.setCell (aC _) _)⟩
     case measure=>simp[RowKit.intOf]
    ·obtain rfl:i=0:=by omega
     have aX:M/10^(D.nd+(E-0))=0:=nu (by rw[BU];exact y9.out);rw[aX,show ((0:Nat):Int)=0 from rfl];have c1:wr.cell? ⟨P,800,J⟩=U (.int .i64 (D.nd:Nat)):=b9.out.nd;have c2:wr.cell? ⟨P,801,J⟩=U (.int .i64 D.a8):=b9.out.a8;have c3:=b9.out.free 800;have c4:=b9.out.free 801;have g1:IntKind.i64.wrap (D.a8+(E:Nat))=D.a8+(E:Nat):=gF _ (by omega);obtain⟨hD,ao⟩:=asv (D:=D) (N:=N) (k:=k) (E:=E) (t:=t) FE (by rw[Gr.out];exact rM.out) (by rw[Gr.out];exact y9.out) iO.out;rw[Gr.out] at ao;have cD:=I ao;clear ao;by_cases jn:800≤D.nd+E
     ·have f8:au ((800:Int)≤(D.nd:Int)+(E:Nat))=ai:=bE (by omega);rw[EA jn] at cD;go_wp2_with fail;refine (U5 P _ _ ?_ (((b9.out.Bk (D.nd+E)).Bk 800).y7 (D.a8+(E:Nat)))).mono ?_
      ·exact aC _
      rintro e w' ⟨rfl,wa,hs⟩;go_wp2_with fail;exact⟨rfl,_,xE results267 _ _ _,rfl,⟨_,E,hD,cD.out,wa⟩,(((ay.out.setCell (aC _) _).setCell (aC _) _).setCell (aC _) _).trans hs⟩
     ·have f8:au ((800:Int)≤(D.nd:Int)+(E:Nat))=ab:=bx (by omega);rw[h2 (by omega)] at cD;go_wp2_with fail;refine (U5 P _ _ ?_ ((b9.out.Bk (D.nd+E)).y7 (D.a8+(E:Nat)))).mono ?_
      ·show D.nd+E≤800;omega
      rintro e w' ⟨rfl,wa,hs⟩;go_wp2_with fail;exact⟨rfl,_,xE results267 _ _ _,rfl,⟨_,E,hD,cD.out,wa⟩,((ay.out.setCell (aC _) _).setCell (aC _) _).trans hs⟩
namespace o
def ap (N nd q:Nat):Nat:=N*10^q/10^nd
theorem MX {N nd q:Nat} (h:q≤nd):ap N nd q=N/10^(nd-q):=by
 unfold ap;rw[show 10^nd=10^(nd-q)*10^q by rw[←cm];congr 1;omega,vG _ _ (dK (by omega))]
theorem Bq {N nd q:Nat} (h:nd≤q):ap N nd q=N*10^(q-nd):=by
 unfold ap;rw[show 10^q=10^(q-nd)*10^nd by rw[←cm];congr 1;omega,←cE,BI _ (dK (by omega))]
theorem aeB {N nd:Nat} (h:N<10^nd):ap N nd 0=0:=by unfold ap;rw[hn,fI];exact nu h
theorem MY {N nd q:Nat} (h:q<nd):ap N nd (q+1)=10*ap N nd q+N/10^(nd-1-q)%10:=by
 rw[MX (by omega),MX (by omega),show nd-(q+1)=nd-1-q by omega,show nd-q=nd-1-q+1 by omega,ei,←hE];omega
theorem MZ {N nd q:Nat} (h:nd≤q):ap N nd (q+1)=10*ap N nd q:=by
 rw[Bq (by omega),Bq h,show q+1-nd=q-nd+1 by omega,ei];ac_rfl
theorem Br (N nd q j:Nat):ap N nd (q+j)/10^j=ap N nd q:=by
 unfold ap;rw[hE,cm,←cE,vG _ _ (dK (by omega))]
theorem M0 (A c k:Nat) (an:c<10):(10*A+c)%(10*2^k)=10*(A%2^k)+c:=by
 have p:0<2^k:=dK (by omega);have h:=ky A (2^k);have ao:=eW A p;generalize A%2^k=R at *;generalize A/2^k=Q at *;generalize 2^k=b at *;subst h;rw[show 10*(b*Q+R)+c=(10*R+c)+(10*b)*Q by rw[fP,←cE];omega,Eb];exact eF (by omega)
theorem aeC (A k:Nat):A%(10*2^k)/2^k=A/2^k%10:=by
 rw[dx 10];exact VT A (2^k) 10
theorem Va (A k:Nat):A%(10*2^k)%2^k=A%2^k:=Nat.mod_mul_left_mod A 10 (2^k)
theorem aeD (A k:Nat):A%(10*2^k)<10*2^k:=eW _ (lM (by omega) (dK (by omega)))
def It (N nd k r i:Nat):Nat:=ap N nd (r+i)/2^k%10+48
def ca.cut (D:ca) (N k r j:Nat) (t:Bool):ca:={ D with d:=fun i=>if i<j then It N D.nd k r i else D.d i,cr:=t }
theorem aeE {D:ca} {N k r j:Nat} {t:Bool}:(ca.cut D N k r j t).put j (It N D.nd k r j)=ca.cut D N k r (j+1) t:=by
 unfold ca.put ca.cut;simp only[ca.mk.injEq,and_true];funext i;by_cases e:i=j
 ·subst e;simp
 ·rw[aU e];by_cases ae:i<j
  ·rw[ba ae,ba (by omega)]
  ·rw[aU ae,aU (by omega)]
theorem asB (D:ca) (N k r:Nat):ca.cut D N k r 0 D.cr=D:=by
 unfold ca.cut;cases D;simp only[ca.mk.injEq,and_true];funext i;rw[aU (by omega)]
theorem asC {D:ca} {N k r j:Nat} {t:Bool} (i:Nat) (h:j≤i):(ca.cut D N k r j t).d i=D.d i:=by
 unfold ca.cut;simp only;rw[aU (by omega)]
theorem asD (N nd k q:Nat) (h:nd+k+1≤q):ap N nd q%(10*2^k)=0:=by
 rw[Bq (by omega),show 10^(q-nd)=10^(k+1)*10^(q-nd-(k+1)) by rw[←cm];congr 1;omega];rw[show 10^(k+1)=10*2^k*5^k by rw[cE,←Nat.mul_pow,ei,dx]];rw[show N*(10*2^k*5^k*10^(q-nd-(k+1)))=10*2^k*(N*5^k*10^(q-nd-(k+1))) by ac_rfl];exact N7 _ _
theorem asE {D:ca} {N k r m:Nat} {t:Bool} {p:Int} (hm:0<m) (qI:m≤800) (aF:1≤r) (aa:2^k≤ap N D.nd r) (ae:ap N D.nd (r-1)<2^k) :
 iD { ca.cut D N k r m t with nd:=m,a8:=p } (ap N D.nd (r+m-1)/2^k):=by
 have fA:0<2^k:=dK (by omega);refine⟨qI,hm,fun i aV=>?_,?_,?_⟩
 ·simp only at aV ⊢;unfold ca.cut;simp only;rw[ba aV,It,hE,dx,←hE,show r+m-1=r+i+(m-1-i) by omega,Br]
 ·simp only;rw[kP fA];have aJ:=Br N D.nd r (m-1);rw[show r+(m-1)=r+m-1 by omega] at aJ;rw[←aJ,kP (dK (by omega))] at aa;rw[dx];exact aa
 ·simp only;have aJ:=Br N D.nd (r-1) m;rw[show r-1+m=r+m-1 by omega] at aJ;rw[←aJ,kQ (dK (by omega))] at ae;rw[kQ fA,dx];exact ae
end o
structure Bs (D:ca) (N k:Nat) (fC:ca) (r hD:Nat):Prop where
 is:o.iD fC hD
 bH:1≤r
 cN:r≤D.nd+20
 a8:fC.a8=D.a8-((r:Int)-1)
 lo:2^k≤o.ap N D.nd r
 aV:o.ap N D.nd (r-1)<2^k
 le:fC.nd≤D.nd+k
 val:hD=o.ap N D.nd (r+fC.nd-1)/2^k
 exact:D.nd+k≤800→hD*2^k*10^D.nd=N*10^(r+fC.nd-1)∧fC.cr=D.cr
 dJ:fC.dJ=D.dJ
theorem asF {D:ca} {N k r q:Nat} {t:Bool} (mn:1≤r) (iK:r≤D.nd+20) (lo:2^k≤o.ap N D.nd r) (aV:o.ap N D.nd (r-1)<2^k) (sz:r<q) (lQ:D.nd≤q) (J1:q≤max r D.nd+k+1) (azr:q≤D.nd+k+1)
 (aX:o.ap N D.nd q%(10*2^k)=0) (bn:q-r≤800→t=D.cr):∃hD,Bs D N k ({ o.ca.cut D N k r (min (q-r) 800) t with nd:=min (q-r) 800,a8:=D.a8-((r:Int)-1) }:ca).trim r hD:=by
 have jl:min (q-r) 800≤q-r:=Om _ _;have hd:min (q-r) 800≤800:=Ez _ _;have pU:0<min (q-r) 800:=by omega
 have aa:=o.asE (D:=D) (N:=N) (k:=k) (r:=r) (m:=min (q-r) 800) (t:=t) (p:=D.a8-((r:Int)-1)) pU hd mn lo aV;obtain⟨b1,a2,a3,a4⟩:=o.aev aa;have a5:=b1.pos;refine⟨_,b1,mn,iK,a3,lo,aV,?_,?_,fun jn=>⟨?_,?_⟩,rfl⟩
 ·simp only at a4 ⊢;omega
 ·simp only at a4 a5 ⊢;generalize (ca.trim _).nd=m at *;rw[hE,dx,←hE,show r+min (q-r) 800-1=r+m-1+(min (q-r) 800-m) by omega,o.Br]
 ·have e:min (q-r) 800=q-r:=h2 (by omega);have hx:o.ap N D.nd (q-1)%2^k=0∧o.ap N D.nd (q-1)*10^D.nd=N*10^(q-1):=by
   by_cases aE:D.nd<q
   ·have aH:=o.MZ (N:=N) (nd:=D.nd) (q:=q-1) (by omega);rw[show q-1+1=q by omega] at aH;have aT:=o.M0 (o.ap N D.nd (q-1)) 0 k (by omega);rw[jd,←aH,aX] at aT;refine⟨by omega,?_⟩;rw[o.Bq (by omega),cE,←cm];congr 2;omega
   ·have Fi:q=D.nd:=by omega
    have aH:=o.MY (N:=N) (nd:=D.nd) (q:=q-1) (by omega);rw[show q-1+1=q by omega,show D.nd-1-(q-1)=0 by omega,hn,uD] at aH;have aT:=o.M0 (o.ap N D.nd (q-1)) (N%10) k (by omega);rw[←aH,aX] at aT;refine⟨by omega,?_⟩;have b8:o.ap N D.nd (q-1)=N/10:=by rw[o.MX (by omega),show D.nd-(q-1)=1 by omega,JN]
    rw[b8,←Fi,show q=q-1+1 by omega,ei,nt,dx (10^_) 10,←cE];congr 1;omega
  obtain⟨cZ,cT⟩:=hx;have gR:o.ap N D.nd (q-1)/2^k*2^k=o.ap N D.nd (q-1):=Nat.div_mul_cancel (r8 cZ);have key:∀m hS,m≤min (q-r) 800→0<m→hS*10^(min (q-r) 800-m)=o.ap N D.nd (q-1)/2^k→hS*2^k*10^D.nd=N*10^(r+m-1):=by
   intro m hS cd cF fw;rw[e] at cd fw;refine D8 (dK (n:=q-r-m) (show 0<10 by omega)) ?_;rw[show hS*2^k*10^D.nd*10^(q-r-m)=hS*10^(q-r-m)*2^k*10^D.nd by ac_rfl,fw,gR,cT,cE,←cm];congr 2;omega
  refine key _ _ a4 a5 ?_;rw[show r+min (q-r) 800-1=q-1 by omega] at a2 ⊢;exact a2
 ·exact bn (by omega)
end Go.Proofs.YtkhphoonnkoipaaGreatDoor
