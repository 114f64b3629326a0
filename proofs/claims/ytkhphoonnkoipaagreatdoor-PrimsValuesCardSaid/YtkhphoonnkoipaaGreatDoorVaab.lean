/- Lemmas. -/
import Derived.Test.YtkhphoonnkoipaaGreatDoorVa0
import Derived.WalkLawsBesides
import Derived.WalkSpells
set_option linter.all false
open Go.Proofs.Tryz Go.RowKit Go.Lib
open Option renaming some→U
open Bool renaming true→ai,false→ab
open Decidable renaming decide→au
open Go renaming World→af,Calls→aq
open Go.Proofs.Tryz renaming prog→ak
namespace Go.Proofs.YtkhphoonnkoipaaGreatDoor.av
open Ieee
abbrev D:Format:=Ieee.double
def dC (a:Nat):Bool:=au (9218868437227405312<a%9223372036854775808)
theorem jK (a:Nat):D.read a =
 if a%9223372036854775808<4503599627370496 then .number (a/9223372036854775808%2==1) (a%9223372036854775808) (-1074)
 else if a%9223372036854775808<9218868437227405312 then .number (a/9223372036854775808%2==1) (4503599627370496+a%9223372036854775808%4503599627370496) (-1074+(a%9223372036854775808/4503599627370496-1:Nat))
 else if a%9223372036854775808=9218868437227405312 then .infinity (a/9223372036854775808%2==1)
 else .nan (a/9223372036854775808%2==1) (a%9223372036854775808-9218868437227405312):=rfl
def Good:Datum→Prop
 | .number _ m i=>-1074≤i∧i≤971∧m<9007199254740992
 | .infinity _=>True
 | .nan ..=>False
theorem JQ {a:Nat} (h:dC a=ab):Good (D.read a):=by
 rw[jK];have iE:¬ 9218868437227405312<a%9223372036854775808:=by simpa[dC] using h
 split
 ·simp only[Good];omega
 ·split
  ·simp only[Good];have:a%9223372036854775808/4503599627370496≤2046:=by omega
   omega
  ·split
   ·trivial
   ·omega
theorem afF {a:Nat} (h:dC a=ai):∃s f,D.read a=.nan s f:=by
 have iE:9218868437227405312<a%9223372036854775808:=by simpa[dC] using h
 rw[jK,aU (by omega),aU (by omega),aU (by omega)];exact⟨_,_,rfl⟩
def val:Datum→Int
 | .number s m i=>Ieee.signed s m (i+1074).toNat
 | .infinity s=>Ieee.signed s 1 2200
 | .nan ..=>0
theorem JR (s:Bool) (m u k:Nat):Ieee.signed s m u*(2^k:Nat)=Ieee.signed s m (u+k):=by
 unfold Ieee.signed;rw[mM,mM,cm,←cE];cases s
 ·simp
 ·simp[BW]
theorem Wc (s:Bool) (m u:Nat):Ieee.signed (!s) m u = - Ieee.signed s m u:=by cases s<;>simp[Ieee.signed]
theorem afG (d:Datum):val d.opposite = - val d:=by cases d<;>simp[val,Datum.opposite,Wc]
theorem afH (x y:Int) (k:Nat):compare (x*(2^k:Nat)) (y*(2^k:Nat))=compare x y:=by
 have hp:(0:Int)<(2^k:Nat):=by exact_mod_cast ez k
 have aa:x*(2^k:Nat)<y*(2^k:Nat)↔x<y:=⟨fun h=>Int.lt_of_mul_lt_mul_right h (Jj hp),fun h=>Int.mul_lt_mul_of_pos_right h hp⟩;have ae:x*(2^k:Nat)=y*(2^k:Nat)↔x=y:=⟨fun h=>Nn (Int.ne_of_gt hp) h,fun h=>by rw[h]⟩;simp only[compare,compareOfLessAndEq,aa,ae]
theorem Wd {m u:Nat} (s:Bool) (hm:m<9007199254740992) (hu:u≤2045):Ieee.signed s m u<Ieee.signed ab 1 2200∧Ieee.signed ai 1 2200<Ieee.signed s m u:=by
 have aa:m*2^u<2^2200:=by
  calc m*2^u≤9007199254740992*2^u:=fD _ (by omega)
   _≤9007199254740992*2^2045:=gp _ (dB (by omega) hu)
   _<2^2200:=by decide +kernel
 unfold Ieee.signed;rw[mM,mM];generalize 2^2200=B at *;generalize m*2^u=v at *;cases s<;>simp<;>omega
theorem tc {x y:Int} (h:x<y):compare x y=.lt:=by simp[compare,compareOfLessAndEq,h]
theorem vP {x y:Int} (h:y<x):compare x y=.gt:=by
 simp only[compare,compareOfLessAndEq];rw[aU (by omega),aU (by omega)]
theorem cmp_eq (x:Int):compare x x=.eq:=by simp[compare,compareOfLessAndEq]
theorem afI {d e:Datum} (aL:Good d) (he:Good e):d.order e=U (compare (val d) (val e)):=by
 cases d with
 | nan=>exact aL.elim
 | infinity s=>
   cases e with
   | nan=>exact he.elim
   | infinity t=>
     simp only[Datum.order,val];cases s<;>cases t<;>simp only[Bool.toNat]
     ·rw[cmp_eq];rfl
     ·rw[vP (by decide +kernel)];rfl
     ·rw[tc (by decide +kernel)];rfl
     ·rw[cmp_eq];rfl
   | number t n j=>
     obtain⟨aa,ae,aJ⟩:=he;have:=Wd t aJ (u:=(j+1074).toNat) (by omega);simp only[Datum.order,val];cases s
     ·rw[vP this.1];rfl
     ·rw[tc this.2];rfl
 | number s m i=>
   obtain⟨aa,ae,aJ⟩:=aL;cases e with
   | nan=>exact he.elim
   | infinity t=>
     have:=Wd s aJ (u:=(i+1074).toNat) (by omega);simp only[Datum.order,val];cases t
     ·rw[tc this.1];rfl
     ·rw[vP this.2];rfl
   | number t n j=>
     obtain⟨aG,bj,bq⟩:=he;simp only[Datum.order,val];rw[←afH _ _ (min i j+1074).toNat,JR,JR];have aH:(i-min i j).toNat+(min i j+1074).toNat=(i+1074).toNat:=by omega
     have aT:(j-min i j).toNat+(min i j+1074).toNat=(j+1074).toNat:=by omega
     rw[aH,aT]
theorem PN {a:Nat} (b:Nat) (h:dC a=ai):D.order a b=none:=by
 obtain⟨s,f,e⟩:=afF h;simp[Format.order,e,Datum.order]
theorem td {a b:Nat} (aS:dC a=ab) (ad:dC b=ab):D.order a b=U (compare (val (D.read a)) (val (D.read b))):=afI (JQ aS) (JQ ad)
theorem B5 {a:Nat} (h:a<9223372036854775808):a ^^^ 9223372036854775808=9223372036854775808+a:=by
 have e:(9223372036854775808:Nat)=2^63:=by decide
 rw[e] at h ⊢;refine Eh fun j=>?_;rw[Nat.testBit_xor,Ei];rcases zk j 63 with bP | bP | bP
 ·rw[Nat.testBit_two_pow_add_gt bP];have:¬ 63=j:=by omega
  simp[this]
 ·subst bP;rw[Nat.testBit_two_pow_add_eq,Nv h];rfl
 ·have hp:(2:Nat)^64≤2^j:=dB (by omega) (by omega);have kA:(2:Nat)^64=2^63+2^63:=by decide
  rw[Nv (show a<2^j by omega),Nv (show 2^63+a<2^j by omega)];have:¬ 63=j:=by omega
  simp[this]
theorem PO {a:Nat} (h:9223372036854775808≤a) (ae:a<18446744073709551616):a ^^^ 9223372036854775808=a-9223372036854775808:=by
 have e:a=(a-9223372036854775808) ^^^ 9223372036854775808:=by rw[B5 (by omega)];omega
 conv=>lhs;rw[e]
 rw[Nat.xor_assoc,Nat.xor_self,Nat.xor_zero]
theorem afJ {a:Nat} (h:a<18446744073709551616):(a ^^^ 9223372036854775808)%9223372036854775808=a%9223372036854775808∧((a ^^^ 9223372036854775808)/9223372036854775808%2==1) = !(a/9223372036854775808%2==1)∧(a ^^^ 9223372036854775808)<18446744073709551616:=by
 rcases eh a 9223372036854775808 with aa | aa
 ·rw[B5 aa];refine⟨by omega,?_,by omega⟩;have aH:(9223372036854775808+a)/9223372036854775808%2=1:=by omega
  have aT:a/9223372036854775808%2=0:=by omega
  rw[aH,aT];rfl
 ·rw[PO aa h];refine⟨by omega,?_,by omega⟩;have aH:(a-9223372036854775808)/9223372036854775808%2=0:=by omega
  have aT:a/9223372036854775808%2=1:=by omega
  rw[aH,aT];rfl
theorem afK {a:Nat} (h:a<18446744073709551616):D.read (a ^^^ 9223372036854775808)=(D.read a).opposite:=by
 obtain⟨aH,aT,_⟩:=afJ h;rw[jK,jK,aH,aT];split
 ·rfl
 ·split
  ·rfl
  ·split<;>rfl
def JS:Nat:=9221120237041090560
def told (a:Nat):Nat:=if dC a then JS else a
def E8:Option Nat→Nat
 | some r=>r
 | none=>JS
def We (a:Nat):Nat:=told (a ^^^ 9223372036854775808)
def E9 (a b:Nat):Nat:=E8 (D.add a b)
def E' (a b:Nat):Nat:=E8 (D.sub a b)
def Fa (a b:Nat):Nat:=E8 (D.mul a b)
def fdiv (a b:Nat):Nat:=E8 (D.div a b)
def Fb (a:Nat):Nat:=E8 (D.sqrt a)
theorem Fc (s:Bool) {r:Nat} (h:r≤9218868437227405312):dC (D.word s r)=ab:=by
 have e:D.word s r%9223372036854775808=r:=by
  unfold Format.word;have:D.signWeight=9223372036854775808:=by decide
  rw[this];split<;>omega
 unfold dC;rw[e];simpa using h
theorem afL (s:Bool) (m:Nat) (i:Int):dC (D.nearest s m i)=ab:=by
 unfold Format.nearest;have:D.infRung=9218868437227405312:=by decide
 split
 ·exact Fc s (by omega)
 ·exact Fc s (by rw[this];exact Ez ..)
theorem Fe {d:Datum} (h:d.isNaN=ab):dC (D.write d)=ab:=by
 cases d with
 | number s m i=>exact afL s m i
 | infinity s=>exact Fc s (by decide)
 | nan s f=>simp[Datum.isNaN] at h
theorem Wf {d e r:Datum} (h:d.sum e=U r):r.isNaN=ab:=by
 cases d<;>cases e<;>simp only[Datum.sum,reduceCtorEq,re] at h
 ·subst h;rfl
 ·subst h;rfl
 ·subst h;rfl
 ·split at h
  ·cases h;rfl
  ·cases h
theorem afM {d e r:Datum} (h:d.product e=U r):r.isNaN=ab:=by
 cases d<;>cases e<;>simp only[Datum.product,reduceCtorEq,re] at h
 ·subst h;rfl
 ·split at h
  ·cases h
  ·cases h;rfl
 ·split at h
  ·cases h
  ·cases h;rfl
 ·subst h;rfl
theorem afN {g:Nat} {d e r:Datum} (h:d.quotient g e=U r):r.isNaN=ab:=by
 cases d<;>cases e<;>simp only[Datum.quotient,reduceCtorEq,re] at h
 ·split at h
  ·split at h
   ·cases h
   ·cases h;rfl
  ·cases h;rfl
 ·subst h;rfl
 ·subst h;rfl
theorem afO {g:Nat} {d r:Datum} (h:d.root g=U r):r.isNaN=ab:=by
 cases d<;>simp only[Datum.root,reduceCtorEq] at h
 ·split at h
  ·cases h;rfl
  ·split at h
   ·cases h
   ·cases h;rfl
 ·split at h
  ·cases h
  ·cases h;rfl
theorem afP {a b r:Nat} (h:D.add a b=U r):dC r=ab:=by
 obtain⟨d,aL,rfl⟩:=Option.map_eq_some_iff.1 h;exact Fe (Wf aL)
theorem afQ {a b r:Nat} (h:D.sub a b=U r):dC r=ab:=by
 obtain⟨d,aL,rfl⟩:=Option.map_eq_some_iff.1 h;exact Fe (Wf aL)
theorem PQ {a b r:Nat} (h:D.mul a b=U r):dC r=ab:=by
 obtain⟨d,aL,rfl⟩:=Option.map_eq_some_iff.1 h;exact Fe (afM aL)
theorem afR {a b r:Nat} (h:D.div a b=U r):dC r=ab:=by
 obtain⟨d,aL,rfl⟩:=Option.map_eq_some_iff.1 h;exact Fe (afN aL)
theorem afS {a r:Nat} (h:D.sqrt a=U r):dC r=ab:=by
 obtain⟨d,aL,rfl⟩:=Option.map_eq_some_iff.1 h;exact Fe (afO aL)
def uF (a b:Nat):Int×Bool:=
 match D.order a b with
 | some .lt=>(-1,ai)
 | some .gt=>(1,ai)
 | some .eq=>(0,ai)
 | none=>(0,ab)
def te (n d:Nat):Nat:=n/2^d+(au (2^d<2*(n%2^d))||(2^d==2*(n%2^d)&&n/2^d%2==1)).toNat
theorem afT (s:Bool) (n d:Nat):Toward.even.cut s n d=te n d:=by
 unfold Toward.cut te;simp only[mM,fW];rcases eh d (n.log2+2)with h | h
 ·rw[h2 (by omega)]
 ·rw[EA h];have aa:n<2^(n.log2+1):=oM;have ae:2^(n.log2+2)=2*2^(n.log2+1):=by rw[ei,dx]
  have aJ:2^(n.log2+2)≤2^d:=dB (by omega) h;generalize 2^(n.log2+2)=A at *;generalize 2^(n.log2+1)=B at *;generalize 2^d=C at *;rw[nu (show n<A by omega),nu (show n<C by omega),eF (show n<A by omega),eF (show n<C by omega)];have aH:au (A<2*n)=ab:=by simp;omega
  have aT:au (C<2*n)=ab:=by simp;omega
  rw[aH,aT];simp
theorem zJ (n d k:Nat):te (n*2^k) (d+k)=te n d:=by
 unfold te;have aA:0<2^k:=ez k;rw[cm,vG _ _ aA,IM];generalize aF:n%2^d=r;generalize aE:n/2^d=q;generalize 2^d=C;generalize 2^k=K at aA;have aH:(C*K<2*(r*K))↔C<2*r:=by rw[←cE];exact BD aA
 have aT:(C*K=2*(r*K))↔C=2*r:=by rw[←cE];exact⟨fun h=>D8 aA h,fun h=>by rw[h]⟩
 have b8:(C*K==2*(r*K))=(C==2*r):=by rw[mg];simp[aT]
 rw[b8];simp only[aH]
theorem tf (n:Nat):te n 0=n:=by
 unfold te;simp[JB]
theorem xG {m:Nat} (h:m≠0) (k:Nat):(m*2^k).log2=m.log2+k:=by
 have aa:=sa h;have ae:m<2^(m.log2+1):=oM;have aA:0<2^k:=ez k;have dT:m*2^k≠0:=Od h (by omega);refine Oe ?_ ?_
 ·have:m*2^k<2^(m.log2+k+1):=by
   rw[show m.log2+k+1=(m.log2+1)+k by omega,cm];exact jG ae aA
  have:=(nX dT).2 this;omega
 ·refine (uC dT).2 ?_;rw[cm];exact fD _ aa
def nw (m:Nat) (i:Int):Int:=max (i+m.log2-52) (-1074)
theorem B6 (s:Bool) {m:Nat} (h:m≠0) (i:Int):D.nearest s m i=D.word s (min ((nw m i+1074).toNat*4503599627370496+te (m*2^(i-nw m i).toNat) (nw m i-i).toNat) 9218868437227405312):=by
 unfold Format.nearest;rw[aU h];simp only[afT,mM];rfl
theorem JT (s:Bool) (m k:Nat) (i:Int):D.nearest s (m*2^k) i=D.nearest s m (i+k):=by
 rcases kd m with h | h
 ·subst h;simp[Format.nearest]
 have hm:m≠0:=by omega
 have aA:0<2^k:=ez k;have xH:m*2^k≠0:=Od hm (by omega);rw[B6 s xH,B6 s hm];have ao:nw (m*2^k) i=nw m (i+k):=by unfold nw;rw[xG hm];push_cast;congr 1;omega
 rw[ao];generalize nw m (i+k)=l;congr 3;rcases xA i l with aa | aa
 ·rcases xA (i+k) l with ae | ae
  ·have aH:(i-l).toNat=0:=by omega
   have aT:(i+k-l).toNat=0:=by omega
   have b8:(l-i).toNat=(l-(i+k)).toNat+k:=by omega
   rw[aH,aT,b8,hn,fI,fI,zJ]
  ·have aH:(i-l).toNat=0:=by omega
   have aT:(l-(i+k)).toNat=0:=by omega
   have b8:k=(i+k-l).toNat+(l-i).toNat:=by omega
   rw[aH,aT,hn,fI,tf];generalize (i+k-l).toNat=x at *;generalize (l-i).toNat=y at *;subst b8;rw[cm,←cE];have:=zJ (m*2^x) 0 y;rw[hc] at this;rw[this,tf]
 ·have aH:(l-i).toNat=0:=by omega
  have aT:(l-(i+k)).toNat=0:=by omega
  have b8:(i+k-l).toNat=k+(i-l).toNat:=by omega
  rw[aH,aT,b8,tf,tf,cm,cE]
theorem PR (s:Bool) {m:Nat} {i:Int} (aV:-1074≤i) (h:m<9007199254740992) (aB:4503599627370496≤m∨i = -1074) (je:i≤971):D.nearest s m i=D.word s ((i+1074).toNat*4503599627370496+m):=by
 rcases kd m with ar | ar
 ·subst ar;have:i = -1074:=by omega
  subst this;unfold Format.nearest;rw[ba rfl];congr 1
 have hm:m≠0:=by omega
 rw[B6 s hm];have ao:nw m i=i:=by
  unfold nw;have ae:m.log2<53:=(nX hm).2 (by simpa using h);rcases aB with aB | aB
  ·have aa:52≤m.log2:=(uC hm).2 (by simpa using aB);omega
  ·omega
 rw[ao,Int.sub_self];simp only[Int.toNat_zero,hn,fI,tf];congr 1;refine h2 ?_;have aJ:(i+1074).toNat*4503599627370496≤9209861237972664320:=by
  have bQ:(i+1074).toNat≤2045:=by omega
  generalize (i+1074).toNat=z at bQ ⊢;omega
 clear aV je aB ao;generalize (i+1074).toNat*4503599627370496=z at aJ ⊢;omega
theorem PS {a:Nat} (h:a<18446744073709551616):D.word (a/9223372036854775808%2==1) (a%9223372036854775808)=a:=by
 unfold Format.word;have:D.signWeight=9223372036854775808:=by decide
 rw[this];by_cases aa:a<9223372036854775808
 ·have:a/9223372036854775808%2=0:=by omega
  rw[this];simp;omega
 ·have:a/9223372036854775808%2=1:=by omega
  rw[this];simp;omega
theorem afU {a:Nat} (h:a<18446744073709551616) (aB:dC a=ab):D.write (D.read a)=a:=by
 have iE:¬ 9218868437227405312<a%9223372036854775808:=by simpa[dC] using aB
 refine Eq.trans ?_ (PS h);rw[jK];generalize (a/9223372036854775808%2==1)=s;generalize a%9223372036854775808=r at *;split
 ·refine (PR s (by omega) (by omega) (.inr rfl) (by omega)).trans ?_;congr 1;simp
 ·split
  ·refine (PR s (by omega) (by omega) (.inl (by omega)) (by omega)).trans ?_;congr 1;omega
  ·split
   ·rename_i e;rw[e];rfl
   ·omega
def xI (a:Nat):Option Int:=
 if a%9223372036854775808=0∨9218868437227405312≤a%9223372036854775808 then none
 else if a%9223372036854775808/4503599627370496=0 then U (((a%9223372036854775808).log2:Nat)-1074:Int)
 else U ((a%9223372036854775808/4503599627370496:Nat)-1023:Int)
def scaled (k:Int):Datum→Datum
 | .number s m i=>.number s m (i+k)
 | d=>d
def lr (a:Nat) (k:Int):Nat:=if dC a then a else D.write (scaled k (D.read a))
def PT (k:Int):Int:=max (min k 3000) (-3000)
def PU (a:Nat) (k:Int):Nat:=told (lr a (PT k))
theorem oX (s:Bool) {r:Nat} (h:r<9223372036854775808):D.word s r%9223372036854775808=r∧(D.word s r/9223372036854775808%2==1)=s∧D.word s r<18446744073709551616:=by
 unfold Format.word;have:D.signWeight=9223372036854775808:=by decide
 rw[this];cases s
 ·refine⟨by simp;omega,?_,by simp;omega⟩;have:r/9223372036854775808%2=0:=by omega
  simp[this]
 ·refine⟨by simp;omega,?_,by simp;omega⟩;have:(9223372036854775808+r)/9223372036854775808%2=1:=by omega
  rw[ba rfl,this];rfl
theorem afV (s:Bool) {m:Nat} {x:Int} (aa:4503599627370496≤m) (ae:m<9007199254740992) (hx:x < -1075):D.nearest s m (x-52)=D.word s 0:=by
 have hm:m≠0:=by omega
 have qg:m.log2=52:=by
  have b1:52≤m.log2:=(uC hm).2 (by simpa using aa);have a2:m.log2<53:=(nX hm).2 (by simpa using ae);omega
 have ao:nw m (x-52) = -1074:=by unfold nw;rw[qg];omega
 rw[B6 s hm,ao];have aH:(x-52 - -1074).toNat=0:=by omega
 have aT:∃k,(-1074-(x-52)).toNat=54+k:=⟨(-1074-(x-52)).toNat-54,by omega⟩;obtain⟨k,aT⟩:=aT;rw[aH,aT,hn,fI];have hp:18014398509481984≤2^(54+k):=by
  have:=dB (n:=2) (by omega) (show 54≤54+k by omega);simpa using this
 have aX:te m (54+k)=0:=by
  unfold te;generalize 2^(54+k)=C at hp ⊢;rw[nu (by omega),eF (by omega)];have:au (C<2*m)=ab:=by simp;omega
  rw[this];simp
 rw[aX];rfl
theorem afW (s:Bool) {m:Nat} {x:Int} (aa:4503599627370496≤m) (ae:m<9007199254740992) (hx:1023<x):D.nearest s m (x-52)=D.word s 9218868437227405312:=by
 have hm:m≠0:=by omega
 have qg:m.log2=52:=by
  have b1:52≤m.log2:=(uC hm).2 (by simpa using aa);have a2:m.log2<53:=(nX hm).2 (by simpa using ae);omega
 have ao:nw m (x-52)=x-52:=by unfold nw;rw[qg];omega
 rw[B6 s hm,ao,Int.sub_self];simp only[Int.toNat_zero,hn,fI,tf];congr 1;refine EA ?_;have aX:2046≤(x-52+1074).toNat:=by omega
 generalize (x-52+1074).toNat=z at aX ⊢;clear ao qg;omega
theorem B7 (s:Bool) {m z:Nat} (aa:4503599627370496≤m) (ae:m<9007199254740992) (aX:z≤2045):D.read (D.word s (z*4503599627370496+m))=.number s m (z-1074)∧D.word s (z*4503599627370496+m)<18446744073709551616∧dC (D.word s (z*4503599627370496+m))=ab:=by
 have bS:z*4503599627370496+m<9218868437227405312:=by omega
 obtain⟨cq,aP,cc⟩:=oX s (r:=z*4503599627370496+m) (by omega);have aE:(z*4503599627370496+m)/4503599627370496=z+1:=by clear cq aP cc bS;omega
 have B8:(z*4503599627370496+m)%4503599627370496=m-4503599627370496:=by clear cq aP cc bS aE;omega
 refine⟨?_,cc,Fc _ (by omega)⟩;rw[jK,cq,aP,aU (by omega),ba bS,aE,B8];have g1:4503599627370496+(m-4503599627370496)=m:=by omega
 have g2:-1074+((z+1-1:Nat):Int)=z-1074:=by omega
 rw[g1,g2]
theorem afX:D.read 4368491638549381120=.number ab 4503599627370496 (-105):=by rw[jK];decide +kernel
theorem afY:D.read 4607182418800017408=.number ab 4503599627370496 (-52):=by rw[jK];decide +kernel
theorem afZ:D.read 4841369599423283200=.number ab 4503599627370496 0:=by rw[jK];decide +kernel
theorem af0 (s:Bool) {m z:Nat} (aa:4503599627370496≤m) (ae:m<9007199254740992) (aX:z≤2045):D.mul 4368491638549381120 (D.word s (z*4503599627370496+m))=U (D.nearest s m (z-1127)):=by
 unfold Format.mul;rw[afX,(B7 s aa ae aX).1];show U (D.nearest (ab ^^ s) (4503599627370496*m) (-105+(z-1074)))=_;have e:(4503599627370496:Nat)*m=m*2^52:=by rw[dx]
 rw[e,JT,Bool.false_xor];congr 2;omega
theorem mul_one (s:Bool) {m z:Nat} (aa:4503599627370496≤m) (ae:m<9007199254740992) (aX:z≤2045):D.mul 4607182418800017408 (D.word s (z*4503599627370496+m))=U (D.nearest s m (z-1074)):=by
 unfold Format.mul;rw[afY,(B7 s aa ae aX).1];show U (D.nearest (ab ^^ s) (4503599627370496*m) (-52+(z-1074)))=_;have e:(4503599627370496:Nat)*m=m*2^52:=by rw[dx]
 rw[e,JT,Bool.false_xor];congr 2;omega
theorem af1 (s:Bool) (m:Nat) {a:Nat} (i:Int) (h:D.read a=.number s m i):D.mul a 4841369599423283200=U (D.nearest s m (i+52)):=by
 unfold Format.mul;rw[afZ,h];show U (D.nearest (s ^^ ab) (m*4503599627370496) (i+0))=_;have e:m*(4503599627370496:Nat)=m*2^52:=rfl;rw[e,JT,Oo];congr 2;omega
theorem af2 {r:Nat} (ar:r≠0) (aa:r<4503599627370496):r.log2≤51∧4503599627370496≤r*2^(52-r.log2)∧r*2^(52-r.log2)<9007199254740992∧(∀s i,D.nearest s r i=D.nearest s (r*2^(52-r.log2)) (i-(52-r.log2:Nat))):=by
 have ao:r.log2<52:=(nX ar).2 (by simpa using aa);have ae:=sa ar;have aJ:r<2^(r.log2+1):=oM;refine⟨by omega,?_,?_,fun s i=>?_⟩
 ·have:2^r.log2*2^(52-r.log2)≤r*2^(52-r.log2):=fD _ ae;rw[←cm,show r.log2+(52-r.log2)=52 by omega] at this;simpa using this
 ·have:r*2^(52-r.log2)<2^(r.log2+1)*2^(52-r.log2):=jG aJ (ez _);rw[←cm,show r.log2+1+(52-r.log2)=53 by omega] at this;simpa using this
 ·rw[JT];congr 1;omega
end Go.Proofs.YtkhphoonnkoipaaGreatDoor.av
namespace Go.Proofs.YtkhphoonnkoipaaGreatDoor
theorem jf {k:IntKind} {a b:Int} (h:a=b):Ending.returned (.int k a)=.returned (.int k b):=by rw[h]
theorem xJ {a b:Bool} (h:a=b):Ending.returned (.bool a)=.returned (.bool b):=by rw[h]
theorem PV {a b:Nat} (h:a=b):Ending.returned (.float .f64 a)=.returned (.float .f64 b):=by rw[h]
theorem B9 (n:Int) (w:af):(callFunc 134 #[.int .u64 n]).run ak w=.ok (.value (.float .f64 n.toNat)) w:=by
 rw[zg func134 (by kernel_rfl) (by kernel_rfl) (by kernel_rfl) (show Extern.find _=U Extern.MathFloatBits.float64frombits by kernel_rfl)];rfl
theorem B' (n:Nat) (w:af):(callFunc 141 #[.float .f64 n]).run ak w=.ok (.value (.int .u64 n)) w:=by
 rw[zg func141 (by kernel_rfl) (by kernel_rfl) (by kernel_rfl) (show Extern.find _=U Extern.MathFloatBits.float64bits by kernel_rfl)];rfl
theorem h3 (a:Nat) (w:af):aq ak 72 #[.int .u64 a] w fun e w'=>e=.returned (.float .f64 a)∧w=w':=by
 have aa:=B9;go_enter func72,ntmps72;go_wp2;go_ret;exact⟨rfl,rfl⟩
namespace av
theorem Ca (a:Nat):FloatKind.f64.format.order a a=if dC a then none else U .eq:=by
 show D.order a a=_;cases h:dC a
 ·rw[td h h,cmp_eq];rfl
 ·rw[PN a h];rfl
end av
theorem nx (a:Nat) (w:af):aq ak 82 #[.float .f64 a] w fun e w'=>e=.returned (.int .u64 (av.told a))∧w=w':=by
 have aa:=B';have H:=I (av.Ca a);cases aB:av.dC a
 ·have b6:FloatKind.f64.format.order a a=U .eq:=by rw[H.out,aB];rfl
  have bc:=I (show av.told a=a by unfold av.told;rw[aB];rfl);clear aB;go_enter func82,ntmps82;go_wp2;go_ret;exact⟨jf (by rw[bc.out]),rfl⟩
 ·have b6:FloatKind.f64.format.order a a=none:=by rw[H.out,aB];rfl
  have bc:=I (show av.told a=9221120237041090560 by unfold av.told;rw[aB];rfl);clear aB;go_enter func82,ntmps82;go_wp2;go_ret;exact⟨jf (by rw[bc.out];rfl),rfl⟩
namespace av
theorem Wg (a b t:Nat):dC ((Question.nanBits .f64 a b).cut t)=ai:=by
 unfold dC Question.cut;simp only[NW];have aa:t/2%(2^52-1)<2^52-1:=eW _ (by decide);have ae:(2:Nat)^52=4503599627370496:=by decide
 have aJ:(2:Nat)^63=9223372036854775808:=by decide
 rw[ae] at aa ⊢;rw[aJ];generalize t/2%(4503599627370496-1)=u at aa ⊢;omega
theorem Ff {q:Nat} (h:dC q=ai):told q=JS:=by unfold told;rw[h];rfl
end av
theorem JU (op:BinOp) (a b:Nat) (w:af) (P:Program) (h:floatBits op .f64 a b=none) (b6:op=.add∨op=.sub∨op=.mul∨op=.quo):∃q,av.dC q=ai∧∀t,(binOp op t (.float .f64 a) (.float .f64 b)).run P w=.ok (.float .f64 q) w.drew:=by
 refine⟨_,av.Wg a b (w.tape w.drawn (.nanBits .f64 a b)),fun t=>?_⟩;unfold floatBits at h;rcases b6 with rfl | rfl | rfl | rfl<;>simp only at h<;>simp[binOp,Op.floatArith,h,Question.forced]
namespace av
theorem af3 {a b r:Nat} (h:D.add a b=U r):told r=E9 a b:=by
 unfold told E9;rw[afP h,h];rfl
end av
theorem af4 (a b:Nat) (w:af):aq ak 83 #[.int .u64 a,.int .u64 b] w fun e w'=>e=.returned (.int .u64 (av.E9 a b))∧Below w.heap.size w w':=by
 cases h:av.D.add a b with
 | some r=>
   have ae:=fun (t:TypeId) (w:af)=>sc (P:=ak) w .add t .f64 a b r h;have bc:=I (av.af3 h);clear h;go_enter func83,ntmps83;go_wp2_with ((refine (h3 _ _).mono ?_;rintro e w' ⟨rfl,rfl⟩));refine (nx _ _).mono ?_;rintro e w' ⟨rfl,rfl⟩;go_wp2;go_ret;exact⟨jf (by rw[bc.out]),aK _ _⟩
 | none=>
   obtain⟨q,aE,ae⟩:=JU .add a b w ak h (by simp);have bc:=I (show av.told q=av.E9 a b by rw[av.Ff aE];unfold av.E9;rw[h];rfl);clear h aE;go_enter func83,ntmps83;go_wp2_with ((refine (h3 _ _).mono ?_;rintro e w' ⟨rfl,rfl⟩));refine (nx _ _).mono ?_;rintro e w' ⟨rfl,rfl⟩;go_wp2;go_ret;exact⟨jf (by rw[bc.out]),(aK _ _).drew⟩
namespace av
theorem af5 {a b r:Nat} (h:D.sub a b=U r):told r=E' a b:=by
 unfold told E';rw[afQ h,h];rfl
end av
namespace av
theorem af6 {a b r:Nat} (h:D.mul a b=U r):told r=Fa a b:=by
 unfold told Fa;rw[PQ h,h];rfl
end av
namespace av
theorem af7 {a b r:Nat} (h:D.div a b=U r):told r=fdiv a b:=by
 unfold told fdiv;rw[afR h,h];rfl
end av
theorem JV (a:Nat) (w:af):(Op.unary .neg (.float .f64 a)).run ak w=.ok (.float .f64 (a ^^^ 9223372036854775808)) w:=rfl
end Go.Proofs.YtkhphoonnkoipaaGreatDoor
namespace Go.Proofs.YtkhphoonnkoipaaGreatDoor.av
open Ieee
def e8 (p q:Nat):Nat:=p/q+(au (q<2*(p%q))||(q==2*(p%q)&&p/q%2==1)).toNat
def er (p q:Nat):Nat:=min (((p/q).log2-52)*4503599627370496+e8 p (q*2^((p/q).log2-52))) 9218868437227405312
theorem KZ (n d:Nat):e8 n (2^d)=te n d:=rfl
theorem CX (p q:Nat) {c:Nat} (an:0<c):e8 (p*c) (q*c)=e8 p q:=by
 unfold e8;rw[vG _ _ an,IM];generalize p%q=r;generalize p/q=f;have aH:(q*c<2*(r*c))↔q<2*r:=by rw[←cE];exact BD an
 have aT:(q*c=2*(r*c))↔q=2*r:=by rw[←cE];exact⟨fun h=>D8 an h,fun h=>by rw[h]⟩
 have b8:(q*c==2*(r*c))=(q==2*r):=by rw[mg];simp[aT]
 rw[b8];simp only[aH]
theorem CY (p q:Nat) {c:Nat} (an:0<c):er (p*c) (q*c)=er p q:=by
 unfold er;rw[vG _ _ an,s4 q c,CX _ _ an]
theorem RI (B y:Nat):(B/2^y).log2=B.log2-y:=by
 have aW:0<2^y:=ez y;by_cases h:B<2^y
 ·rw[nu h];by_cases ar:B=0
  ·subst ar;simp
  ·have:=(nX ar).2 h;simp;omega
 ·have az:B≠0:=by omega
  have aE:B/2^y≠0:=by
   have:=Nat.div_pos (I5 h) aW;omega
  have ao:y≤B.log2:=(uC az).2 (I5 h);have aa:=sa az;have ae:B<2^(B.log2+1):=oM;obtain⟨k,aA⟩:∃k,B.log2=k+y:=⟨B.log2-y,by omega⟩;rw[aA] at aa ae ⊢;rw[show k+y-y=k by omega];refine Oe ?_ ?_
  ·have aJ:B/2^y<2^(k+1):=by
    rw[kQ aW,←cm];rw[show k+1+y=k+y+1 by omega];exact ae
   have:=(nX aE).2 aJ;omega
  ·refine (uC aE).2 ?_;rw[kP aW,←cm];exact aa
theorem Gx {n l:Nat} (aa:2^l≤n) (ae:n<2^(l+1)):n.log2=l:=by
 have ar:n≠0:=by have:=ez l;omega
 have a:=(uC ar).2 aa;have b:=(nX ar).2 ae;omega
theorem Au (s:Bool) (m:Nat) (i:Int):D.nearest s m i=D.word s (er (m*2^(i+1074).toNat) (2^(-(i+1074)).toNat)):=by
 by_cases h:m=0
 ·subst h;unfold Format.nearest er e8;simp
 rw[B6 s h];have qg:(m*2^(i+1074).toNat).log2=m.log2+(i+1074).toNat:=xG h _;unfold er;rw[RI,qg,←cm,KZ];have ao:(nw m i+1074).toNat=m.log2+(i+1074).toNat-(-(i+1074)).toNat-52:=by unfold nw;omega
 rw[←ao];congr 3;have ad:-1074≤nw m i:=by unfold nw;omega
 generalize nw m i=l at ad;rcases xA i l with aa | aa
 ·have aH:(i-l).toNat=0:=by omega
  rw[aH,hn,fI];have aT:(-(i+1074)).toNat+(l+1074).toNat=(l-i).toNat+(i+1074).toNat:=by omega
  rw[aT,zJ]
 ·have aH:(l-i).toNat=0:=by omega
  have aT:(-(i+1074)).toNat=0:=by omega
  have b8:(i+1074).toNat=(i-l).toNat+(l+1074).toNat:=by omega
  rw[aH,aT,tf,b8,cm,←cE];have:=zJ (m*2^(i-l).toNat) 0 (l+1074).toNat;rw[this,tf]
def my (p q:Nat):Nat:=2*(p/q)+(p%q != 0).toNat
theorem ajJ (p q g:Nat) (aE:0<q):e8 p (q*2^(g+1))=e8 (my p q) (2^(g+2)):=by
 have aY:0<2^g:=ez g;have aF:p%q<q:=eW _ aE;have aa:p/(q*2^(g+1))=p/q/2^(g+1):=by rw[hE]
 have ae:p%(q*2^(g+1))=p%q+q*(p/q%2^(g+1)):=by rw[E6]
 have aT:2^(g+2)=2*2^(g+1):=by rw[ei 2 (g+1),dx]
 have aH:2^(g+1)=2*2^g:=by rw[ei,dx]
 have a1:(p%q != 0).toNat≤1:=by cases (p%q != 0)<;>simp
 have aJ:my p q/2^(g+2)=p/q/2^(g+1):=by
  unfold my;rw[aT,←hE];congr 1;omega
 have bQ:my p q%2^(g+2)=2*(p/q%2^(g+1))+(p%q != 0).toNat:=by
  unfold my;rw[aT];have hm:=eW (p/q) (show 0<2^(g+1) by omega);have aL:=ky (p/q) (2^(g+1));generalize p/q%2^(g+1)=r at *;generalize p/q/2^(g+1)=f at *;rw[←aL];generalize 2^(g+1)=C at *;generalize (p%q != 0).toNat=t at *;rw[show 2*(C*f+r)+t=2*r+t+2*C*f by rw[fP,cE];omega,Eb,eF (by omega)]
 unfold e8;rw[aa,ae,aJ,bQ];congr 2;generalize p/q/2^(g+1)=f;generalize p/q%2^(g+1)=r;rw[aT,aH];generalize 2^g=G at *;have aG:(q*(2*G)<2*(p%q+q*r))↔(2*(2*G)<2*(2*r+(p%q != 0).toNat)):=by
  by_cases aX:p%q=0
  ·rw[aX];simp only[IZ,Ob,jd,hc];rw[show q*(2*G)=q*2*G by rw[cE],show 2*(q*r)=q*2*r by rw[←cE,dx 2 q]];constructor
   ·intro h;have:=Nq h;omega
   ·intro h;exact No (by omega) (by omega)
  ·rw[show (p%q != 0)=ai by simpa using aX];simp only[Bool.toNat_true];constructor
   ·intro h;have dm:q*(2*G)<q*(2*(r+1)):=by
     have:q*(2*(r+1))=2*(q+q*r):=by rw[←cE,dx q 2,cE,fP,fI,jv q]
     omega
    have:=Nq dm;omega
   ·intro h;have dm:q*(2*G)≤q*(2*r):=gp _ (by omega);have:q*(2*r)=2*(q*r):=by rw[←cE,dx q 2,cE]
    omega
 have bj:(q*(2*G)=2*(p%q+q*r))↔(2*(2*G)=2*(2*r+(p%q != 0).toNat)):=by
  by_cases aX:p%q=0
  ·rw[aX];simp only[IZ,Ob,jd,hc];rw[show q*(2*G)=q*2*G by rw[cE],show 2*(q*r)=q*2*r by rw[←cE,dx 2 q]];constructor
   ·intro h;have:=VX (by omega) h;omega
   ·intro h;have:G=r:=by omega
    rw[this]
  ·rw[show (p%q != 0)=ai by simpa using aX];simp only[Bool.toNat_true];constructor
   ·intro h;exfalso;have dm:q*G=p%q+q*r:=by
     have:q*(2*G)=2*(q*G):=by rw[←cE,dx q 2,cE]
     omega
    have ga:(p%q+q*r)%q=p%q:=by rw[Eb,Nat.mod_mod]
    rw[←dm,N7] at ga;omega
   ·intro h;omega
 have bq:(q*(2*G)==2*(p%q+q*r))=(2*(2*G)==2*(2*r+(p%q != 0).toNat)):=by rw[mg];simpa using bj
 rw[bq];congr 1;exact decide_eq_decide.2 aG
theorem Yb (a b x y:Nat) (ad:0<b) (be:9007199254740992≤a/b):er (a*2^(x+1)) (b*2^y)=er (my a b*2^x) (2^y):=by
 have hx:0<2^x:=ez x;have sC:a/b≠0:=by omega
 have awU:53≤(a/b).log2:=(uC sC).2 (by simpa using be);have a1:(a%b != 0).toNat≤1:=by cases (a%b != 0)<;>simp
 have ajK:my a b≠0:=by unfold my;omega
 have bY:=sa sC;have fA:a/b<2^((a/b).log2+1):=oM;have Av:(my a b).log2=(a/b).log2+1:=by
  refine Gx ?_ ?_
  ·rw[ei];unfold my;omega
  ·rw[ei];unfold my;omega
 have ym:(a*2^(x+1)/b).log2=(a/b).log2+(x+1):=by
  have aL:=ky a b;have aF:=eW a ad;refine Gx ?_ ?_
  ·rw[kP ad,cm];have:2^(a/b).log2*b≤a:=by
    refine cp (fD b bY) ?_;exact Ej a b
   rw[s4];exact fD _ this
  ·rw[kQ ad,show (a/b).log2+(x+1)+1=((a/b).log2+1)+(x+1) by omega,cm 2 ((a/b).log2+1) (x+1),s4];refine jG ?_ (ez _);exact (kQ ad).1 fA
 have f1:(a*2^(x+1)/(b*2^y)).log2-52=(a/b).log2+(x+1)-y-52:=by
  rw[←hE,RI,ym]
 have f2:(my a b*2^x/2^y).log2-52=(a/b).log2+(x+1)-y-52:=by
  rw[RI,xG ajK,Av];omega
 unfold er;rw[f1,f2];generalize he:(a/b).log2+(x+1)-y-52=e;congr 2;obtain⟨g,aY⟩:∃g,y+e=g+1+(x+1):=⟨y+e-(x+2),by omega⟩;rw[cE,←cm,aY,cm 2 (g+1) (x+1),←cE,CX _ _ (ez _),ajJ _ _ _ ad,show 2^(g+1)*2^(x+1)=2^(g+2)*2^x by rw[←cm,←cm];congr 1;omega,CX _ _ hx]
theorem Aw (p q:Nat):er p q≤9218868437227405312:=Ez _ _
structure mz (a:Nat) (V:Int):Prop where
 lt:a<18446744073709551616
 fin:a%9223372036854775808<9218868437227405312
 val:val (D.read a)=V
def Fits (n:Nat):Prop:=∃m u,n=m*2^u∧m<9007199254740992∧u≤2045
theorem mz.nan {a:Nat} {V:Int} (h:mz a V):dC a=ab:=by have:=h.fin;simp[dC];omega
theorem Yc {m u:Nat} (aa:m<9007199254740992) (ae:4503599627370496≤m∨u=0) (aJ:u≤2045):er (m*2^u) 1=u*4503599627370496+m:=by
 unfold er;have ao:(m*2^u/1).log2-52=u:=by
  rw[uD];by_cases ar:m=0
  ·have:u=0:=by omega
   subst ar this;decide
  ·rw[xG ar];have:=(nX ar).2 (show m<2^53 by simpa using aa);rcases ae with ae | ae
   ·have:=(uC ar).2 (show 2^52≤m by simpa using ae);omega
   ·omega
 rw[ao,fW,KZ];have:=zJ m 0 u;rw[hc] at this;rw[this,tf];refine h2 ?_;omega
theorem RJ (s:Bool) {m u:Nat} (aa:m<9007199254740992) (ae:4503599627370496≤m∨u=0) (aJ:u≤2045):D.read (D.word s (u*4503599627370496+m))=.number s m (u-1074):=by
 obtain⟨cq,aP,cc⟩:=oX s (r:=u*4503599627370496+m) (by omega);rw[jK,cq,aP];by_cases bQ:u*4503599627370496+m<4503599627370496
 ·have:u=0:=by omega
  subst this;rw[ba bQ];simp
 ·have dm:4503599627370496≤m:=by rcases ae with ae | ae<;>omega
  rw[aU bQ,ba (by omega)];have aH:(u*4503599627370496+m)/4503599627370496=u+1:=by omega
  have aT:(u*4503599627370496+m)%4503599627370496=m-4503599627370496:=by omega
  have b8:4503599627370496+(m-4503599627370496)=m:=by omega
  have eb:(-1074:Int)+((u+1-1:Nat):Int)=(u:Int)-1074:=by omega
  rw[aH,aT,b8,eb]
theorem Yd {m u:Nat} (aa:m<9007199254740992) (aJ:u≤2045):∃M bo,M*2^bo=m*2^u∧M<9007199254740992∧(4503599627370496≤M∨bo=0)∧bo≤2045:=by
 by_cases ar:m=0
 ·exact⟨0,0,by simp[ar],by omega,.inr rfl,by omega⟩
 have ao:=(nX ar).2 (show m<2^53 by simpa using aa);have bY:=sa ar;have fA:m<2^(m.log2+1):=oM;rcases eh u (52-m.log2)with h | h
 ·refine⟨m*2^u,0,by simp,?_,.inr rfl,by omega⟩;have:m*2^u<2^(m.log2+1)*2^u:=jG fA (ez u);rw[←cm] at this;have bQ:2^(m.log2+1+u)≤2^53:=dB (by omega) (by omega);have dm:(2:Nat)^53=9007199254740992:=by decide
  omega
 ·obtain⟨k,aA⟩:∃k,m.log2+k=52:=⟨52-m.log2,by omega⟩;refine⟨m*2^k,u-k,?_,?_,.inl ?_,by omega⟩
  ·rw[cE,←cm];congr 2;omega
  ·have:m*2^k<2^(m.log2+1)*2^k:=jG fA (ez k);rw[←cm,show m.log2+1+k=53 by omega] at this;simpa using this
  ·have:2^m.log2*2^k≤m*2^k:=fD _ bY;rw[←cm,aA] at this;simpa using this
theorem Gy (s:Bool) {n p q:Nat} (aE:0<q) (hp:p=n*q) (h:Fits n):mz (D.word s (er p q)) (if s then -(n:Int) else n):=by
 obtain⟨m,u,rfl,aa,ae⟩:=h;obtain⟨M,bo,e,aG,bj,bq⟩:=Yd aa ae;have aF:er p q=bo*4503599627370496+M:=by
  rw[hp,←e];have:=CY (M*2^bo) 1 aE;rw[fW] at this;rw[this];exact Yc aG bj bq
 rw[aF];obtain⟨cq,aP,cc⟩:=oX s (r:=bo*4503599627370496+M) (by omega);refine⟨cc,by rw[cq];omega,?_⟩;rw[RJ s aG bj bq];simp only[val,Ieee.signed];rw[show ((bo:Int)-1074+1074).toNat=bo by omega,mM,e]
end Go.Proofs.YtkhphoonnkoipaaGreatDoor.av
namespace Go.Proofs.YtkhphoonnkoipaaGreatDoor.av
theorem MM {p q n:Nat} (aE:0<q) (lo:(2*n)*q<2*p+q∨((2*n)*q=2*p+q∧n%2=0)) (aV:2*p<(2*n+1)*q∨(2*p=(2*n+1)*q∧n%2=0)):e8 p q=n:=by
 have e:=ky p q;have aF:=eW p aE;unfold e8;generalize p/q=f at e ⊢;generalize p%q=r at e aF ⊢;rw[ff,fW] at aV;have aH:2*n*q=2*(n*q):=cE _ _ _;have aT:q*f=f*q:=dx _ _;rw[aH] at lo aV;rw[aT] at e;have aa:f≤n:=by
  rcases eh n f with h | h
  ·exfalso;have:(n+1)*q≤f*q:=fD q h;rw[ff,fW] at this;rcases aV with aV | aV<;>omega
  ·exact h
 have ae:n≤f+1:=by
  rcases eh (f+1) n with h | h
  ·exfalso;have:(f+2)*q≤n*q:=fD q h;rw[ff] at this;rcases lo with lo | lo<;>omega
  ·exact h
 rcases Nat.eq_or_lt_of_le aa with h | h
 ·subst h;have:(au (q<2*r)||(q==2*r&&f%2==1))=ab:=by
   rw[IQ];constructor
   ·rw[ux];rcases aV with aV | aV<;>omega
   ·rw[BB];rcases aV with aV | aV
    ·left;rw[cH];omega
    ·right;rw[cH];omega
  rw[this];rfl
 ·have aB:n=f+1:=by omega
  subst aB;rw[ff,fW] at lo;have:(au (q<2*r)||(q==2*r&&f%2==1))=ai:=by
   rw[Bool.or_eq_true_iff];rcases lo with lo | lo
   ·left;rw[ij];omega
   ·right;rw[Bool.and_eq_true_iff,gy,gy];omega
  rw[this];rfl
end Go.Proofs.YtkhphoonnkoipaaGreatDoor.av
namespace Go.Proofs.YtkhphoonnkoipaaGreatDoor.av
open Ieee
theorem acF:∃n:Nat,n=1074:=⟨_,rfl⟩
noncomputable def bR:Nat:=Classical.choose acF
theorem oE:bR=1074:=IN acF
def cy (a:Nat):Bool:=a/9223372036854775808%2==1
def V (a:Nat):Int:=val (D.read a)
theorem HN (s:Bool) (m u:Nat):Ieee.signed s m u=if s then -((m*2^u:Nat):Int) else ((m*2^u:Nat):Int):=by
 unfold Ieee.signed;rw[mM]
theorem acG (s:Bool) (m u:Nat):(Ieee.signed s m u).natAbs=m*2^u:=by
 rw[HN];split<;>omega
theorem vr {a:Nat} (h:a%9223372036854775808<9218868437227405312) :
 ∃m i,D.read a=.number (cy a) m i∧m<9007199254740992∧-1074≤i∧i≤971∧V a=Ieee.signed (cy a) m (i+1074).toNat∧(V a).natAbs=m*2^(i+1074).toNat:=by
 have aY:=JQ (a:=a) (by simp[dC];omega);have aF:=jK a;by_cases aa:a%9223372036854775808<4503599627370496
 ·rw[ba aa] at aF;refine⟨_,_,aF,by omega,by omega,by omega,?_,?_⟩
  ·unfold V;rw[aF];rfl
  ·unfold V;rw[aF];exact acG _ _ _
 ·rw[aU aa,ba h] at aF;rw[aF] at aY;obtain⟨g1,g2,g3⟩:=aY;refine⟨_,_,aF,g3,g1,g2,?_,?_⟩
  ·unfold V;rw[aF];rfl
  ·unfold V;rw[aF];exact acG _ _ _
theorem acH {a:Nat} (h:a%9223372036854775808<9218868437227405312):V a=if cy a then -((V a).natAbs:Int) else (V a).natAbs:=by
 obtain⟨m,i,_,_,_,_,aD,aS⟩:=vr h;rw[aS,←HN,aD]
theorem acI (s:Bool) {r:Nat} (h:r<9223372036854775808):cy (D.word s r)=s:=(oX s h).2.1
theorem Ub (m q:Nat) {x y hr lE:Nat} (h:x+lE=hr+y):er (m*2^x) (q*2^y)=er (m*2^hr) (q*2^lE):=by
 rw[←CY (m*2^x) (q*2^y) (ez lE),←CY (m*2^hr) (q*2^lE) (ez y)];rw[cE,cE,cE,cE,←cm,←cm,←cm,←cm,h,jv y lE]
theorem acJ {s:Bool} {r ix:Nat} (h:r=ix):U (D.word s r)=U (D.word s ix):=by rw[h]
theorem aoW {s t:Bool} {m n:Nat} {i j:Int} (aV:-1074≤i) (bP:-1074≤j) :
 ∃r b,Datum.sum (.number s m i) (.number t n j)=U (.number r b (min i j))∧D.nearest r b (min i j)=D.word (if Ieee.signed s m (i+1074).toNat+Ieee.signed t n (j+1074).toNat=0 then s&&t else au (Ieee.signed s m (i+1074).toNat+Ieee.signed t n (j+1074).toNat<0)) (er (Ieee.signed s m (i+1074).toNat+Ieee.signed t n (j+1074).toNat).natAbs 1):=by
 refine⟨_,_,rfl,?_⟩;obtain⟨k,aA⟩:∃k:Nat,min i j=(k:Int)-1074:=⟨(min i j+1074).toNat,by omega⟩;have aH:Ieee.signed s m (i+1074).toNat=Ieee.signed s m (i-min i j).toNat*(2^k:Nat):=by rw[JR];congr 1;omega
 have aT:Ieee.signed t n (j+1074).toNat=Ieee.signed t n (j-min i j).toNat*(2^k:Nat):=by rw[JR];congr 1;omega
 rw[aH,aT,←Int.add_mul];generalize Ieee.signed s m (i-min i j).toNat+Ieee.signed t n (j-min i j).toNat=T;have hp:(0:Int)<(2^k:Nat):=by have:=ez k;omega
 have c1:(T*(2^k:Nat)=0)↔T=0:=by
  constructor
  ·intro h;rcases Int.mul_eq_zero.1 h with h | h<;>omega
  ·intro h;rw[h,Int.zero_mul]
 have c2:(T*(2^k:Nat)<0)↔T<0:=by
  constructor
  ·intro h;rcases xA T 0 with aa | aa
   ·exact aa
   ·have:=EM aa (Jj hp);omega
  ·intro h;exact Nr h hp
 rw[Au,Jb,aA];simp only[c1,c2];rw[show ((k:Int)-1074+1074).toNat=k by omega,show (-((k:Int)-1074+1074)).toNat=0 by omega,hn,Es]
theorem aoX {a b:Nat} (aS:a%9223372036854775808<9218868437227405312) (ad:b%9223372036854775808<9218868437227405312) :
 D.sub a b=U (D.word (if V a-V b=0 then cy a && !cy b else au (V a-V b<0)) (er (V a-V b).natAbs 1)):=by
 obtain⟨m,i,aF,_,aV,_,aD,_⟩:=vr aS;obtain⟨n,j,iW,_,bP,_,Mm,_⟩:=vr ad;obtain⟨r,B,aa,ae⟩:=aoW (s:=cy a) (t:=!cy b) (m:=m) (n:=n) aV bP;unfold Format.sub;rw[aF,iW];simp only[Datum.opposite];rw[aa,aD,Mm,NU,←Wc,←ae];rfl
theorem aoY {a b:Nat} (aS:a%9223372036854775808<9218868437227405312) (ad:b%9223372036854775808<9218868437227405312) :
 D.mul a b=U (D.word (cy a ^^ cy b) (er ((V a).natAbs*(V b).natAbs) (2^bR))):=by
 obtain⟨m,i,aF,_,aV,_,aD,be⟩:=vr aS;obtain⟨n,j,iW,_,bP,_,Mm,Uc⟩:=vr ad;unfold Format.mul;rw[aF,iW,be,Uc];simp only[Datum.product,BL,Format.write];rw[Au];refine acJ ?_;have aH:m*2^(i+1074).toNat*(n*2^(j+1074).toNat)=m*n*2^((i+1074).toNat+(j+1074).toNat):=by
  rw[cm];ac_rfl
 have ef:=oE;rw[aH,←fW (2^(-(i+j+1074)).toNat),←fW (2^bR)];exact Ub _ _ (by omega)
theorem aoZ (q:Nat):my 0 q=0:=by unfold my;simp
theorem Ud (q:Nat):er 0 q=0:=by unfold er e8;simp
theorem ao0 {a b:Nat} (aS:a%9223372036854775808<9218868437227405312) (ad:b%9223372036854775808<9218868437227405312) (ar:V b≠0) :
 D.div a b=U (D.word (cy a ^^ cy b) (er ((V a).natAbs*2^bR) (V b).natAbs)):=by
 obtain⟨m,i,aF,hm,aV,_,aD,be⟩:=vr aS;obtain⟨n,j,iW,aB,bP,_,Mm,Uc⟩:=vr ad;have kh:n≠0:=by
  intro h;subst h;apply ar;rw[Mm,HN];simp
 unfold Format.div;rw[aF,iW,be,Uc];simp only[Datum.quotient,aU kh,BL,Format.write];have ao1:2*(m <<< (D.fractionBits+2+n.log2-m.log2)/n)+(m <<< (D.fractionBits+2+n.log2-m.log2)%n != 0).toNat=my (m*2^(54+n.log2-m.log2)) n:=by
  unfold my;rw[mM];rfl
 rw[ao1,show D.fractionBits+2+n.log2-m.log2=54+n.log2-m.log2 from rfl,Au];refine acJ ?_;by_cases iu:m=0
 ·subst iu;simp only[vN,aoZ,Ud]
 have ao:=(nX iu).2 (show m<2^53 by simpa using hm);obtain⟨k,aA⟩:∃k,54+n.log2-m.log2=k:=⟨_,rfl⟩;rw[aA];have fh:m.log2+k=54+n.log2:=by omega
 have bY:=sa iu;have fA:n<2^(n.log2+1):=oM;have jO:9007199254740992≤m*2^k/n:=by
  rw[kP (by omega)];have bD:2^m.log2*2^k≤m*2^k:=fD _ bY;rw[←cm,fh,show 54+n.log2=53+(n.log2+1) by omega,cm] at bD;have cX:2^53*n≤2^53*2^(n.log2+1):=gp _ (by omega);have dU:(2:Nat)^53=9007199254740992:=by decide
  rw[dU] at bD cX;exact cp cX bD
 obtain⟨x,y,Kw⟩:∃x y:Nat,(x:Int)-y=i-j-k-1+1074:=⟨(i-j-k-1+1074).toNat,(-(i-j-k-1+1074)).toNat,by omega⟩;have aH:er (my (m*2^k) n*2^(i-j-k-1+1074).toNat) (2^(-(i-j-k-1+1074)).toNat)=er (my (m*2^k) n*2^x) (2^y):=by
  rw[←fW (2^(-(i-j-k-1+1074)).toNat),←fW (2^y)];exact Ub _ _ (by omega)
 have ef:=oE;rw[aH,←Yb _ _ _ _ (by omega) jO,cE,cE,←cm,←cm];exact Ub _ _ (by omega)
theorem pk {a:Nat} {x:Int} (h:mz a x):V a=x:=h.val
theorem mz.of_eq {a:Nat} {x y:Int} (h:mz a x) (e:x=y):mz a y:=e ▸ h
def j9 (n:Int):Nat:=D.nearest (au (n<0)) n.natAbs 0
theorem Ue (n:Int):j9 n=D.word (au (n<0)) (er (n.natAbs*2^bR) 1):=by
 unfold j9;have ef:=oE;rw[Au,show ((0:Int)+1074).toNat=bR by omega,show (-((0:Int)+1074)).toNat=0 by omega,hn]
theorem aqZ {k:Nat} (aA:k≤22):Fits (10^k*2^bR):=by
 refine⟨5^k,k+bR,?_,?_,?_⟩
 ·rw[cm,←cE,←Nat.mul_pow]
 ·have:5^k≤5^22:=dB (by decide) aA;have e:(5:Nat)^22=2384185791015625:=rfl;omega
 ·rw[oE];omega
theorem aq0 {n:Nat} (h:n<9007199254740992):Fits (n*2^bR):=⟨n,bR,rfl,h,by rw[oE];omega⟩
def mJ (neg:Bool) (d:Nat):Nat:=if neg then j9 (d:Int) ^^^ 9223372036854775808 else j9 (d:Int)
theorem UP (d:Nat):j9 (d:Int)=D.word ab (er (d*2^bR) 1):=by
 rw[Ue];have:au ((d:Int)<0)=ab:=bx (by omega);rw[this];rfl
theorem aq1 {r:Nat} (aF:r≤9218868437227405312):D.word ab r ^^^ 9223372036854775808=D.word ai r:=by
 obtain⟨b1,a2,a3⟩:=oX ab (r:=r) (by omega);obtain⟨cd,cF,fw⟩:=oX ai (r:=r) (by omega);generalize D.word ab r=x at b1 a2 a3 ⊢;generalize D.word ai r=y at cd cF fw ⊢;have c1:x<9223372036854775808:=by
  rw[cH] at a2;omega
 rw[B5 c1];rw[gy] at cF;omega
theorem MG (neg:Bool) (d:Nat):mJ neg d=D.word neg (er (d*2^bR) 1):=by
 have aF:=Aw (d*2^bR) 1;have bd:=UP d;unfold mJ;rw[bd];obtain⟨r,h⟩:∃r,er (d*2^bR) 1=r:=⟨_,rfl⟩;rw[h] at aF ⊢;cases neg
 ·simp
 ·simp only[oW];exact aq1 aF
theorem MH (neg:Bool) {d:Nat} (h:d<9007199254740992):mz (mJ neg d) (if neg then -((d*2^bR:Nat):Int) else (d*2^bR:Nat)):=by
 rw[MG];exact Gy neg (by decide) (fI _).symm (aq0 h)
theorem Ic {k:Nat} (aA:k≤22):mz (j9 ((10^k:Nat):Int)) ((10^k*2^bR:Nat):Int):=by
 rw[UP];exact Gy ab (by decide) (fI _).symm (aqZ aA)
theorem adE (neg:Bool) (d:Nat):cy (mJ neg d)=neg:=by
 rw[MG];exact acI neg (gQ (Aw _ _) (by decide))
theorem adF (k:Nat):cy (j9 ((10^k:Nat):Int))=ab:=by
 rw[UP];exact acI ab (gQ (Aw _ _) (by decide))
theorem adG (neg:Bool) {d:Nat} (h:d<9007199254740992):(V (mJ neg d)).natAbs=d*2^bR:=by
 rw[pk (MH neg h)];generalize d*2^bR=n;cases neg<;>simp
theorem adH {k:Nat} (aA:k≤22):(V (j9 ((10^k:Nat):Int))).natAbs=10^k*2^bR:=by
 rw[pk (Ic aA)];generalize 10^k*2^bR=n;simp
theorem Ie (neg:Bool) {d k:Nat} (h:d<9007199254740992) (aA:k≤22):D.mul (mJ neg d) (j9 ((10^k:Nat):Int))=U (D.word neg (er (d*10^k*2^bR) 1)):=by
 rw[aoY (MH neg h).fin (Ic aA).fin,adE,adF,Oo,adG neg h,adH aA];have:=CY (d*10^k*2^bR) 1 (c:=2^bR) (ez _);rw[fW] at this;rw[←this];congr 3;ac_rfl
theorem aq2 (neg:Bool) {d k:Nat} (h:d<9007199254740992) (aA:k≤22) (ae:d*10^k<9007199254740992):D.mul (mJ neg d) (j9 ((10^k:Nat):Int))=U (mJ neg (d*10^k)):=by
 rw[Ie neg h aA,MG]
theorem aq3 (neg:Bool) {d k:Nat} (h:d<9007199254740992) (aA:k≤22):D.div (mJ neg d) (j9 ((10^k:Nat):Int))=U (D.word neg (er (d*2^bR) (10^k))):=by
 have ar:0<10^k*2^bR:=lM (dK (by decide)) (ez _);rw[ao0 (MH neg h).fin (Ic aA).fin (by rw[pk (Ic aA)];omega),adE,adF,Oo,adG neg h,adH aA];rw[←CY (d*2^bR) (10^k) (c:=2^bR) (ez _)]
theorem aq4 {n:Nat} (h:9007199254740992≤n):4845873199050653696≤er (n*2^bR) 1:=by
 unfold er;rw[uD];have hp:2^(53+bR)≤n*2^bR:=by
  rw[cm];exact fD _ h
 have ar:n*2^bR≠0:=by
  have:0<n*2^bR:=lM (by omega) (ez _);omega
 have ao:=(uC ar).2 hp;have ef:=oE;generalize n*2^bR=P at hp ar ao;clear hp h;generalize bR=E at ao ef;obtain⟨k,aA⟩:∃k,P.log2=52+k:=⟨P.log2-52,by omega⟩;rw[aA,show 52+k-52=k by omega,fW];have aa:2^(52+k)≤P:=by rw[←aA];exact sa ar
 have ae:4503599627370496≤e8 P (2^k):=by
  unfold e8;have:4503599627370496≤P/2^k:=by
   rw[kP (ez k)];rw[cm] at aa;exact aa
  omega
 omega
theorem aq5 {neg:Bool} {r:Nat} (h:4845873199050653696≤r) (ae:r<9218868437227405312):∃n:Nat,V (D.word neg r)=(if neg then -((n*2^bR:Nat):Int) else (n*2^bR:Nat))∧9007199254740992≤n:=by
 obtain⟨u,m,e,aJ,bQ⟩:∃u m,r=u*4503599627370496+m∧4503599627370496≤m∧m<9007199254740992:=⟨r/4503599627370496-1,r%4503599627370496+4503599627370496,by omega,by omega,by omega⟩;have hu:1075≤u∧u≤2045:=by omega
 obtain⟨b1,a2,a3⟩:=B7 neg (m:=m) (z:=u) aJ bQ hu.2;refine⟨m*2^(u-1074),?_,?_⟩
 ·unfold V;rw[e,b1];have aX:m*2^(u-1074)*2^bR=m*2^u:=by rw[cE,←cm,oE,show u-1074+1074=u by omega]
  rw[aX];show Ieee.signed neg m ((u:Int)-1074+1074).toNat=_;rw[show ((u:Int)-1074+1074).toNat=u by omega,HN]
 ·have:2^1≤2^(u-1074):=dB (by decide) (by omega);have:=kz aJ this;omega
end Go.Proofs.YtkhphoonnkoipaaGreatDoor.av
namespace Go.Proofs.YtkhphoonnkoipaaGreatDoor
theorem aoR (a b:Nat) (w:af):aq ak 84 #[.int .u64 a,.int .u64 b] w fun e w'=>e=.returned (.int .u64 (av.E' a b))∧Below w.heap.size w w':=by
 cases h:av.D.sub a b with
 | some r=>
   have ae:=fun (t:TypeId) (w:af)=>sc (P:=ak) w .sub t .f64 a b r h;have bc:=I (av.af5 h);clear h;go_enter func84,ntmps84;go_wp2_with ((refine (h3 _ _).mono ?_;rintro e w' ⟨rfl,rfl⟩));refine (nx _ _).mono ?_;rintro e w' ⟨rfl,rfl⟩;go_wp2;go_ret;exact⟨jf (by rw[bc.out]),aK _ _⟩
 | none=>
   obtain⟨q,aE,ae⟩:=JU .sub a b w ak h (by simp);have bc:=I (show av.told q=av.E' a b by rw[av.Ff aE];unfold av.E';rw[h];rfl);clear h aE;go_enter func84,ntmps84;go_wp2_with ((refine (h3 _ _).mono ?_;rintro e w' ⟨rfl,rfl⟩));refine (nx _ _).mono ?_;rintro e w' ⟨rfl,rfl⟩;go_wp2;go_ret;exact⟨jf (by rw[bc.out]),(aK _ _).drew⟩
theorem aoS (a b:Nat) (w:af):aq ak 85 #[.int .u64 a,.int .u64 b] w fun e w'=>e=.returned (.int .u64 (av.Fa a b))∧Below w.heap.size w w':=by
 cases h:av.D.mul a b with
 | some r=>
   have ae:=fun (t:TypeId) (w:af)=>sc (P:=ak) w .mul t .f64 a b r h;have bc:=I (av.af6 h);clear h;go_enter func85,ntmps85;go_wp2_with ((refine (h3 _ _).mono ?_;rintro e w' ⟨rfl,rfl⟩));refine (nx _ _).mono ?_;rintro e w' ⟨rfl,rfl⟩;go_wp2;go_ret;exact⟨jf (by rw[bc.out]),aK _ _⟩
 | none=>
   obtain⟨q,aE,ae⟩:=JU .mul a b w ak h (by simp);have bc:=I (show av.told q=av.Fa a b by rw[av.Ff aE];unfold av.Fa;rw[h];rfl);clear h aE;go_enter func85,ntmps85;go_wp2_with ((refine (h3 _ _).mono ?_;rintro e w' ⟨rfl,rfl⟩));refine (nx _ _).mono ?_;rintro e w' ⟨rfl,rfl⟩;go_wp2;go_ret;exact⟨jf (by rw[bc.out]),(aK _ _).drew⟩
theorem aoT (a b:Nat) (w:af):aq ak 86 #[.int .u64 a,.int .u64 b] w fun e w'=>e=.returned (.int .u64 (av.fdiv a b))∧Below w.heap.size w w':=by
 cases h:av.D.div a b with
 | some r=>
   have ae:=fun (t:TypeId) (w:af)=>sc (P:=ak) w .quo t .f64 a b r h;have bc:=I (av.af7 h);clear h;go_enter JJ,ntmps86;go_wp2_with ((refine (h3 _ _).mono ?_;rintro e w' ⟨rfl,rfl⟩));refine (nx _ _).mono ?_;rintro e w' ⟨rfl,rfl⟩;go_wp2;go_ret;exact⟨jf (by rw[bc.out]),aK _ _⟩
 | none=>
   obtain⟨q,aE,ae⟩:=JU .quo a b w ak h (by simp);have bc:=I (show av.told q=av.fdiv a b by rw[av.Ff aE];unfold av.fdiv;rw[h];rfl);clear h aE;go_enter JJ,ntmps86;go_wp2_with ((refine (h3 _ _).mono ?_;rintro e w' ⟨rfl,rfl⟩));refine (nx _ _).mono ?_;rintro e w' ⟨rfl,rfl⟩;go_wp2;go_ret;exact⟨jf (by rw[bc.out]),(aK _ _).drew⟩
theorem aoU (a:Nat) (w:af):aq ak 90 #[.int .u64 a] w fun e w'=>e=.returned (.int .u64 (av.We a))∧w=w':=by
 have aB:=fun (w:af)=>JV a w;have bc:=I (show av.told (a ^^^ 9223372036854775808)=av.We a from rfl);go_enter func90,ntmps90;go_wp2_with ((refine (h3 _ _).mono ?_;rintro e w' ⟨rfl,rfl⟩));refine (nx _ _).mono ?_;rintro e w' ⟨rfl,rfl⟩;go_wp2;go_ret;exact⟨jf (by rw[bc.out]),rfl⟩
theorem aoV (a b:Nat) (w:af):aq ak 39 #[.int .u64 a,.int .u64 b] w fun e w'=>e=.returned (.tuple #[.int .i64 (av.uF a b).1,.bool (av.uF a b).2])∧w=w':=by
 have H:Hid (av.uF a b=match FloatKind.f64.format.order a b with | some .lt=>(-1,ai) | some .gt=>(1,ai) | some .eq=>(0,ai) | none=>(0,ab)):=I rfl;generalize av.uF a b=c at H ⊢;cases b6:FloatKind.f64.format.order a b with
 | none=>
   have bJ:=I (show c=(0,ab) by rw[H.out,b6]);go_enter JK,Jy;go_wp2_with ((refine (h3 _ _).mono ?_;rintro e w' ⟨rfl,rfl⟩));go_ret2;exact⟨by rw[bJ.out];rfl,rfl⟩
 | some a7=>
   cases a7
   ·have bJ:=I (show c=(-1,ai) by rw[H.out,b6]);go_enter JK,Jy;go_wp2_with ((refine (h3 _ _).mono ?_;rintro e w' ⟨rfl,rfl⟩));go_ret2;exact⟨by rw[bJ.out];rfl,rfl⟩
   ·have bJ:=I (show c=(0,ai) by rw[H.out,b6]);go_enter JK,Jy;go_wp2_with ((refine (h3 _ _).mono ?_;rintro e w' ⟨rfl,rfl⟩));go_ret2;exact⟨by rw[bJ.out];rfl,rfl⟩
   ·have bJ:=I (show c=(1,ai) by rw[H.out,b6]);go_enter JK,Jy;go_wp2_with ((refine (h3 _ _).mono ?_;rintro e w' ⟨rfl,rfl⟩));go_ret2;exact⟨by rw[bJ.out];rfl,rfl⟩
end Go.Proofs.YtkhphoonnkoipaaGreatDoor
namespace Go.Proofs.YtkhphoonnkoipaaGreatDoor.av
open Ieee
end Go.Proofs.YtkhphoonnkoipaaGreatDoor.av
