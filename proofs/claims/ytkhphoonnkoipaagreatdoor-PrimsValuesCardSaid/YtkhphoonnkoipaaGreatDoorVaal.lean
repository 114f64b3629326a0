/- Lemmas. -/
import Derived.Test.YtkhphoonnkoipaaGreatDoorVaah
set_option linter.all false
set_option maxHeartbeats 2000000
set_option maxRecDepth 100000
open Go.Proofs.Tryz Go.RowKit Go.Lib
open Bool renaming true→ai,false→ab
open Decidable renaming decide→au
open Go renaming World→af
namespace Go.Proofs.YtkhphoonnkoipaaGreatDoor
namespace o
def ka (p:Int):Nat:=if 0≤p then 10^p.toNat*2^127 else 2^(127-p*108853/32768).toNat
def hB (p:Int):Nat:=if 0≤p then 2^(p*108853/32768).toNat else 10^(-p).toNat
def pm (p:Int):Nat:=(gG p).1*18446744073709551616-(gG p).2
theorem UQ (p:Int):0<hB p:=by
 unfold hB;split<;>exact dK (by decide)
def ara (p:Int):Bool:=au ((gG p).2≤(gG p).1*18446744073709551616∧(gG p).1<18446744073709551616∧(gG p).2<18446744073709551616∧pm p*hB p<ka p+hB p∧ka p≤pm p*hB p)
theorem arb:((List.range 696).all fun i=>ara ((i:Int)-348))=ai:=by decide +kernel
structure UR (p:Int):Prop where
 le:(gG p).2≤(gG p).1*18446744073709551616
 aV:(gG p).1<18446744073709551616
 lo:(gG p).2<18446744073709551616
 up:pm p*hB p<ka p+hB p
 ec:ka p≤pm p*hB p
theorem adJ {p:Int} (aa:-348≤p) (ae:p≤347):UR p:=by
 have h:=List.all_eq_true.1 arb (p+348).toNat (List.mem_range.2 (by omega));have e:(((p+348).toNat:Nat):Int)-348=p:=by omega
 rw[e] at h;obtain⟨a,b,c,d,f⟩:=jb h;exact⟨a,b,c,d,f⟩
theorem arc {M a cZ bH cT cN N:Nat} (dy:0<M) (aa:cZ*a%M=bH) (ae:cT*a%M+cN=M) (aL:cZ*cN+cT*bH=M) (cW:N≤cZ+cT) (ar:0<cZ) {x:Nat} (hx:0<x) (ard:x<N) :
 ((∃i,1≤i∧x=i*cZ∧x*a%M=i*bH)∨bH+cN≤x*a%M)∧∃j,1≤j∧x≤j*cT∧x*a%M+j*cN≤M:=by
 have iK:0<cN:=by have:=eW (cT*a) dy;omega
 obtain⟨r,aF⟩:∃r,x*a%M=r:=⟨_,rfl⟩;have ay7:r<M:=by rw[←aF];exact eW _ dy
 have aH:=ky (cZ*a) M;have aT:=ky (cT*a) M;have b8:=ky (x*a) M;rw[aa] at aH;rw[aF] at b8 ⊢;generalize cZ*a/M=aG at aH;generalize cT*a/M=bj at aT;generalize x*a/M=q at b8;have Xa:cT*a+cN=M*(bj+1):=by rw[fP,fI,←ae,←nW,ae];omega
 clear aT ae aa aF;have mO:(M:Int)*aG+bH=cZ*a:=by exact_mod_cast aH
 have mP:(cT:Int)*a+cN=M*(bj+1):=by exact_mod_cast Xa
 have Fj:(M:Int)*q+r=x*a:=by exact_mod_cast b8
 have dM:(cZ:Int)*cN+cT*bH=M:=by exact_mod_cast aL
 have adK:(M:Int)≠0:=by omega
 obtain⟨i,aV⟩:∃i:Int,i=x*(bj+1)-cT*q:=⟨_,rfl⟩;obtain⟨j,bP⟩:∃j:Int,j=cZ*q-x*aG:=⟨_,rfl⟩;have are:i*M=x*cN+cT*r:=by subst aV;grind
 have ay8:j*M=x*bH-cZ*r:=by subst bP;grind
 have arf:(x:Int)=i*cZ+j*cT:=by
  apply Nn adK;grind
 have arh:(r:Int)=i*bH-j*cN:=by
  apply Nn adK;grind
 have Bc:(0:Int)<M:=by omega
 have um:1≤i:=by
  have:0<i*M:=by
   rw[are];have aa:(0:Int)<x*cN:=Int.mul_pos (by omega) (by omega);have ae:(0:Int)≤cT*r:=EM (by omega) (by omega);omega
  have:=V3 this Bc;omega
 have ay9:(N:Int)≤cZ+cT:=by exact_mod_cast cW
 have ay':(x:Int)<N:=by exact_mod_cast ard
 have mono:∀{a b c:Int},a≤b→0≤c→a*c≤b*c:=fun h an=>Int.mul_le_mul_of_nonneg_right h an;constructor
 ·rcases Int.lt_trichotomy j 0 with Dy | Dy | Dy
  ·right;have b1:1*(bH:Int)≤i*bH:=mono um (by omega);have a2:1*(cN:Int)≤(-j)*cN:=mono (by omega) (by omega);have a3:(-j)*(cN:Int) = -(j*cN):=by grind
   omega
  ·left;subst Dy;obtain⟨n,rfl⟩:=V4 (show 0≤i by omega);refine⟨n,by omega,?_,?_⟩
   ·have:(x:Int)=(n*cZ:Nat):=by rw[arf];simp
    exact_mod_cast this
   ·have:(r:Int)=(n*bH:Nat):=by rw[arh];simp
    exact_mod_cast this
  ·exfalso;have b1:1*(cZ:Int)≤i*cZ:=mono um (by omega);have a2:1*(cT:Int)≤j*cT:=mono (by omega) (by omega);omega
 ·obtain⟨w5,xQ⟩:∃w5:Int,w5=i-cT:=⟨_,rfl⟩;obtain⟨w6,zM⟩:∃w6:Int,w6=j+cZ:=⟨_,rfl⟩;have A':w6*M=x*bH+cZ*(M-r):=by subst zM;grind
  have b9:(x:Int)=w5*cZ+w6*cT:=by subst xQ zM;grind
  have bG:(M:Int)-r=w6*cN-w5*bH:=by subst xQ zM;grind
  have ari:1≤w6:=by
   have:0<w6*M:=by
    rw[A'];have aa:(0:Int)≤x*bH:=EM (by omega) (by omega);have ae:(0:Int)<cZ*(M-r):=Int.mul_pos (by omega) (by omega);omega
   have:=V3 this Bc;omega
  have ls:w5≤0:=by
   rcases xA 0 w5 with h | h
   ·exfalso;have b1:1*(cZ:Int)≤w5*cZ:=mono (by omega) (by omega);have a2:1*(cT:Int)≤w6*cT:=mono (by omega) (by omega);omega
   ·exact h
  obtain⟨n,rfl⟩:=V4 (show 0≤w6 by omega);have cd:w5*cZ≤0:=by have:=mono ls (show (0:Int)≤cZ by omega);simpa using this
  have cF:w5*bH≤0:=by have:=mono ls (show (0:Int)≤bH by omega);simpa using this
  refine⟨n,by omega,?_,?_⟩
  ·have:(x:Int)≤(n*cT:Nat):=by push_cast;omega
   exact_mod_cast this
  ·have:((r+n*cN:Nat):Int)≤M:=by push_cast;omega
   exact_mod_cast this
def Good (p:Int) (s x:Nat):Prop:=
 (hB p*2^(128+s) ∣ x*ka p)∨(18446744073709551616<x*pm p%2^(128+s)∧x*pm p%2^(128+s)+18446744073709551616≤2^(128+s))
noncomputable def kb (n d:Nat):Nat:=n/d ||| (if d ∣ n then 0 else 1)
theorem adL (s:Nat):2^(128+s)=2^s*340282366920938463463374607431768211456:=by
 rw[cm,dx]
theorem arj {x aV lo S A B:Nat} {s:Nat} (cP:2^s=S) (j1:0<x) (hx:x<18446744073709551616) (hh:aV<18446744073709551616) (ao:lo<18446744073709551616) (hle:lo≤aV*18446744073709551616) (az:0<B)
 (aa:(aV*18446744073709551616-lo)*B<A+B) (ae:A≤(aV*18446744073709551616-lo)*B)
 (g:(B*(S*340282366920938463463374607431768211456) ∣ x*A)∨(18446744073709551616<x*(aV*18446744073709551616-lo)%(S*340282366920938463463374607431768211456)∧x*(aV*18446744073709551616-lo)%(S*340282366920938463463374607431768211456)+18446744073709551616≤S*340282366920938463463374607431768211456)) :
 oY x aV lo s=kb (x*A) (B*(S*340282366920938463463374607431768211456)):=by
 have pS:0<S:=by rw[←cP];exact dK (by decide)
 obtain⟨P,hI⟩:∃P,aV*18446744073709551616-lo=P:=⟨_,rfl⟩;rw[hI] at aa ae g;obtain⟨M,dy⟩:∃M,S*340282366920938463463374607431768211456=M:=⟨_,rfl⟩;rw[dy] at g ⊢;obtain⟨X,fs⟩:∃X,x*P=X:=⟨_,rfl⟩;rw[fs] at g;have ark:X+x*lo=x*aV*18446744073709551616:=by
  rw[←fs,←hI,Nat.mul_sub,cE];have:=gp x hle;omega
 have gH:x*lo≤18446744073709551615*18446744073709551615:=kz (by omega) (by omega);have Sp:x*aV≤18446744073709551615*18446744073709551615:=kz (by omega) (by omega);obtain⟨h,adM⟩:∃h,x*aV/18446744073709551616=h:=⟨_,rfl⟩;obtain⟨mid,adN⟩:∃m,x*aV%18446744073709551616=m:=⟨_,rfl⟩;obtain⟨jw,adO⟩:∃m,x*lo/18446744073709551616=m:=⟨_,rfl⟩;obtain⟨adP,arl⟩:∃m,x*lo%18446744073709551616=m:=⟨_,rfl⟩;have heq:X+jw*18446744073709551616+adP=h*340282366920938463463374607431768211456+mid*18446744073709551616:=by omega
 have jl:mid<18446744073709551616:=by omega
 have hd:jw≤18446744073709551614:=by omega
 have xP:adP<18446744073709551616:=by omega
 have adQ:h<18446744073709551616:=by omega
 have adR:x*A≤X*B:=by rw[←fs,cE];exact gp x ae
 have adS:X*B<x*A+18446744073709551616*B:=by
  have:x*(P*B)<x*(A+B):=No aa j1;rw[←cE,fs,fP] at this;have:x*B≤18446744073709551616*B:=fD B (by omega);omega
 have Kb:0<M:=by omega
 unfold oY kb;rw[adM,adN,adO,cP];clear adM adN adO arl ark gH Sp fs hI aa ae hle hh ao;rcases g with g | ⟨g1,g2⟩
 ·obtain⟨q,aE⟩:=g;have e:x*A/(B*M)=q:=by rw[aE,Nat.mul_div_cancel_left _ (lM az Kb)]
  have aL:B*M ∣ x*A:=⟨q,aE⟩;rw[e,ba aL];have jg:q*M≤X:=by
   apply By _ az;have:q*M*B=B*M*q:=by rw[dx,←cE,s4]
   omega
  have sQ:X<q*M+18446744073709551616:=by
   apply vF (a:=B);have:(q*M+18446744073709551616)*B=B*M*q+18446744073709551616*B:=by rw[ff,dx (q*M),←cE,s4]
   omega
  have arn:q*M=q*S*340282366920938463463374607431768211456:=by rw[←dy,cE]
  have adT:h=q*S:=by omega
  have gv:jw≤mid∧mid≤jw+1:=by omega
  have aH:h/S=q:=by rw[adT,BI _ pS]
  rw[aH,ba adT.symm,aU (by omega),BU,Ey,eF adQ,aH,aU];have:mid+18446744073709551616-jw=(mid-jw)+18446744073709551616:=by omega
  rw[this,Ey,eF (by omega)];omega
 ·have ck:=ky X M;obtain⟨q,aE⟩:∃q,X/M=q:=⟨_,rfl⟩;rw[aE] at ck;have aza:q*M+X%M=X:=by rw[dx];exact ck
  have adU:q*(B*M)<x*A:=by
   have b1:(q*M+18446744073709551616)*B<X*B:=jG (by omega) az;have a2:(q*M+18446744073709551616)*B=q*(B*M)+18446744073709551616*B:=by rw[ff,cE,dx M B]
   omega
  have adV:x*A<(q+1)*(B*M):=by
   have b1:X*B<((q+1)*M)*B:=jG (by rw[ff,fW];omega) az;have a2:((q+1)*M)*B=(q+1)*(B*M):=by rw[cE,dx M B]
   omega
  have e:x*A/(B*M)=q:=xk (by omega) (by omega);have adW:¬ B*M ∣ x*A:=by
   rintro⟨k,aA⟩;have yI:x*A=k*(B*M):=by rw[aA,dx]
   rw[yI] at adU adV;have b1:=vF adU;have a2:=vF adV;omega
  rw[e,aU adW];have h4:=ky h S;obtain⟨k,aA⟩:∃k,h/S=k:=⟨_,rfl⟩;rw[aA] at h4 ⊢;have an:=eW h pS;have azb:S*k=k*S:=dx _ _;have ajj:k*M=k*S*340282366920938463463374607431768211456:=by rw[←dy,cE]
  have azc:(k+1)*M=k*M+M:=by rw[ff,fW]
  have azd:X%M=X-q*M:=by omega
  by_cases hmul:k*S=h
  ·rw[ba hmul];by_cases c1:jw+2≤mid
   ·have:X/M=k:=xk (by omega) (by omega);have vy:q=k:=by omega
    have US:(mid+18446744073709551616-jw)%18446744073709551616=mid-jw:=by
     have:mid+18446744073709551616-jw=(mid-jw)+18446744073709551616:=by omega
     rw[this,Ey,eF (by omega)]
    rw[aU (by omega),BU,Ey,eF adQ,aA,US,ba (by omega),vy]
   ·by_cases c2:jw≤mid
    ·exfalso;rcases eh X (k*M)with bV | fR
     ·have fx:1≤k:=by
       rcases kd k with e | e
       ·subst e;simp at bV
       ·exact e
      obtain⟨k',rfl⟩:∃k',k=k'+1:=⟨k-1,by omega⟩;have fh:(k'+1)*M=k'*M+M:=by rw[ff,fW]
      have:X/M=k':=xk (by omega) (by omega);have vy:q=k':=by omega
      subst vy;omega
     ·have:X/M=k:=xk (by omega) (by omega);have vy:q=k:=by omega
      subst vy;omega
    ·have fx:1≤k:=by
      rcases kd k with e | e
      ·subst e;simp at hmul;omega
      ·exact e
     obtain⟨k',rfl⟩:∃k',k=k'+1:=⟨k-1,by omega⟩;have fh:(k'+1)*M=k'*M+M:=by rw[ff,fW]
     have qm:(k'+1)*S=k'*S+S:=by rw[ff,fW]
     have:X/M=k':=xk (by omega) (by omega);have vy:q=k':=by omega
     have US:(mid+18446744073709551616-jw)%18446744073709551616=mid+18446744073709551616-jw:=eF (by omega);have aro:(h+18446744073709551616-1)%18446744073709551616=h-1:=by
      have:h+18446744073709551616-1=(h-1)+18446744073709551616:=by omega
      rw[this,Ey,eF (by omega)]
     have arp:(h-1)/S=k':=xk (by omega) (by rw[qm];omega);rw[ba (by omega),aro,arp,US,ba (by omega),vy]
  ·rw[aU hmul];have bT:0<h%S:=by omega
   have:X/M=k:=xk (by omega) (by omega);have vy:q=k:=by omega
   rw[vy]
theorem arq {p:Int} {s x:Nat} (h:UR p) (j1:0<x) (hx:x<18446744073709551616) (g:Good p s x):oY x (gG p).1 (gG p).2 s=kb (x*ka p) (hB p*2^(128+s)):=by
 unfold Good pm at g;rw[adL] at g ⊢;exact arj rfl j1 hx h.aV h.lo h.le (UQ p) h.up h.ec g
theorem Good.up {p:Int} {s x:Nat} (h:UR p) (j1:0<x) (hx:x<18446744073709551616) (g:Good p s x) (k:Nat):Good p (s+k) x:=by
 obtain⟨M,dy⟩:∃M,2^(128+s)=M:=⟨_,rfl⟩;obtain⟨K,hK⟩:∃K,2^k=K:=⟨_,rfl⟩;have ars:0<K:=by rw[←hK];exact dK (by decide)
 have uM:340282366920938463463374607431768211456≤M:=by
  rw[←dy,adL];have:0<2^s:=dK (by decide);omega
 have e:2^(128+(s+k))=M*K:=by rw[←nW,cm,dy,hK]
 unfold Good at g ⊢;rw[dy] at g;rw[e];obtain⟨X,fs⟩:∃X,x*pm p=X:=⟨_,rfl⟩;rw[fs] at g ⊢;have az:=UQ p;have adR:x*ka p≤X*hB p:=by rw[←fs,cE];exact gp x h.ec
 have adS:X*hB p<x*ka p+18446744073709551616*hB p:=by
  have:x*(pm p*hB p)<x*(ka p+hB p):=No h.up j1;rw[←cE,fs,fP] at this;have:x*hB p≤18446744073709551616*hB p:=fD _ (by omega);omega
 have rq:=E6 (x:=X) (a:=M) (b:=K);have lX:M*(X/M%K)+M≤M*K:=by
  have aa:X/M%K+1≤K:=eW _ ars;have ae:=gp M aa;rw[fP,fI] at ae;exact ae
 rcases g with ⟨q,aE⟩ | ⟨g1,g2⟩
 ·generalize hB p=B at aE az adR adS ⊢;have jg:q*M≤X:=by
   apply By _ az;have:q*M*B=B*M*q:=by rw[dx,←cE,s4]
   omega
  have sQ:X<q*M+18446744073709551616:=by
   apply vF (a:=B);have:(q*M+18446744073709551616)*B=B*M*q+18446744073709551616*B:=by rw[ff,dx (q*M),←cE,s4]
   omega
  have arn:(q+1)*M=q*M+M:=by rw[ff,fW]
  have aH:X/M=q:=xk (by omega) (by omega);have aT:X%M=X-q*M:=by have:=ky X M;rw[aH,dx] at this;omega
  rw[aH] at rq lX;rcases kd (q%K)with aX | aX
  ·left;obtain⟨c,an⟩:=r8 aX;exact⟨c,by rw[aE,an,cE,cE,cE]⟩
  ·right;rw[rq];have:M*1≤M*(q%K):=gp M aX;omega
 ·right;rw[rq];omega
def Ig:Nat→Nat→Nat→Nat→Nat→Nat→Nat×Nat
 | 0,_,cZ,_,cT,_=>(cZ,cT)
 | f+1,N,cZ,bH,cT,cN=>
   if N≤cZ+cT then (cZ,cT)
   else if cN≤bH then
    let k:=if cT=0 then bH/cN else min (bH/cN) (max 1 ((N-cZ-cT+cT-1)/cT));Ig f N (cZ+k*cT) (bH-k*cN) cT cN
   else
    let k:=min ((cN-1)/bH) (max 1 ((N-cZ-cT+cZ-1)/cZ));Ig f N cZ bH (cT+k*cZ) (cN-k*bH)
def art (t s N L:Nat) (p:Int) (cZ cT bH cN:Nat):Bool:=
 au (cZ*cN+cT*bH=2^(128+s-t)∧N≤cZ+cT∧0<cZ∧18446744073709551616<2^t*(bH+cN)∧18446744073709551616≤2^t*(((L+cT-1)/cT)*cN)∧
  (18446744073709551616<2^t*(((L+cZ-1)/cZ)*bH)∨(2^t*cZ*ka p)%(hB p*2^(128+s))=0))
def adX (t s N L:Nat) (p:Int):Bool:=
 (au (pm p%36893488147419103232=0∧pm p*hB p=ka p)) ||
  (let c:=Ig 60 N 1 (pm p%2^(128+s-t)) 0 (2^(128+s-t))
   art t s N L p c.1 c.2 (c.1*pm p%2^(128+s-t)) (2^(128+s-t)-c.2*pm p%2^(128+s-t)))
theorem adY {L x y j:Nat} (h:L≤y) (bP:y≤j*x):(L+x-1)/x≤j:=by
 rcases kd x with rfl | hx
 ·simp
 ·rw[Nat.div_le_iff_le_mul_add_pred hx];rw[dx] at bP;omega
theorem aru {t s N L:Nat} {p:Int} (an:adX t s N L p=ai) (bn:t≤128+s) {y:Nat} (aW:0<y) (arv:y<N) (adZ:L≤y):Good p s (2^t*y):=by
 have UT:2^(128+s)=2^t*2^(128+s-t):=by rw[←cm];congr 1;omega
 rcases Bool.or_eq_true _ _ |>.mp an with h | h
 ·obtain⟨aa,ae⟩:=jb h;obtain⟨c,an⟩:=r8 aa;obtain⟨X,fs⟩:∃X,2^t*y*pm p=X:=⟨_,rfl⟩;unfold Good;rw[fs];have ad0:2^(128+s)=36893488147419103232*2^(63+s):=by
   rw[show 128+s=65+(63+s) by omega,cm]
  obtain⟨M,dy⟩:∃M,2^(128+s)=M:=⟨_,rfl⟩;rw[dy] at ad0 ⊢;have Bc:0<M:=by rw[←dy];exact dK (by decide)
  have arw:36893488147419103232 ∣ X:=⟨2^t*y*c,by rw[←fs,an];exact xn _ _ _⟩;have Cq:36893488147419103232 ∣ M:=⟨_,ad0⟩;have aF:=(Nat.dvd_mod_iff Cq).2 arw;have bV:=eW X Bc;rcases kd (X%M)with aX | aX
  ·left;obtain⟨q,aE⟩:=r8 aX;exact⟨q,by rw[←ae,←cE,fs,aE];rw[dx,cE]⟩
  ·right;obtain⟨u,hu⟩:=aF;obtain⟨v,aD⟩:=Cq;omega
 ·obtain⟨cZ,gu⟩:∃cZ,(Ig 60 N 1 (pm p%2^(128+s-t)) 0 (2^(128+s-t))).1=cZ:=⟨_,rfl⟩;obtain⟨cT,gg⟩:∃cT,(Ig 60 N 1 (pm p%2^(128+s-t)) 0 (2^(128+s-t))).2=cT:=⟨_,rfl⟩;simp only[gu,gg] at h;obtain⟨aa,ae,aJ,bQ,dm,ga⟩:=jb h;obtain⟨M,dy⟩:∃M,2^(128+s-t)=M:=⟨_,rfl⟩;obtain⟨T,dZ⟩:∃T,2^t=T:=⟨_,rfl⟩;have Bc:0<M:=by rw[←dy];exact dK (by decide)
  rw[dy,dZ] at UT;simp only[dy,dZ,UT] at aa bQ dm ga;clear gu gg an h;obtain⟨bH,mn⟩:∃bH,cZ*pm p%M=bH:=⟨_,rfl⟩;obtain⟨cN,iK⟩:∃cN,M-cT*pm p%M=cN:=⟨_,rfl⟩;rw[mn,iK] at aa;rw[mn,iK] at bQ;rw[iK] at dm;rw[mn] at ga;have bV:=eW (cT*pm p) Bc;obtain⟨kV,j,ari,xT,ad1⟩:=arc Bc mn (by omega) aa ae aJ aW arv;unfold Good;rw[dZ,UT,cE T y (pm p),NA];obtain⟨r,aF⟩:∃r,y*pm p%M=r:=⟨_,rfl⟩;rw[aF] at kV ad1 ⊢;have sQ:T*r+18446744073709551616≤T*M:=by
   have b1:=fD cN (adY adZ xT);have a2:=gp T b1;have a3:=gp T ad1;rw[fP] at a3;omega
  rcases kV with ⟨i,um,je,r2⟩ | kV
  ·rcases ga with ga | ga
   ·right;refine⟨?_,sQ⟩;have b1:=fD bH (adY adZ (Jv je));have a2:=gp T b1;rw[r2];omega
   ·left;obtain⟨c,an⟩:=r8 ga;refine⟨c*i,?_⟩;rw[je,show T*(i*cZ)*ka p=T*cZ*ka p*i by rw[dx i cZ,←cE,s4],an,cE]
  ·right;refine⟨?_,sQ⟩;have:=gp T kV;omega
theorem UU:((List.range 656).all fun i=>adX 0 8 18446744073709551616 9223372036854775808 ((i:Int)-345))=ai:=by decide +kernel
theorem arx {p:Int} (aa:-345≤p) (ae:p≤310) {s x:Nat} (a1:8≤s) (gu:9223372036854775808≤x) (gg:x<18446744073709551616):Good p s x:=by
 have h:=List.all_eq_true.1 UU (p+345).toNat (List.mem_range.2 (by omega));rw[show (((p+345).toNat:Nat):Int)-345=p by omega] at h;have g:=aru h (by omega) (y:=x) (by omega) (by omega) (by omega);rw[hn,fW] at g;have:=g.up (adJ (by omega) (by omega)) (by omega) gg (s-8);rwa[show 8+(s-8)=s by omega] at this
end o
namespace o
theorem ML (q:Nat):q ||| 0=q∧(q ||| 1=q∨q ||| 1=q+1)∧(q ||| 1)%2=1∧(q ||| 1)/2=q/2:=by
 have aa:(q ||| 1)/2=q/2:=by rw[Nat.or_div_two];simp
 have ae:(q ||| 1)%2=1:=by rw[Nat.or_mod_two_eq_one];right;rfl
 exact⟨Nat.or_zero q,by omega,ae,aa⟩
end o
namespace o
def sW (e p:Int):Nat:=2^e.toNat*10^p.toNat
def Bd (e p:Int):Nat:=2^(-e).toNat*10^(-p).toNat
theorem ary (e p:Int):0<Bd e p:=lM (ez _) (dK (by decide))
theorem arz (e p:Int):0<sW e p:=lM (ez _) (dK (by decide))
theorem arA (n d:Nat) {c:Nat} (an:0<c):kb (n*c) (d*c)=kb n d:=by
 unfold kb;rw[vG _ _ an];congr 1;by_cases h:d ∣ n
 ·rw[ba h,ba (Nat.mul_dvd_mul_right h c)]
 ·rw[aU h,aU (fun iE=>h (Nat.dvd_of_mul_dvd_mul_right an iE))]
theorem arB {e p:Int} (h:e+p*108853/32768+3≤0):∃c,0<c∧ka p=4*sW e p*c∧hB p*2^(128+cz e p)=Bd e p*c:=by
 unfold ka hB sW Bd cz;by_cases hp:0≤p
 ·rw[ba hp,ba hp];have ao:0≤p*108853/32768:=by omega
  have aH:e.toNat=0:=by omega
  have aT:(-p).toNat=0:=by omega
  refine⟨2^125,ez _,?_,?_⟩
  ·rw[aH,hn,fW,show (127:Nat)=2+125 from rfl,cm];have:2^2=4:=rfl;rw[this,←cE,dx 4]
  ·rw[aT,hn,fI,←cm,←cm];congr 1;omega
 ·rw[aU hp,aU hp];have ao:p*108853/32768<0:=by omega
  have aH:p.toNat=0:=by omega
  have bQ:4=2^2:=rfl;refine⟨2^(125-p*108853/32768-max e 0).toNat,ez _,?_,?_⟩
  ·rw[aH,hn,fI,bQ,←cm,←cm];congr 1;omega
  ·rw[dx (2^(-e).toNat),cE,←cm];congr 2;omega
def A8 (e:Int):Int:=-(((e+11)*631305-261663)/2097152)
def iC (E:Nat) (x:Nat×Int):Nat:=av.er (x.1*10^x.2.toNat*2^E) (10^(-x.2).toNat)
end o
namespace o
theorem arC (s:Nat):2^(128+s)=2^s*340282366920938463463374607431768211456:=by
 rw[cm,dx]
theorem MN {X Y:Nat} (gb:0<Y):(kb (4*X) Y+1+kb (4*X) Y/4%2)/4=av.e8 X Y:=by
 obtain⟨q,aE⟩:∃q,4*X/Y=q:=⟨_,rfl⟩;have e:=ky (4*X) Y;have aF:=eW (4*X) gb;rw[aE] at e;obtain⟨tS,iq,jM,tT⟩:=ML q;have hu:kb (4*X) Y=if 4*X%Y=0 then q else q ||| 1:=by
  unfold kb;rw[aE];by_cases aL:4*X%Y=0
  ·rw[ba (r8 aL),ba aL,tS]
  ·rw[aU (fun h=>aL (V8 h)),aU aL]
 rw[hu];have arD:=ky X Y;have arE:=eW X gb;unfold av.e8;obtain⟨f,bd⟩:∃f,X/Y=f:=⟨_,rfl⟩;obtain⟨t,bn⟩:∃t,X%Y=t:=⟨_,rfl⟩;rw[bd,bn] at arD;rw[bn] at arE;rw[bd,bn];generalize 4*X%Y=r at e aF;have arF:q/4=f:=by rw[←aE,←bd,hE,dx Y 4,Nat.mul_div_mul_left _ _ (by decide)]
 obtain⟨g,aY⟩:∃g,q=4*f+g:=⟨q%4,by omega⟩;have v7:g<4:=by omega
 have eb:g*Y+r=4*t:=by
  have:Y*q=4*(Y*f)+g*Y:=by rw[aY,fP,dx g Y,xn]
  omega
 have aL:(if r=0 then q else q ||| 1)/4=f:=by
  split
  ·exact arF
  ·omega
 rw[aL];rcases (show g=0∨g=1∨g=2∨g=3 by omega)with rfl | rfl | rfl | rfl
 ·have ad:(au (Y<2*t)||(Y==2*t&&f%2==1))=ab:=by
   rw[IQ];exact⟨by rw[ux];omega,by rw[BB];left;rw[cH];omega⟩
  rw[ad];split<;>simp<;>omega
 ·have ad:(au (Y<2*t)||(Y==2*t&&f%2==1))=ab:=by
   rw[IQ];exact⟨by rw[ux];omega,by rw[BB];left;rw[cH];omega⟩
  rw[ad];split<;>simp<;>omega
 ·by_cases ar:r=0
  ·rw[ba ar];have aa:au (Y<2*t)=ab:=by rw[ux];omega
   have ae:(Y==2*t)=ai:=by rw[gy];omega
   rw[aa,ae,OY,sg];rcases Bz f with aJ | aJ
   ·rw[aJ];simp;omega
   ·rw[aJ];simp;omega
  ·rw[aU ar];have aa:au (Y<2*t)=ai:=by rw[ij];omega
   rw[aa,Jx];simp;omega
 ·have aa:au (Y<2*t)=ai:=by rw[ij];omega
  rw[aa,Jx];split<;>simp<;>omega
theorem ad2 {X Y:Nat} (gb:0<Y):kb (4*X) Y/2 ||| kb (4*X) Y%2=kb (4*X) (2*Y):=by
 obtain⟨q,aE⟩:∃q,4*X/Y=q:=⟨_,rfl⟩;have e:=ky (4*X) Y;have aF:=eW (4*X) gb;rw[aE] at e;obtain⟨tS,iq,jM,tT⟩:=ML q;have ae:4*X/(2*Y)=q/2:=by rw[dx 2 Y,←hE,aE]
 unfold kb;rw[aE,ae];generalize bS:4*X%Y=r at e aF;have hdiv:Y ∣ 4*X↔r=0:=by rw[←bS];exact⟨V8,r8⟩
 have UW:2*Y ∣ 4*X↔r=0∧q%2=0:=by
  constructor
  ·rintro⟨c,an⟩;have iS:Y*(2*c)=4*X:=by rw[an];ac_rfl
   have ar:r=0:=hdiv.1 ⟨2*c,iS.symm⟩;refine⟨ar,?_⟩;have:Y*q=Y*(2*c):=by omega
   have:=VX gb this;omega
  ·rintro⟨ar,aa⟩;refine⟨q/2,?_⟩;have:q=2*(q/2):=by omega
   rw[ar,jd] at e;rw[←e];conv=>lhs;rw[this]
   ac_rfl
 by_cases ar:r=0
 ·rw[ba (hdiv.2 ar),tS];rcases Bz q with aa | aa
  ·rw[ba (UW.2 ⟨ar,aa⟩),aa]
  ·rw[aU (fun h=>by have:=(UW.1 h).2;omega),aa]
 ·rw[aU (fun h=>ar (hdiv.1 h)),aU (fun h=>ar (UW.1 h).1),jM,tT]
theorem UX {X Y n:Nat} (gb:0<Y):2*n≤kb (4*X) Y↔n*Y≤2*X:=by
 obtain⟨q,aE⟩:∃q,4*X/Y=q:=⟨_,rfl⟩;obtain⟨tS,iq,jM,tT⟩:=ML q;have hu:2*n≤kb (4*X) Y↔2*n≤q:=by
  unfold kb;rw[aE];split
  ·rw[tS]
  ·omega
 rw[hu,←aE,kP gb,cE];omega
def arG (p:Int):Bool:=au (2^127*hB p≤ka p∧ka p*2^50≤(2^50-1)*2^128*hB p)
theorem arH:((List.range 656).all fun i=>arG ((i:Int)-345))=ai:=by decide +kernel
theorem arI {p:Int} (aa:-345≤p) (ae:p≤310):170141183460469231731687303715884105728*hB p≤ka p∧ka p*1125899906842624≤383123885216471874307219835849113832530077348777689088*hB p:=by
 have h:=List.all_eq_true.1 arH (p+345).toNat (List.mem_range.2 (by omega));rw[show (((p+345).toNat:Nat):Int)-345=p by omega] at h;obtain⟨a,b⟩:=jb h;exact⟨a,b⟩
def np (b:Nat) (p:Int):Int:=min 1074 (53-b-p*108853/32768)
def yY (b:Nat) (p:Int):Int:=-(np b p-(64-b)+p*108853/32768+3)
def w7 (d b:Nat) (p:Int):Nat:=fJ (d*2^(64-b)) (np b p-(64-b)) p
def ur (u:Nat):Nat:=if 36028797018963966≤u then ((u/2 ||| u%2)+1+(u/2 ||| u%2)/4%2)/4 else (u+1+u/4%2)/4
def w8 (u:Nat) (e:Int):Int:=if 36028797018963966≤u then e-1 else e
def vz (m:Nat) (e:Int):Nat×Bool:=
 if m/4503599627370496%2=0 then (m,ab) else if 972≤e then (9218868437227405312,ai) else (m-4503599627370496+(1075+e).toNat*4503599627370496,ab)
def vA (d b:Nat) (p:Int):Nat×Bool:=
 if 64≤yY b p then (0,ab) else vz (ur (w7 d b p)) (-(w8 (w7 d b p) (np b p)))
structure ad3 (d b:Nat) (p:Int) (X Y:Nat):Prop where
 y:0<Y
 u:w7 d b p=kb (4*X) Y
 lo:np b p<1074→4503599627370496*Y≤X
 up:X<18014398509481968*Y
 s:64≤yY b p→4*X<Y
 r:∀(k E:Nat),E=1074→(k:Int)=1074-np b p→d*10^p.toNat*2^E*Y=X*(2^k*10^(-p).toNat)
theorem ad4 {d b:Nat} {p:Int} (dD:1≤b) (bg:b≤64) (gv:2^(b-1)≤d) (gq:d<2^b) (aa:-345≤p) (ae:p≤310):∃X Y,ad3 d b p X Y:=by
 obtain⟨x,hx⟩:∃x,d*2^(64-b)=x:=⟨_,rfl⟩;have gu:9223372036854775808≤x:=by
  have:=fD (2^(64-b)) gv;rw[←cm,show b-1+(64-b)=63 by omega,hx] at this;exact this
 have gg:x<18446744073709551616:=by
  have:=jG gq (ez (64-b));rw[←cm,show b+(64-b)=64 by omega,hx] at this;exact this
 obtain⟨l,ao⟩:∃l,p*108853/32768=l:=⟨_,rfl⟩;obtain⟨e,he⟩:∃e,np b p=e:=⟨_,rfl⟩;have aze:e=min 1074 (53-b-l):=by rw[←he,←ao];rfl
 obtain⟨ck,yU⟩:∃ck:Int,e-(64-(b:Int))=ck:=⟨_,rfl⟩;have nG:ck+p*108853/32768+3≤0:=by rw[ao];omega
 have azf:(cz ck p:Int) = -(ck+l+3):=by unfold cz;rw[ao];omega
 have K5:yY b p = -(ck+l+3):=by unfold yY;rw[he,ao,yU]
 obtain⟨c,an,bH,cN⟩:=arB nG;have g:=arx aa ae (s:=cz ck p) (by omega) gu gg;have hu:w7 d b p=kb (4*(x*sW ck p)) (Bd ck p):=by
  unfold w7 fJ;rw[he,yU,hx,arq (adJ (by omega) (by omega)) (by omega) gg g,bH,cN,show x*(4*sW ck p*c)=4*(x*sW ck p)*c by ac_rfl,arA _ _ an]
 obtain⟨f1,f2⟩:=arI aa ae;have gb:=ary ck p;have dZ:=arz ck p;obtain⟨S,cP⟩:∃S,2^cz ck p=S:=⟨_,rfl⟩;have yZ:hB p*(S*340282366920938463463374607431768211456)=Bd ck p*c:=by rw[←cP,←arC];exact cN
 have az:=UQ p;have aH:4*(x*sW ck p*c)=x*ka p:=by rw[bH];ac_rfl
 obtain⟨Z,iz⟩:∃Z,hB p*(S*340282366920938463463374607431768211456)=Z:=⟨_,rfl⟩;rw[iz] at yZ;refine⟨x*sW ck p,Bd ck p,gb,hu,?_,?_,?_,?_⟩
 ·intro h;have jn:cz ck p=8:=by omega
  have Ih:S=256:=by rw[←cP,jn]
  have b1:=kz gu f1;rw[←aH] at b1;apply By _ an;rw[cE,←yZ,←iz,Ih];clear f1 f2 gv gq gu gg hu bH cN yZ aH iz g;generalize x*sW ck p*c=V at b1 ⊢;generalize hB p=B at b1 ⊢;omega
 ·have be:0<ka p:=by omega
  have b1:x*(ka p*1125899906842624)<18446744073709551616*(ka p*1125899906842624):=jG gg (by omega);have a2:=gp 18446744073709551616 f2;rw[←cE x,←aH] at b1;have Ih:256≤S:=by
   have:2^8≤2^cz ck p:=dB (by decide) (by omega);rw[cP] at this;exact this
  have a3:hB p*(256*340282366920938463463374607431768211456)≤Z:=by rw[←iz];exact gp _ (fD _ Ih)
  apply vF (a:=c);rw[cE 18014398509481968,←yZ];have a4:=cv b1 a2;clear b1 a2 f1 f2 gv gq gu gg hu bH cN yZ aH iz g be;generalize x*sW ck p*c=V at a4 ⊢;generalize hB p=B at a3 a4 ⊢;omega
 ·intro h;have be:ka p<340282366920938463463374607431768211456*hB p:=by
   clear f1 gv gq gu gg hu bH cN yZ aH iz g;generalize ka p=A at f2 ⊢;generalize hB p=B at f2 az ⊢;omega
  have b1:x*ka p<18446744073709551616*(340282366920938463463374607431768211456*hB p):=Nat.mul_lt_mul_of_lt_of_le gg (qf be) (by omega);rw[←aH] at b1;have Ih:18446744073709551616≤S:=by
   have:2^64≤2^cz ck p:=dB (by decide) (by omega);rw[cP] at this;exact this
  have a3:hB p*(18446744073709551616*340282366920938463463374607431768211456)≤Z:=by rw[←iz];exact gp _ (fD _ Ih)
  apply vF (a:=c);rw[cE 4,←yZ];clear f1 f2 gv gq gu gg hu bH cN yZ aH iz g be;generalize x*sW ck p*c=V at b1 ⊢;generalize hB p=B at b1 a3 ⊢;omega
 ·intro k E ef aA;rw[←hx];unfold sW Bd;have hp:2^E*2^(-ck).toNat=2^(64-b)*2^ck.toNat*2^k:=by
   rw[←cm,←cm,←cm];congr 1;omega
  calc d*10^p.toNat*2^E*(2^(-ck).toNat*10^(-p).toNat)=d*10^p.toNat*(2^E*2^(-ck).toNat)*10^(-p).toNat:=by ac_rfl
   _=d*2^(64-b)*(2^ck.toNat*10^p.toNat)*(2^k*10^(-p).toNat):=by rw[hp];ac_rfl
theorem ad5 {P Q X Y c:Nat} (gb:0<Y) (an:0<c) (h:P*Y=X*c) (ma:Q*Y=Y*c):av.e8 P Q=av.e8 X Y:=by
 rw[←av.CX P Q gb,h,ma,av.CX X Y an]
theorem MO {p q n:Nat} (aE:0<q) (h:p≤n*q):av.e8 p q≤n:=by
 have e:=ky p q;have aF:=eW p aE;unfold av.e8;generalize p/q=f at e ⊢;generalize p%q=r at e aF ⊢;have aT:q*f=f*q:=dx _ _;rcases eh f n with aa | aa
 ·have:=O1 (au (q<2*r)||(q==2*r&&f%2==1));omega
 ·have Ii:f=n:=by
   rcases eh n f with ae | ae
   ·exfalso;have:=fD q ae;rw[Nat.succ_mul] at this;omega
   ·omega
  subst Ii;have vg:r=0:=by omega
  subst vg;have:(au (q<2*0)||(q==2*0&&f%2==1))=ab:=by
   rw[IQ];exact⟨by rw[ux];omega,by rw[BB];left;rw[cH];omega⟩
  rw[this];simp
theorem ad6 {p q n:Nat} (aE:0<q) (h:n*q≤p):n≤av.e8 p q:=by
 unfold av.e8;have:=(kP aE).2 h;omega
theorem ad7 {p q n:Nat} (aE:0<q) (h:2*p<(2*n+1)*q):av.e8 p q≤n:=by
 rcases eh (n*q) p with aa | aa
 ·refine Jv (av.MM aE (.inl ?_) (.inl h));rw[cE];omega
 ·exact MO aE aa
theorem ad8 {m k:Nat} {e:Int} (aa:4503599627370496≤m) (ae:m≤9007199254740991) (he:e=(k:Int)-1074) :
 vz m e=(min (k*4503599627370496+m) 9218868437227405312,au (min (k*4503599627370496+m) 9218868437227405312=9218868437227405312)):=by
 unfold vz;rw[aU (by omega)];by_cases h:972≤e
 ·rw[ba h];have:min (k*4503599627370496+m) 9218868437227405312=9218868437227405312:=by omega
  rw[this];rfl
 ·rw[aU h];have aH:min (k*4503599627370496+m) 9218868437227405312=k*4503599627370496+m:=by omega
  have aT:(1075+e).toNat=k+1:=by omega
  rw[aH,aT,bx (by omega),show m-4503599627370496+(k+1)*4503599627370496=k*4503599627370496+m by omega]
theorem arJ {X Y:Nat} (gb:0<Y) (aa:18014398509481983*Y≤2*X) (ae:X<9007199254740992*Y):av.e8 X (2*Y)=4503599627370496∧av.e8 X Y=9007199254740992:=by
 constructor
 ·obtain⟨Z,iz⟩:∃Z,2*Y=Z:=⟨_,rfl⟩;rw[iz];have b1:18014398509481983*Z≤4*X:=by omega
  have a2:X<4503599627370496*Z:=by omega
  have arK:0<Z:=by omega
  clear aa ae iz;refine av.MM arK (.inl ?_) (.inl ?_)
  ·show 9007199254740992*Z<2*X+Z;omega
  ·show 2*X<9007199254740993*Z;omega
 ·refine av.MM gb ?_ (.inl ?_)
  ·rcases eh (18014398509481984*Y) (2*X+Y)with iE | iE
   ·exact .inl iE
   ·refine .inr ⟨Oe ?_ iE,rfl⟩;show 18014398509481984*Y≤2*X+Y;clear iE ae;omega
  ·show 2*X<18014398509481985*Y;omega
theorem arL {d b E:Nat} {p:Int} (ef:E=1074) (dD:1≤b) (bg:b≤64) (gv:2^(b-1)≤d) (gq:d<2^b) (aa:-345≤p) (ae:p≤310) :
 vA d b p=(iC E (d,p),au (iC E (d,p)=9218868437227405312)):=by
 obtain⟨X,Y,gb,hu,jg,sQ,a1,aF⟩:=ad4 dD bg gv gq aa ae;obtain⟨k,aA⟩:∃k:Nat,(k:Int)=1074-np b p:=⟨(1074-np b p).toNat,by unfold np;omega⟩;have y0:=aF k E ef aA;have ma:0<10^(-p).toNat:=dK (by decide);obtain⟨P,hI⟩:∃P,d*10^p.toNat*2^E=P:=⟨_,rfl⟩;obtain⟨Q,MP⟩:∃Q,10^(-p).toNat=Q:=⟨_,rfl⟩;have rV:iC E (d,p)=av.er P Q:=by unfold iC;rw[hI,MP]
 rw[rV];rw[hI,MP] at y0;rw[MP] at ma;clear aF hI MP rV gv gq;have hK:0<2^k:=ez k;have Be:∀n,n*2^k≤P/Q↔n*Y≤X:=by
  intro n;rw[kP ma];have aH:n*2^k*Q*Y=n*Y*(2^k*Q):=by ac_rfl
  have an:0<2^k*Q:=lM hK ma;constructor
  ·intro h;have:=fD Y h;rw[y0,aH] at this;exact By this an
  ·intro h;have:=fD (2^k*Q) h;rw[←aH,←y0] at this;exact By this gb
 have qg:∀j,2^j*Y≤X→X<2^(j+1)*Y→(P/Q).log2=j+k:=by
  intro j aJ bQ;apply av.Gx
  ·rw[cm];exact (Be _).2 aJ
  ·rw[show j+k+1=j+1+k by omega,cm];rcases eh (P/Q) (2^(j+1)*2^k)with h | h
   ·exact h
   ·have:=(Be _).1 h;omega
 have Bf:av.e8 P (Q*2^k)=av.e8 X Y:=ad5 gb (lM hK ma) y0 (by ac_rfl);have MQ:av.e8 P (Q*2^(k+1))=av.e8 X (2*Y):=by
  refine ad5 (c:=2^(k+1)*Q) (by omega) (lM (ez _) ma) ?_ (by ac_rfl);calc P*(2*Y)=2*(P*Y):=by ac_rfl
   _=X*(2^(k+1)*Q):=by rw[y0,ei];ac_rfl
 unfold vA;by_cases Bg:64≤yY b p
 ·rw[ba Bg];have fs:=a1 Bg;have h4:k=0:=by
   unfold yY at Bg;unfold np at Bg aA;omega
  subst h4;have aX:P/Q=0:=by
   have:=(Be 1);rw[hn,fW,fW] at this;rcases kd (P/Q)with h | h
   ·exact h
   ·have:=this.1 h;omega
  have ar:av.e8 X Y=0:=av.MM gb (.inl (by omega)) (.inl (by omega));have:av.er P Q=0:=by
   unfold av.er;rw[aX,show Nat.log2 0-52=0 from rfl,Bf,ar];rfl
  rw[this];rfl
 ·rw[aU Bg,hu];clear a1 Bg hu;by_cases fR:36028797018963966≤kb (4*X) Y
  ·have fs:=(UX (n:=18014398509481983) gb).1 fR;have hm:ur (kb (4*X) Y)=av.e8 X (2*Y):=by
    unfold ur;rw[ba fR,ad2 gb,MN (by omega)]
   have he:w8 (kb (4*X) Y) (np b p)=np b p-1:=by unfold w8;rw[ba fR]
   rw[hm,he];clear fR hm he;have UY:av.e8 X (2*Y)≤9007199254740984:=MO (by omega) (by omega);have key:4503599627370496≤av.e8 X (2*Y)∧av.er P Q=min ((k+1)*4503599627370496+av.e8 X (2*Y)) 9218868437227405312:=by
    rcases eh X (9007199254740992*Y)with h | h
    ·obtain⟨m1,m2⟩:=arJ gb fs h;refine⟨by omega,?_⟩;unfold av.er;rw[qg 52 (show 4503599627370496*Y≤X by omega) h,show 52+k-52=k by omega,Bf,m1,m2,show (k+1)*4503599627370496+4503599627370496=k*4503599627370496+9007199254740992 by omega]
    ·refine⟨ad6 (by omega) (by omega),?_⟩;unfold av.er;rw[qg 53 h (show X<18014398509481984*Y by omega),show 53+k-52=k+1 by omega,MQ]
   obtain⟨aG,bj⟩:=key;rw[bj];clear bj Bf MQ qg Be fs sQ jg;generalize av.e8 X (2*Y)=m at UY aG ⊢;exact ad8 (by omega) (by omega) (by omega)
  ·have fs:2*X<18014398509481983*Y:=by
    rcases eh (2*X) (18014398509481983*Y)with h | h
    ·exact h
    ·exact absurd ((UX (n:=18014398509481983) gb).2 h) fR
   have hm:ur (kb (4*X) Y)=av.e8 X Y:=by
    unfold ur;rw[aU fR,MN gb]
   have he:w8 (kb (4*X) Y) (np b p)=np b p:=by unfold w8;rw[aU fR]
   rw[hm,he];clear fR hm he;have UY:av.e8 X Y≤9007199254740991:=ad7 gb fs;rcases eh X (4503599627370496*Y)with h | h
   ·have arM:np b p=1074:=by
     have:¬ np b p<1074:=fun iE=>by have:=jg iE;omega
     unfold np at this ⊢;omega
    have h4:k=0:=by omega
    subst h4;have aX:(P/Q).log2-52=0:=by
     have iE:P/Q<4503599627370496:=by
      have:=Be 4503599627370496;rw[hn,fI] at this;rcases eh (P/Q) 4503599627370496 with iE | iE
      ·exact iE
      ·have:=this.1 iE;omega
     rcases kd (P/Q)with ar | ar
     ·rw[ar];rfl
     ·have:=(nX (k:=52) (by omega)).2 iE;omega
    have FV:av.e8 X Y≤4503599627370496:=MO gb (by omega);have:av.er P Q=av.e8 X Y:=by
     unfold av.er;rw[aX,Bf];omega
    rw[this,arM];clear this aX Bf MQ qg Be fs sQ jg;generalize av.e8 X Y=m at FV ⊢;unfold vz;rcases eh m 4503599627370496 with dm | dm
    ·rw[ba (by omega)];rw[bx (by omega)]
    ·have:m=4503599627370496:=by omega
     subst this;rfl
   ·have aG:4503599627370496≤av.e8 X Y:=ad6 gb h;have bj:av.er P Q=min (k*4503599627370496+av.e8 X Y) 9218868437227405312:=by
     unfold av.er;rw[qg 52 h (show X<9007199254740992*Y by omega),show 52+k-52=k by omega,Bf]
    rw[bj];clear bj Bf MQ qg Be fs sQ jg;generalize av.e8 X Y=m at UY aG ⊢;exact ad8 (by omega) (by omega) (by omega)
theorem arN {d b:Nat} {p:Int} {X Y:Nat} (h:ad3 d b p X Y):w7 d b p<72057594037927936∧ur (w7 d b p)≤9007199254740991:=by
 have gb:=h.y;have sQ:=h.up;rw[h.u];constructor
 ·obtain⟨q,aE⟩:∃q,4*X/Y=q:=⟨_,rfl⟩;have lQ:q<72057594037927872:=by
   rw[←aE,kQ gb];omega
  obtain⟨tS,iq,jM,tT⟩:=ML q;unfold kb;rw[aE];split
  ·rw[tS];omega
  ·omega
 ·unfold ur;by_cases fR:36028797018963966≤kb (4*X) Y
  ·rw[ba fR,ad2 gb,MN (by omega)];have:av.e8 X (2*Y)≤9007199254740984:=MO (by omega) (by omega);omega
  ·rw[aU fR,MN gb];refine ad7 gb ?_;rcases eh (2*X) (18014398509481983*Y)with iE | iE
   ·exact iE
   ·exact absurd ((UX (n:=18014398509481983) gb).2 iE) fR
end o
theorem ad9 (b:Bool) (w:af):Calls prog 263 #[.bool b] w fun e w'=>e=.returned (.int .i64 (if b then 1 else 0))∧w=w':=by
 cases b
 ·go_enter BQ,ntmps263;go_wp2;go_ret;exact⟨rfl,rfl⟩
 ·go_enter BQ,ntmps263;go_wp2;go_ret;exact⟨rfl,rfl⟩
theorem UZ (w:af):Calls prog 264 #[.int .u64 9007199254740992] w fun e w'=>e=.returned (.int .u64 36028797018963966)∧w=w':=by
 go_enter func264,ntmps264;go_wp2;go_ret;exact⟨rfl,rfl⟩
namespace o
def eV (s:Bool):Nat:=if s then 9223372036854775808 else 0
theorem MR {s:Bool} {r:Nat} (aF:r<9223372036854775808):av.D.word s r=r+eV s:=by
 obtain⟨b1,a2,a3⟩:=av.oX s aF;generalize av.D.word s r=x at b1 a2 a3;unfold eV;cases s
 ·simp at a2 ⊢;omega
 ·simp at a2 ⊢;omega
theorem DS (s:Bool):eV s=0∨eV s=9223372036854775808:=by unfold eV;cases s<;>simp
theorem ad' (x:Nat):x &&& 4503599627370496=x/4503599627370496%2*4503599627370496:=by
 have aa:=Nat.and_div_two_pow (a:=x) (b:=4503599627370496) (n:=52);have ae:=Nat.and_mod_two_pow (a:=x) (b:=4503599627370496) (n:=52);have e:(2:Nat)^52=4503599627370496:=rfl;rw[e] at aa ae;rw[show 4503599627370496/4503599627370496=1 from rfl,En] at aa;rw[show 4503599627370496%4503599627370496=0 from rfl,Nat.and_zero] at ae;generalize x &&& 4503599627370496=y at aa ae ⊢;omega
theorem PX (x:Nat):x &&& 9223372036854775808=x/9223372036854775808%2*9223372036854775808:=by
 have aa:=Nat.and_div_two_pow (a:=x) (b:=9223372036854775808) (n:=63);have ae:=Nat.and_mod_two_pow (a:=x) (b:=9223372036854775808) (n:=63);have e:(2:Nat)^63=9223372036854775808:=rfl;rw[e] at aa ae;rw[show 9223372036854775808/9223372036854775808=1 from rfl,En] at aa;rw[show 9223372036854775808%9223372036854775808=0 from rfl,Nat.and_zero] at ae;generalize x &&& 9223372036854775808=y at aa ae ⊢;omega
theorem U0 {l h:Nat} (ao:l<4503599627370496):l ||| h*4503599627370496=h*4503599627370496+l:=by
 have:=oJ (i:=52) (b:=l) ao h;have e:(2:Nat)^52=4503599627370496:=rfl;rw[e] at this;rw[si,dx h,this]
theorem aea {l k:Nat} (s:Bool) (ao:l<4503599627370496) (aA:k<2048):(l+eV s) ||| k*4503599627370496=l+k*4503599627370496+eV s:=by
 rcases DS s with h | h
 ·rw[h,jd,U0 ao];omega
 ·rw[h];have aH:l+9223372036854775808=l ||| 2048*4503599627370496:=by rw[U0 ao];omega
  have aT:k*4503599627370496 ||| 2048*4503599627370496=(2048+k)*4503599627370496:=by
   have:=oJ (i:=63) (b:=k*4503599627370496) (by omega) 1;have e:(2:Nat)^63=9223372036854775808:=rfl;rw[e,fI] at this;rw[si,show 2048*4503599627370496=9223372036854775808 from rfl,←this];omega
  rw[aH,Nat.or_assoc,si (2048*4503599627370496),aT,U0 ao];omega
theorem arO (s:Bool):eV s ||| 9218868437227405312=9218868437227405312+eV s:=by
 unfold eV;cases s<;>decide
theorem aeb {m:Nat} (s:Bool) (hm:m<9223372036854775808):eV s ||| m=m+eV s:=by
 rcases DS s with h | h
 ·rw[h,Nat.zero_or,jd]
 ·rw[h];have:=oJ (i:=63) (b:=m) hm 1;have e:(2:Nat)^63=9223372036854775808:=rfl;rw[e,fI] at this;rw[←this];omega
theorem arP {m:Nat} (s:Bool) (aa:4503599627370496≤m) (ae:m<9007199254740992):(m+eV s) &&& (18446744073709551615-4503599627370496)=m-4503599627370496+eV s:=by
 obtain⟨l,rfl⟩:∃l,m=l+4503599627370496:=⟨m-4503599627370496,by omega⟩;have ao:l<4503599627370496:=by omega
 rw[nt];have aH:=aea s ao (k:=1) (by omega);rw[fW] at aH;rw[←aH,Nat.and_or_distrib_right];have n5:4503599627370496 &&& (18446744073709551615-4503599627370496)=0:=by decide
 rw[n5,Nat.or_zero];have aT:(l+eV s) &&& 18446744073709551615=l+eV s:=by
  have:=D7 (l+eV s) 64;rw[show 2^64-1=18446744073709551615 from rfl] at this;rw[this,eF];rcases DS s with h | h<;>rw[h]<;>omega
 have b8:(l+eV s) &&& 4503599627370496=0:=by
  rw[ad'];rcases DS s with h | h<;>rw[h]<;>omega
 have eb:(18446744073709551615:Nat)=(18446744073709551615-4503599627370496) ||| 4503599627370496:=by decide
 rw[eb,V2,b8,Nat.or_zero] at aT;exact aT
end o
theorem y1 (n:Int) (w:af):(callFunc 287 #[.int .u64 n]).run prog w=.ok (.value (.float .f64 n.toNat)) w:=by
 rw[zg func287 (by kernel_rfl) (by kernel_rfl) (by kernel_rfl) (show Extern.find _=some Extern.MathFloatBits.float64frombits by kernel_rfl)];rfl
def Bh (neg:Bool) (x:Nat×Bool):Value:=.tuple #[.float .f64 (av.D.word neg x.1),if x.2 then .iface 188 (.int .i64 1) else .nilIface]
theorem MS {a b:Nat} {v u:Value} (aa:a=b) (ae:v=u):Ending.returned (.tuple #[.float .f64 a,v])=.returned (.tuple #[.float .f64 b,u]):=by rw[aa,ae]
theorem aec (neg:Bool) (m:Nat) (e:Int) (w:af) (hm:m<9007199254740992) (mR:-1074≤e) (qk:e≤2000) :
 Calls prog 300 #[.int .u64 (m+o.eV neg:Nat),.int .i64 e] w fun bm w'=>bm=.returned (Bh neg (o.vz m e))∧w=w':=by
 have a1:=o.DS neg;have ae:=y1;obtain⟨x,hx⟩:∃x,m+o.eV neg=x:=⟨_,rfl⟩;have U1:x<18446744073709551616:=by omega
 have hand:=u64_and_nat x 4503599627370496 U1 (by decide);rw[o.ad'] at hand;rw[hx];unfold Bh o.vz;by_cases ad:m/4503599627370496%2=0
 ·rw[ba ad];have aX:x/4503599627370496%2=0:=by omega
  rw[aX] at hand;have arQ:bits .and .u64 (x:Int) 4503599627370496=0:=by simpa using hand
  have de:=I (show x=av.D.word neg m by rw[o.MR (by omega)];exact hx.symm);clear hand aX ad a1 hx;go_enter PJ,O2;go_wp2;go_ret2;exact⟨MS ((qc _).trans de.out) rfl,rfl⟩
 ·rw[aU ad];have jl:4503599627370496≤m:=by omega
  have aX:x/4503599627370496%2=1:=by omega
  rw[aX] at hand;have arQ:bits .and .u64 (x:Int) 4503599627370496=4503599627370496:=by simpa using hand
  by_cases fe:972≤e
  ·rw[ba fe];have aS:=u64_and_nat x 9223372036854775808 U1 (by decide);rw[o.PX] at aS;have HX:x/9223372036854775808%2*9223372036854775808=o.eV neg:=by omega
   rw[HX] at aS;have su:bits .and .u64 (x:Int) 9223372036854775808=(o.eV neg:Int):=by simpa using aS
   have b6:=zH (o.eV neg) 9218868437227405312 (by omega) (by decide);rw[o.arO] at b6;have sn:bits .or .u64 (o.eV neg:Int) 9218868437227405312=((9218868437227405312+o.eV neg:Nat):Int):=by simpa using b6
   have de:=I (show 9218868437227405312+o.eV neg=av.D.word neg 9218868437227405312 from (o.MR (by decide)).symm);have dY:9218868437227405312+o.eV neg<18446744073709551616:=by omega
   generalize 9218868437227405312+o.eV neg=y at sn de dY;generalize o.eV neg=cy at su sn;clear hand aS aX ad a1 hx HX b6;go_enter PJ,O2;go_wp2;go_ret2;exact⟨MS ((qc _).trans de.out) rfl,rfl⟩
  ·rw[aU fe];obtain⟨k,aA⟩:∃k:Nat,1075+e=k:=⟨(1075+e).toNat,by omega⟩;have aS:=Ot x 4503599627370496 U1 (by decide);rw[←hx,o.arP neg jl hm,hx] at aS;have su:bits .andNot .u64 (x:Int) 4503599627370496=((m-4503599627370496+o.eV neg:Nat):Int):=by simpa using aS
   have b6:=zH (m-4503599627370496+o.eV neg) (k*4503599627370496) (by omega) (by omega);rw[o.aea neg (by omega) (by omega)] at b6;have de:=I (show m-4503599627370496+k*4503599627370496+o.eV neg=av.D.word neg (m-4503599627370496+k*4503599627370496) from (o.MR (by omega)).symm);rw[aA,qc];obtain⟨r,aF⟩:∃r,av.D.word neg (m-4503599627370496+k*4503599627370496)=r:=⟨_,rfl⟩;dsimp only;rw[aF] at de ⊢;clear aF;have fh:k<2047:=by omega
   have aW:m-4503599627370496+k*4503599627370496+o.eV neg<18446744073709551616:=by omega
   have zY:m-4503599627370496+o.eV neg<18446744073709551616:=by omega
   generalize m-4503599627370496+k*4503599627370496+o.eV neg=y at b6 de aW;generalize m-4503599627370496+o.eV neg=z at su b6 zY;have sn:bits .or .u64 (z:Int) ((k:Int)*4503599627370496)=(y:Int):=by simpa using b6
   clear hand aS aX ad a1 hx b6;go_enter PJ,O2;go_wp2;go_ret2;exact⟨MS ((qc _).trans de.out) rfl,rfl⟩
theorem aed (d:Nat) (p:Int) (neg:Bool) (w:af) (fr:d≠0) (aL:d<18446744073709551616) (eU:-345≤p) (fE:p≤310) (bn:qh w) (b5:11<w.heap.size) :
 Calls prog 289 #[.int .u64 d,.int .i64 p,.int .u64 (o.eV neg:Nat)] w fun bm w'=>bm=.returned (Bh neg (o.vA d (Lib.bitLen d) p))∧Below w.heap.size w w':=by
 obtain⟨cd,cF,fw⟩:=o.FA aL fr;have lP:=Lib.bitLen_le d 64 (aC _) aL;obtain⟨X,Y,kC⟩:=o.ad4 cd lP cF fw eU fE;obtain⟨dV,dS⟩:=o.arN kC;obtain⟨b,ad⟩:∃b,Lib.bitLen d=b:=⟨_,rfl⟩;rw[ad] at cd cF fw lP dV dS ⊢;have ay:=I ad;clear kC ad;obtain⟨l,ao⟩:∃l,p*108853/32768=l:=⟨_,rfl⟩;have cD:=I ao;have Z6:-1200≤l∧l≤1100:=by omega
 have dY:=y1;go_enter func289,ntmps289;go_wp2_with fail;refine (bits_Len64 _ _ (by omega) (by omega)).mono ?_;rintro e w' ⟨rfl,rfl⟩;rw[qc,ay.out];go_wp2_with fail;refine (Fg _ _ (by omega) (by omega)).mono ?_;rintro bm w' ⟨rfl,rfl⟩;rw[ao];clear ao;go_wp2_with fail;obtain⟨e,he⟩:∃e,min 1074 (53-(b:Int)-l)=e:=⟨_,rfl⟩;rw[he];have mR:-1200≤e:=by omega
 have qk:e≤1074:=by omega
 have dd:=I (show o.np b p=e by unfold o.np;rw[cD.out];exact he);obtain⟨ck,yU⟩:∃ck,e-(64-(b:Int))=ck:=⟨_,rfl⟩;rw[yU];have z1:-1300≤ck:=by omega
 have QN:ck≤1074:=by omega
 have arR:8≤-(ck+l+3):=by omega
 have RH:=I yU;clear he yU;have U2:=I (Fl ck p w'.heap.size (w'.alloc (.cells #[.int .u64 0,.int .u64 0,.int .i64 0] 244)) (v0:=.int .u64 0) (v1:=.int .u64 0) (v2:=.int .i64 0) (T:=244) ⟨by omega,by omega⟩ ⟨by omega,by omega⟩ (bn.below (B:=w'.heap.size) ((aK _ _).alloc (aC _) _) b5) (fX _ _) b5);rw[cD.out] at U2;refine U2.out.mono ?_;rintro bm cq ⟨rfl,kC,dD,eP⟩;have eY:=I (((aK w'.heap.size w').alloc (aC _) (.cells #[.int .u64 0,.int .u64 0,.int .i64 0] 244)).trans dD);have arS:=I kC;obtain⟨c0,c1,c2⟩:=kC;rw[cD.out] at c2;obtain⟨s,a1⟩:∃s,-(ck+l+3)=s:=⟨_,rfl⟩;rw[a1] at c2 arR;have aN:=I (show o.yY b p=s by unfold o.yY;rw[dd.out,cD.out,RH.out];exact a1);have azg:s≤2600:=by omega
 have aee:=I a1;have jF:=o.DS neg;clear dD a1 U2;by_cases kA:64≤s
 ·have b6:bits .or .u64 (o.eV neg:Int) 0=(o.eV neg:Int):=by
   have:=zH (o.eV neg) 0 (by omega) (by omega);simpa using this
  have bG:=I (show o.eV neg=av.D.word neg 0 by rw[o.MR (by decide),hc]);have bF:=I (show o.vA d b p=(0,ab) by unfold o.vA;rw[aN.out,ba kA]);have arT:o.eV neg<18446744073709551616:=by omega
  generalize o.eV neg=cy at b6 bG arT ⊢;clear jF;go_wp2;go_ret2;rw[bF.out];exact⟨MS ((qc _).trans bG.out) rfl,eY.out⟩
 ·have gg:d*2^(64-b)<18446744073709551616:=by
   have:=jG fw (ez (64-b));rw[←cm,show b+(64-b)=64 by omega] at this;exact this
  have arU:IntKind.u64.wrap ((d:Int)*2^(64-b))=((d*2^(64-b):Nat):Int):=by
   rw[←pA gg];simp
  have Bg:s<64:=by omega
  obtain⟨x,hx⟩:∃x,d*2^(64-b)=x:=⟨_,rfl⟩;rw[hx] at arU gg;have b9:=I hx;clear hx;have aef:=I (rk x w'.heap.size ck p cq gg ⟨by omega,by omega⟩ (by rw[cD.out,aee.out];omega) (by rw[cD.out,aee.out];omega) arS.out);have mF:=I (show o.w7 d b p=o.fJ x ck p by unfold o.w7;rw[b9.out,dd.out,RH.out]);rw[mF.out] at dV dS;go_wp2_with fail;refine aef.out.mono ?_;rintro bm aP ⟨rfl,lu,rfl⟩;obtain⟨bo,lB⟩:∃bo,o.fJ x ck p=bo:=⟨_,rfl⟩;rw[lB] at mF dV dS ⊢;clear lB aef;have azh:=fun (w:af)=>UZ w;have hand:bits .and .u64 (bo:Int) 1=((bo%2:Nat):Int):=Wk (show bo<18446744073709551616 by omega);by_cases fR:36028797018963966≤bo
  ·have aeg:(36028797018963966:Int)≤(bo:Int):=by omega
   obtain⟨V,cA⟩:∃V,bo/2 ||| bo%2=V:=⟨_,rfl⟩;have Hi:V<36028797018963968:=by
    rw[←cA];have:bo/2 ||| bo%2<2^55:=zm (by omega) (by omega)
    exact this
   have gU:=zH (bo/2) (bo%2) (by omega) (by omega);rw[cA] at gU;have dy:o.ur bo=(V+1+V/4%2)/4:=by unfold o.ur;rw[ba fR,cA]
   have Ij:o.w8 bo e=e-1:=by unfold o.w8;rw[ba fR]
   rw[dy] at dS;have di:=I dy;have wF:=I Ij;clear dy Ij cA;have azi:bits .or .u64 ((bo:Int)/2) ((bo:Int)%2)=(V:Int):=by simpa using gU
   clear gU;go_wp2_with (first | (go_at_call 264;refine (UZ _).mono ?_;rintro bm cc ⟨rfl,rfl⟩) | (go_at_call 263;refine (ad9 _ _).mono ?_;rintro bm cc ⟨rfl,rfl⟩));refine (Cb V _ (by omega)).mono ?_;rintro bm cc ⟨rfl,rfl⟩;obtain⟨m,hm⟩:∃m,(V+1+V/4%2)/4=m:=⟨_,rfl⟩;rw[hm] at di dS ⊢;have vk:=zH (o.eV neg) m (by omega) (by omega);rw[o.aeb neg (by omega)] at vk;have Ik:=I (fun w=>aec neg m (-(e-1)) w (by omega) (by omega) (by omega));obtain⟨y,aW⟩:∃y,m+o.eV neg=y:=⟨_,rfl⟩;rw[aW] at vk Ik;clear hm aW;have bF:=I (show o.vA d b p=o.vz m (-(e-1)) by unfold o.vA;rw[aN.out,aU (by omega),mF.out,di.out,dd.out,wF.out]);go_wp2_with fail;refine (Ik.out _).mono ?_;rintro bm cc ⟨rfl,rfl⟩;have sM:=I (below_drewN eY.out lu);obtain⟨Bi,Il⟩:∃Bi,o.vz m (-(e-1))=Bi:=⟨_,rfl⟩;rw[Il] at bF ⊢;obtain⟨f,a7⟩:=Bi;clear Il;unfold Bh;cases a7;all_goals
    go_wp2;go_ret2;rw[bF.out];exact⟨rfl,sM.out⟩
  ·have aeg:(bo:Int)<36028797018963966:=by omega
   have gU:bits .or .u64 (bo:Int) ((bo:Int)%2)=(bo:Int):=by
    have h:=zH bo (bo%2) (by omega) (by omega);have aH:bo ||| bo%2=bo:=by
     rw[←En];apply Eh;intro i;rw[Nat.testBit_or,Oi];cases bo.testBit i<;>simp
    rw[aH] at h;simpa using h
   have dy:o.ur bo=(bo+1+bo/4%2)/4:=by unfold o.ur;rw[aU fR]
   have Ij:o.w8 bo e=e:=by unfold o.w8;rw[aU fR]
   rw[dy] at dS;have di:=I dy;have wF:=I Ij;have arV:=I dS;clear dy Ij dS fR;go_wp2_with fail;refine (UZ _).mono ?_;rintro bm cc ⟨rfl,rfl⟩;go_wp2_with fail;refine (ad9 _ _).mono ?_;rintro bm cc ⟨rfl,rfl⟩;rw[show au ((36028797018963966:Int)≤(bo:Int))=ab from bx (by omega)];rw[aU (by decide)];clear aeg;go_wp2_with fail;refine (Cb bo _ (by omega)).mono ?_;rintro bm cc ⟨rfl,rfl⟩;have dS:=arV.out;obtain⟨m,hm⟩:∃m,(bo+1+bo/4%2)/4=m:=⟨_,rfl⟩;rw[hm] at di dS ⊢;have vk:=zH (o.eV neg) m (by omega) (by omega);rw[o.aeb neg (by omega)] at vk;have Ik:=I (fun w=>aec neg m (-(e)) w (by omega) (by omega) (by omega));obtain⟨y,aW⟩:∃y,m+o.eV neg=y:=⟨_,rfl⟩;rw[aW] at vk Ik;clear hm aW;have bF:=I (show o.vA d b p=o.vz m (-(e)) by unfold o.vA;rw[aN.out,aU (by omega),mF.out,di.out,dd.out,wF.out]);go_wp2_with fail;refine (Ik.out _).mono ?_;rintro bm cc ⟨rfl,rfl⟩;have sM:=I (below_drewN eY.out lu);obtain⟨Bi,Il⟩:∃Bi,o.vz m (-(e))=Bi:=⟨_,rfl⟩;rw[Il] at bF ⊢;obtain⟨f,a7⟩:=Bi;clear Il;unfold Bh;cases a7;all_goals
    go_wp2;go_ret2;rw[bF.out];exact⟨rfl,sM.out⟩
namespace o
end o
end Go.Proofs.YtkhphoonnkoipaaGreatDoor
