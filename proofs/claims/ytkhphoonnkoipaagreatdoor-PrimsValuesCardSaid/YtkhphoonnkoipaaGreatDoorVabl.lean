/- Lemmas. -/
import Derived.Test.YtkhphoonnkoipaaGreatDoorVabk
set_option linter.all false
open Go.Proofs.Tryz Go.RowKit Go.Lib
open Option renaming some→U
open Bool renaming true→ai,false→ab
open Decidable renaming decide→au
open Go renaming World→af,Calls→aq
open Go.RowKit renaming Below→ah
namespace Go.Proofs.YtkhphoonnkoipaaGreatDoor
structure afj (x:fo) (bC:Nat):Prop where
 dE:-9223372036854775808≤x.n
 lu:x.n≤9223372036854775807
 b:∃a:Nat,x.b=a∧a<18446744073709551616
 t:x.t.size≤300000
 v:∃bM bN,x.v=.slice bM bC bN
def D4 (x:fo) (bC c:Nat):Prop:=bC=0∧
 ((x.k=4∧(c=73∨c=76)∧cJ x.n∧x.b=0∧x.t.size=0)∨
  (x.k=5∧c=73∧(∃A,o.fl 10 x.t.data.toList A∧o.bO A∧¬ cJ A)∧x.n=0∧x.b=0)∨
  (x.k=6∧c=70∧x.n=0∧x.t.size=0)∨
  (x.k=7∧c=67∧0≤x.n∧x.n≤2097151∧x.b=0∧x.t.size=0)∨
  (x.k=8∧c=83∧x.t.size≤65536∧x.n=0∧x.b=0)∨
  (x.k=9∧c=89∧x.t.size≤65536∧x.n=0∧x.b=0))
def afk (x:fo) (bC c:Nat):Prop:=∃y is,qU x c y is∧(is=ai↔D4 x bC c)∧(∃a l q,y.v=.slice a l q)∧(is=ai→dW c y∧y.k=x.k∧y.n=x.n∧y.b=x.b∧y.t=x.t)
theorem avD (t:ByteArray):ax t.data.toList=t:=rfl
theorem UU (t:ByteArray) (bn:t.size≤300000):∃(A bm:Int),o.bO A∧(bm=0↔∃B,o.fl 10 t.data.toList B∧o.bO B)∧(bm=0→o.fl 10 t.data.toList A)∧
 ∀W,aq prog 52 #[.string t,.int .i64 10] W fun e w'=>e=.returned (.tuple #[.agg #[.bool (au (A<0)),.string (ax (o.bs A.natAbs))],.int .i64 bm])∧ah W.heap.size W w':=by
 have ao:t.data.toList.length≤300000:=by
  have:t.data.toList.length=t.size:=by rw[uz];rfl
  omega
 have hp:=fun W=>X9 t.data.toList W ao;rw[avD] at hp;by_cases h:∃m,o.fl 10 t.data.toList m
 ·obtain⟨m,hm⟩:=h;have key:∀W,aq prog 52 #[.string t,.int .i64 10] W fun e w'=>e=.returned (e7 m)∧ah W.heap.size W w':=fun W=>(hp W).mono fun e w' ⟨aa,ae⟩=>by
   refine⟨?_,ae⟩;rcases aa with ⟨q,aE,rfl⟩ | ⟨lZ,_⟩
   ·rw[o.CR (by decide) aE hm]
   ·exact absurd hm (lZ m)
  by_cases az:o.bO m
  ·refine⟨m,0,az,⟨fun _=>⟨m,hm,az⟩,fun _=>rfl⟩,fun _=>hm,fun W=>(key W).mono fun e w' ⟨aa,ae⟩=>⟨?_,ae⟩⟩;rw[aa];unfold e7;rw[ba az];rfl
  ·refine⟨0,92,tZ (by omega) (by omega),⟨fun h=>by omega,fun⟨q,aa,ae⟩=>?_⟩,fun h=>by omega,fun W=>(key W).mono fun e w' ⟨aa,ae⟩=>⟨?_,ae⟩⟩
   ·rw[o.CR (by decide) aa hm] at ae;exact absurd ae az
   ·rw[aa];unfold e7;rw[aU az];rfl
 ·refine⟨0,93,tZ (by omega) (by omega),⟨fun h=>by omega,fun⟨q,aa,_⟩=>absurd ⟨q,aa⟩ h⟩,fun h=>by omega,fun W=>(hp W).mono fun e w' ⟨aa,ae⟩=>⟨?_,ae⟩⟩;rcases aa with ⟨q,aE,_⟩ | ⟨_,aJ⟩
  ·exact absurd ⟨q,aE⟩ h
  ·rw[aJ];rfl
theorem avE {x:fo} {bC:Nat} (hx:afj x bC) (c:Nat):afk x bC c:=by
 obtain⟨k,n,b,t,v⟩:=x;obtain⟨aa,ae,ad,bn,bM,bN,rfl⟩:=hx;simp only at aa ae ad bn;unfold afk D4;simp only;by_cases bQ:k=4
 ·subst bQ;refine⟨⟨4,n,b,t,.slice bM bC bN,au (n<0),ax (o.bs n.natAbs)⟩,_,fun W=>aaD n b t bM bC bN c W aa ae,⟨fun h=>?_,fun h=>?_⟩,⟨bM,bC,bN,rfl⟩,fun h=>⟨?_,rfl,rfl,rfl,rfl⟩⟩
  ·have h:=jb h;exact⟨h.1,.inl ⟨rfl,h.2⟩⟩
  ·obtain⟨ar,h⟩:=h;refine bE ?_;rcases h with h | h | h | h | h | h<;>first | exact⟨ar,h.2⟩ | (exfalso;have fe:=h.1;simp at fe)
  ·have h:=jb h;exact⟨⟨bM,bC,bN,rfl⟩,fun _=>⟨n,rfl,tZ aa (by omega)⟩,fun _=>h.2.2.1,fun an=>by omega,fun an=>by omega,fun an=>by omega⟩
 by_cases dm:k=5
 ·subst dm;obtain⟨A,bm,be,he,aV,hp⟩:=UU t bn;have VJ:∀is,(∀W,aq prog 14 #[bw 5 n b t (.slice bM bC bN),.int .u8 c] W fun e w'=>e=.returned (.tuple #[hA 5 n b t (.slice bM bC bN) (au (A<0)) (ax (o.bs A.natAbs)),.bool is])∧ah W.heap.size W w')→(is=ai↔bC=0∧c=73∧(bm=0∧¬ cJ A)∧n=0∧b=0)→∃y is,qU ⟨5,n,b,t,.slice bM bC bN⟩ c y is∧(is=ai↔D4 ⟨5,n,b,t,.slice bM bC bN⟩ bC c)∧(∃a l q,y.v=.slice a l q)∧(is=ai→dW c y∧y.k=5∧y.n=n∧y.b=b∧y.t=t):=fun is an je=>by
   refine⟨⟨5,n,b,t,.slice bM bC bN,au (A<0),ax (o.bs A.natAbs)⟩,is,an,⟨fun h=>?_,fun h=>?_⟩,⟨bM,bC,bN,rfl⟩,fun h=>⟨?_,rfl,rfl,rfl,rfl⟩⟩
   ·have h:=je.1 h;exact⟨h.1,.inr (.inl ⟨rfl,h.2.1,⟨A,aV h.2.2.1.1,be,h.2.2.1.2⟩,h.2.2.2⟩)⟩
   ·obtain⟨ar,h⟩:=h;refine je.2 ?_;rcases h with h | h | h | h | h | h
    ·have fe:=h.1;simp at fe
    ·obtain⟨_,an,⟨B,gT,dP,hf⟩,aF⟩:=h;have afl:=he.2 ⟨B,gT,dP⟩;have:A=B:=o.CR (by decide) (aV afl) gT;exact⟨ar,an,⟨afl,by rw[this];exact hf⟩,aF⟩
    all_goals (have fe:=h.1;simp at fe)
   ·have h:=je.1 h;exact⟨⟨bM,bC,bN,rfl⟩,fun _=>⟨A,rfl,be⟩,fun an=>by omega,fun an=>by omega,fun an=>by omega,fun an=>by omega⟩
  by_cases bd:cJ A
  ·have nj:fU A=.tuple #[.int .i64 A,.bool ai]:=by
    unfold fU;rw[ba];unfold cJ at bd;unfold In64;omega
   exact VJ ab (fun W=>aaE n b t bM bC bN c A bm be hp W bd nj) ⟨fun h=>(by cases h),fun h=>absurd bd h.2.2.1.2⟩
  ·by_cases ga:In64 A
   ·have nj:fU A=.tuple #[.int .i64 A,.bool ai]:=by unfold fU;rw[ba ga]
    exact VJ _ (fun W=>aaF n b t bM bC bN c A bm be hp W bd nj) ⟨fun h=>by have h:=jb h;exact⟨h.1,h.2.1,⟨h.2.2.1,bd⟩,h.2.2.2⟩,fun h=>bE ⟨h.1,h.2.1,h.2.2.1.1,h.2.2.2⟩⟩
   ·have nj:fU A=.tuple #[.int .i64 0,.bool ab]:=by unfold fU;rw[aU ga]
    exact VJ _ (fun W=>aaG n b t bM bC bN c A bm be hp W bd nj) ⟨fun h=>by have h:=jb h;exact⟨h.1,h.2.1,⟨h.2.2.1,bd⟩,h.2.2.2⟩,fun h=>bE ⟨h.1,h.2.1,h.2.2.1.1,h.2.2.2⟩⟩
 by_cases ga:k=6
 ·subst ga;refine⟨⟨6,n,b,t,.slice bM bC bN,ab,⟨#[]⟩⟩,_,fun W=>alj n b t bM bC bN c W,⟨fun h=>?_,fun h=>?_⟩,⟨bM,bC,bN,rfl⟩,fun h=>⟨?_,rfl,rfl,rfl,rfl⟩⟩
  ·have h:=jb h;exact⟨h.1,.inr (.inr (.inl ⟨rfl,h.2⟩))⟩
  ·obtain⟨ar,h⟩:=h;refine bE ?_;rcases h with h | h | h | h | h | h<;>first | exact⟨ar,h.2⟩ | (exfalso;have fe:=h.1;simp at fe)
  ·have h:=jb h;exact⟨⟨bM,bC,bN,rfl⟩,fun an=>by omega,fun an=>by omega,fun _=>ad,fun an=>by omega,fun an=>by omega⟩
 by_cases iL:k=7
 ·subst iL;refine⟨⟨7,n,b,t,.slice bM bC bN,ab,⟨#[]⟩⟩,_,fun W=>alk n b t bM bC bN c W,⟨fun h=>?_,fun h=>?_⟩,⟨bM,bC,bN,rfl⟩,fun h=>⟨?_,rfl,rfl,rfl,rfl⟩⟩
  ·have h:=jb h;exact⟨h.1,.inr (.inr (.inr (.inl ⟨rfl,h.2⟩)))⟩
  ·obtain⟨ar,h⟩:=h;refine bE ?_;rcases h with h | h | h | h | h | h<;>first | exact⟨ar,h.2⟩ | (exfalso;have fe:=h.1;simp at fe)
  ·have h:=jb h;exact⟨⟨bM,bC,bN,rfl⟩,fun an=>by omega,fun an=>by omega,fun an=>by omega,fun _=>⟨h.2.2.1,h.2.2.2.1⟩,fun an=>by omega⟩
 by_cases jn:k=8
 ·subst jn;refine⟨⟨8,n,b,t,.slice bM bC bN,ab,⟨#[]⟩⟩,_,fun W=>aaC n b t bM bC bN c W,⟨fun h=>?_,fun h=>?_⟩,⟨bM,bC,bN,rfl⟩,fun h=>⟨?_,rfl,rfl,rfl,rfl⟩⟩
  ·have h:=jb h;exact⟨h.1,.inr (.inr (.inr (.inr (.inl ⟨rfl,h.2⟩))))⟩
  ·obtain⟨ar,h⟩:=h;refine bE ?_;rcases h with h | h | h | h | h | h<;>first | exact⟨ar,h.2⟩ | (exfalso;have fe:=h.1;simp at fe)
  ·have h:=jb h;exact⟨⟨bM,bC,bN,rfl⟩,fun an=>by omega,fun an=>by omega,fun an=>by omega,fun an=>by omega,fun _=>h.2.2.1⟩
 by_cases fe:k=9
 ·subst fe;refine⟨⟨9,n,b,t,.slice bM bC bN,ab,⟨#[]⟩⟩,_,fun W=>ali n b t bM bC bN c W,⟨fun h=>?_,fun h=>?_⟩,⟨bM,bC,bN,rfl⟩,fun h=>⟨?_,rfl,rfl,rfl,rfl⟩⟩
  ·have h:=jb h;exact⟨h.1,.inr (.inr (.inr (.inr (.inr (⟨rfl,h.2⟩)))))⟩
  ·obtain⟨ar,h⟩:=h;refine bE ?_;rcases h with h | h | h | h | h | h<;>first | exact⟨ar,h.2⟩ | (exfalso;have fe:=h.1;simp at fe)
  ·have h:=jb h;exact⟨⟨bM,bC,bN,rfl⟩,fun an=>by omega,fun an=>by omega,fun an=>by omega,fun an=>by omega,fun _=>h.2.2.1⟩
 refine⟨⟨0,0,0,⟨#[]⟩,.slice none 0 0,ab,⟨#[]⟩⟩,ab,fun W=>alo k n b t bM bC bN c W (beq_eq_false_iff_ne.2 bQ) (beq_eq_false_iff_ne.2 dm) (beq_eq_false_iff_ne.2 ga) (beq_eq_false_iff_ne.2 iL) (beq_eq_false_iff_ne.2 jn) (beq_eq_false_iff_ne.2 fe),⟨fun h=>(by cases h),fun h=>?_⟩,⟨none,0,0,rfl⟩,fun h=>(by cases h)⟩;obtain⟨_,h⟩:=h;rcases h with h | h | h | h | h | h
 ·exact absurd h.1 bQ
 ·exact absurd h.1 dm
 ·exact absurd h.1 ga
 ·exact absurd h.1 iL
 ·exact absurd h.1 jn
 ·exact absurd h.1 fe
theorem afm {α:Type} {P:Nat→α→Prop}:∀{m:Nat},(∀i,i<m→∃y,P i y)→∃l:List α,l.length=m∧∀i y,l[i]? = U y→P i y
 | 0,_=>⟨[],rfl,fun i y h=>by simp at h⟩
 | m+1,h=>by
   obtain⟨l,ao,hp⟩:=afm (m:=m) (fun i aV=>h i (by omega));obtain⟨y,aW⟩:=h m (by omega);refine⟨l++[y],by simp[ao],fun i z aX=>?_⟩;rcases eh i m with aV | aV
   ·rw[II (by omega)] at aX;exact hp i z aX
   ·rw[Bx (by omega)] at aX;have je:i-l.length=0:=by
     have:=(List.getElem?_eq_some_iff.1 aX).1;simp at this;omega
    rw[je] at aX;simp at aX;subst aX;obtain rfl:i=m:=by omega
    exact aW
theorem avF {P:Nat→Prop} (h:∃i,P i):∃i,P i∧∀j,j<i→¬ P j:=by
 obtain⟨i,aV⟩:=h;induction i using Nat.strongRecOn with
 | _ i dw=>
   by_cases ae:∃j,j<i∧P j
   ·obtain⟨j,bP,hp⟩:=ae;exact dw j bP hp
   ·exact⟨i,aV,fun j bP hp=>ae ⟨j,bP,hp⟩⟩
def VK (w:af) (n:Int) (m:Nat) (e:Ending) (w':af):Prop:=∃k i b t is,(is=ai→sS k i b t∧∃cg,y' n=U cg∧cg.size=m)∧(is=ab→k=0∧i=0∧b=0∧t=⟨#[]⟩)∧e=.returned (.tuple #[bw k i b t (.slice none 0 0),.bool is])∧ah w.heap.size w w'
theorem Nf {w w':af} {n:Int} {m:Nat} {e:Ending} (aa:e=.returned (.tuple #[iA,.bool ab])) (ae:ah w.heap.size w w'):VK w n m e w':=
 ⟨0,0,0,⟨#[]⟩,ab,fun h=>(by cases h),fun _=>⟨rfl,rfl,rfl,rfl⟩,aa,ae⟩
theorem avG {w:af} (he:Env w) (n:Int) (aB:uv n) (cb:List fo) (Ng:Nat→Nat) (a:Option Addr) (c:Nat) (cj:cb≠[]→LA w (.slice a cb.length c) cb) (e4:∀i x,cb[i]? = U x→afj x (Ng i)) :
 aq prog 6 #[.int .i64 n,.slice a cb.length c] w (VK w n cb.length):=by
 cases aA:y' n with
 | none=>exact (avz n a cb.length c w aB (afi aA)).mono fun e w' ⟨aa,ae⟩=>Nf aa ae
 | some cg=>
   have R:=afh he aA;by_cases ao:cg.size=cb.length;case neg=>exact (avA n cg a cb.length c w aB ao R.vT).mono fun e w' ⟨aa,ae⟩=>Nf aa ae
   have dT:cb≠[]:=fun e=>by
    have aa:=R.pos;have ae:cb.length=0:=by rw[e];rfl
    omega
   have dZ:=cj dT;obtain⟨vs,nP,VL⟩:=afm (m:=cb.length) (P:=fun i (y:bB)=>∀x (h:i<cg.size),cb[i]? = U x→∃is,qU x (cg[i]'h).toNat y is∧(is=ai↔D4 x (Ng i) (cg[i]'h).toNat)∧(∃a l q,y.v=.slice a l q)∧(is=ai→dW (cg[i]'h).toNat y)) (fun i aV=>by
    obtain⟨x,hx⟩:∃x,cb[i]? = U x:=⟨_,eE aV⟩;have aE:i<cg.size:=by omega
    obtain⟨y,is,aa,ae,aJ,bQ⟩:=avE (e4 i x hx) (cg[i]'aE).toNat;refine⟨y,fun hr iE x3=>?_⟩;obtain rfl:x=hr:=by rw[hx] at x3;exact hb x3
    exact⟨is,aa,ae,aJ,fun h=>(bQ h).1⟩)
   have nl:∀y ∈ vs,∃a l c,y.v=.slice a l c:=fun y aW=>by
    obtain⟨i,aV,rfl⟩:=NJ aW;have je:i<cb.length:=by omega
    obtain⟨is,_,_,aJ,_⟩:=VL i _ (eE aV) cb[i] (by omega) (eE je);exact aJ
   have hQ:∀x ∈ cb,∃a l c,x.v=.slice a l c:=fun x hx=>by
    obtain⟨i,aV,rfl⟩:=NJ hx;obtain⟨bM,bN,h⟩:=(e4 i _ (eE aV)).v;exact⟨bM,_,bN,h⟩
   have pc:=R.pos;have azO:=R.auE;by_cases u2:∃i,∃x,∃h:i<cg.size,cb[i]? = U x∧¬ D4 x (Ng i) (cg[i]'h).toNat
   ·obtain⟨i0,⟨gK,t',j1,lZ⟩,WC⟩:=avF u2;refine (aaT n cg i0 vs cb (.slice a cb.length c) w R.sm dZ ao nP (by omega) (by omega) (by omega) R.vT nl hQ (fun i x y h aV hx aW W=>?_)).mono fun e w' ⟨aa,ae⟩=>Nf aa ae;obtain⟨is,aa,ae,_,_⟩:=VL i y aW x h hx;have:is=au (i≠i0):=by
     by_cases ls:i=i0
     ·subst ls;rw[j1] at hx;obtain rfl:=hb hx;rw[bx (fun h=>h rfl)];cases is
      ·rfl
      ·exact absurd (ae.1 rfl) lZ
     ·rw[bE ls];refine ae.2 (VZ fun an=>WC i (by omega) ⟨x,h,hx,an⟩)
    rw[←this];exact aa W
   ·have rJ:∀i x (h:i<cg.size),cb[i]? = U x→D4 x (Ng i) (cg[i]'h).toNat:=fun i x h hx=>VZ fun an=>u2 ⟨i,x,h,hx,an⟩;have afn:∀(i:Nat) (x:fo) (y:bB) (h:i<cg.size),cb[i]? = U x→vs[i]? = U y→qU x (cg[i]'h).toNat y ai∧dW (cg[i]'h).toNat y:=fun i x y h hx aW=>by
     obtain⟨is,aa,ae,_,bQ⟩:=VL i y aW x h hx;obtain rfl:is=ai:=ae.2 (rJ i x h hx);exact⟨aa,bQ rfl⟩
    obtain⟨fn,jV,hI⟩:=R.has vs (by omega) (fun i y h aW=>by
     have je:i<cb.length:=by omega
     exact (afn i cb[i] y h (eE je) aW).2)
    refine (aaK n cg fn vs cb fv (.slice a cb.length c) w R.sm dZ ao nP (by omega) (by omega) jV hI nl hQ (fun i x y h hx aW W=>(afn i x y h hx aW).1 W)).mono fun e w' h=>?_;obtain⟨k,i,b,t,is,aa,ae,aJ⟩:=h;cases is
    ·exact Nf ae aJ
    ·exact⟨k,i,b,t,ai,fun _=>⟨aa rfl,cg,aA,ao⟩,fun h=>(by cases h),ae,aJ⟩
def IE (n:Int):Int:=match y' n with | some cg=>cg.size | none=>-1
theorem avH {w:af} (he:Env w) (n:Int) (aB:uv n) (W:af):aq prog 7 #[.int .i64 n] W fun e w'=>e=.returned (.int .i64 (IE n))∧ah W.heap.size W w':=by
 unfold IE;cases aA:y' n with
 | none=>exact avB n W aB (afi aA)
 | some cg=>
   have R:=afh he aA;exact avC n cg W aB R.vT
end Go.Proofs.YtkhphoonnkoipaaGreatDoor
