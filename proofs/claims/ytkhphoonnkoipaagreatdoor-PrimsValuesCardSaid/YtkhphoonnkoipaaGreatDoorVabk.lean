/- Lemmas. -/
import Derived.Test.YtkhphoonnkoipaaGreatDoorVabe
import Derived.Test.YtkhphoonnkoipaaGreatDoorVabh
import Derived.Test.YtkhphoonnkoipaaGreatDoorVabi
import Derived.StillTailTactics
import Derived.Test.YtkhphoonnkoipaaGreatDoorVabj
set_option linter.all false
set_option maxHeartbeats 8000000
set_option maxRecDepth 20000
open Go.Proofs.Tryz Go.RowKit Go.Lib
open Option renaming none→J,some→U
open Bool renaming false→ab
open Go renaming World→af,Calls→aq
open Go.RowKit renaming Below→ah
open Go.Proofs.Tryz renaming prog→ak
namespace Go.Proofs.YtkhphoonnkoipaaGreatDoor
def sS (k n b:Int) (t:ByteArray):Prop:=(∃R s,qG R k n s∧o.bO R∧b=0∧t=ax s)∨(k=6∧n=0∧t=⟨#[]⟩)∨
 (k=7∧0≤n∧n≤2097151∧b=0∧t=⟨#[]⟩)∨((k=8∨k=9)∧n=0∧b=0∧t.size≤65536)∨((k=2∨k=3)∧n=0∧b=0∧t=⟨#[]⟩)
def fv (k n b:Int) (t:ByteArray) (is:Bool):Prop:=is=true→sS k n b t
theorem Mj {w w':af} {e:Ending} (h:h0 w TX e w'):h0 w fv e w':=by
 obtain⟨k,n,b,t,is,aa,ae,aJ⟩:=h;exact⟨k,n,b,t,is,fun qy=>.inl (aa qy),ae,aJ⟩
theorem ih {w w':af} {k n b:Int} {t:ByteArray} {is:Bool} {e:Ending} (aD:is=true→sS k n b t) (h:ek w (bw k n b t (.slice J 0 0)) is e w'):h0 w fv e w':=⟨k,n,b,t,is,aD,h.1,h.2⟩
theorem DB {w w':af} {e:Ending} (h:ek w iA ab e w'):h0 w fv e w':=⟨0,0,0,⟨#[]⟩,ab,fun h=>(by cases h),h.1,h.2⟩
theorem HL (q:Bool):sS (q2 q) 0 0 ⟨#[]⟩:=.inr (.inr (.inr (.inr ⟨by cases q<;>simp[q2],rfl,rfl,rfl⟩)))
theorem HM {n:Int} (h:cJ n):sS 4 n 0 ⟨#[]⟩:=.inl ⟨n,[],.inl ⟨h,rfl,rfl,rfl⟩,tZ (by unfold cJ at h;omega) (by unfold cJ at h;omega),rfl,rfl⟩
theorem DC {t:ByteArray} (h:t.size≤65536):sS 8 0 0 t:=.inr (.inr (.inr (.inl ⟨.inl rfl,rfl,rfl,h⟩)))
theorem aom {t:ByteArray} (h:t.size≤65536):sS 9 0 0 t:=.inr (.inr (.inr (.inl ⟨.inr rfl,rfl,rfl,h⟩)))
theorem acE {n:Int} (h:0≤n) (ae:n≤2097151):sS 7 n 0 ⟨#[]⟩:=.inr (.inr (.inl ⟨rfl,h,ae,rfl,rfl⟩))
theorem vp (b:Int):sS 6 0 b ⟨#[]⟩:=.inr (.inl ⟨rfl,rfl,rfl⟩)
structure dW (c:Nat) (y:bB):Prop where
 Mk:∃a n K0,y.v=.slice a n K0
 int:c=73→∃A,Value.agg #[.bool y.g,.string y.s]=bz A∧o.bO A
 small:c=76→cJ y.n
 oD:c=70→∃a:Nat,y.b=a∧a<18446744073709551616
 T6:c=67→0≤y.n∧y.n≤2097151
 sT:c=83∨c=89→y.t.size≤65536
theorem sU {aR:af} {n:Int} {f:Nat} {y a':bB} (aV:∀w L,sG w L→iQ w L n f) (jV:∀args W,(callFunc f args).run ak W=.ok (.enter f args) W) (hF:∀A B,o.bO A→o.bO B→q1 f A B) (aa:dW 73 y) (ae:dW 73 a'):eZ aR n ⟨#[73,73]⟩ 17 [y,a'] fv:=
 aaS aV (fun W v p aD hp hP=>by
  obtain⟨A,be,wZ⟩:=aa.int rfl;obtain⟨B,az,T7⟩:=ae.int rfl;rcases hF A B wZ T7 with ⟨R,bS,an⟩ | ⟨rg,da,bm,he,an⟩
  ·exact (ama f p R y a' v W aD hp hP jV (fun W=>by rw[be,az];exact an W) bS).mono fun e w' h=>Mj (acu bS h)
  ·exact (amb f p rg da bm y a' v W aD hp hP jV (fun W=>by rw[be,az];exact an W) he).mono fun e w' h=>Mj (acv h))
theorem fK {aR:af} {y a':bB} (aa:dW 73 y) (ae:dW 73 a'):eZ aR 1 ⟨#[73,73]⟩ 17 [y,a'] fv:=
 sU (fun w L h=>h.i1) (fun args W=>dF func19 rfl rfl args W) (fun A B be az=>anN be az) aa ae
theorem ml {aR:af} {y a':bB} (aa:dW 73 y) (ae:dW 73 a'):eZ aR 2 ⟨#[73,73]⟩ 17 [y,a'] fv:=
 sU (fun w L h=>h.i2) (fun args W=>dF func20 rfl rfl args W) (fun A B be az=>anO be az) aa ae
theorem aon {aR:af} {y a':bB} (aa:dW 73 y) (ae:dW 73 a'):eZ aR 9 ⟨#[73,73]⟩ 17 [y,a'] fv:=
 sU (fun w L h=>h.i9) (fun args W=>dF func21 rfl rfl args W) (fun A B be az=>anP be az) aa ae
theorem aoo {aR:af} {y a':bB} (aa:dW 73 y) (ae:dW 73 a'):eZ aR 10 ⟨#[73,73]⟩ 17 [y,a'] fv:=
 sU (fun w L h=>h.i10) (fun args W=>dF func22 rfl rfl args W) (fun A B be az=>anY be az) aa ae
theorem aop {aR:af} {y a':bB} (aa:dW 73 y) (ae:dW 73 a'):eZ aR 11 ⟨#[73,73]⟩ 17 [y,a'] fv:=
 sU (fun w L h=>h.i11) (fun args W=>dF func24 rfl rfl args W) (fun A B be az=>anU be az) aa ae
theorem aoq {aR:af} {y a':bB} (aa:dW 73 y) (ae:dW 73 a'):eZ aR 12 ⟨#[73,73]⟩ 17 [y,a'] fv:=
 sU (fun w L h=>h.i12) (fun args W=>dF func25 rfl rfl args W) (fun A B be az=>anV be az) aa ae
theorem aor {aR:af} {y a':bB} (aa:dW 73 y) (ae:dW 73 a'):eZ aR 13 ⟨#[73,73]⟩ 17 [y,a'] fv:=
 sU (fun w L h=>h.i13) (fun args W=>dF func26 rfl rfl args W) (fun A B be az=>anW be az) aa ae
theorem aos {aR:af} {y a':bB} (aa:dW 73 y) (ae:dW 73 a'):eZ aR 14 ⟨#[73,73]⟩ 17 [y,a'] fv:=
 sU (fun w L h=>h.i14) (fun args W=>dF func28 rfl rfl args W) (fun A B be az=>anX be az) aa ae
theorem aot {aR:af} {y a':bB} (aa:dW 73 y) (ae:dW 73 a'):eZ aR 15 ⟨#[73,73]⟩ 17 [y,a'] fv:=
 sU (fun w L h=>h.i15) (fun args W=>dF func29 rfl rfl args W) (fun A B be az=>anQ be az) aa ae
theorem aou {aR:af} {y a':bB} (aa:dW 73 y) (ae:dW 73 a'):eZ aR 16 ⟨#[73,73]⟩ 17 [y,a'] fv:=
 sU (fun w L h=>h.i16) (fun args W=>dF func30 rfl rfl args W) (fun A B be az=>anR be az) aa ae
theorem aov {aR:af} {y a':bB} (aa:dW 73 y) (ae:dW 73 a'):eZ aR 17 ⟨#[73,73]⟩ 17 [y,a'] fv:=
 sU (fun w L h=>h.i17) (fun args W=>dF func31 rfl rfl args W) (fun A B be az=>anS be az) aa ae
theorem aow {aR:af} {y a':bB} (aa:dW 73 y) (ae:dW 73 a'):eZ aR 19 ⟨#[73,73]⟩ 17 [y,a'] fv:=
 sU (fun w L h=>h.i19) (fun args W=>dF func32 rfl rfl args W) (fun A B be az=>anT be az) aa ae
theorem DD {aR:af} {how:Nat} (aJ:3≤how) (fe:how<9) {y a':bB} (aa:dW 73 y) (ae:dW 73 a'):eZ aR (how:Int) ⟨#[73,73]⟩ 67 [y,a'] fv:=by
 obtain⟨A,be,wZ⟩:=aa.int rfl;obtain⟨B,az,T7⟩:=ae.int rfl;obtain⟨cx,dp,ct,hQ⟩:=aa.Mk;obtain⟨eB,ig,eC,nR⟩:=ae.Mk;exact aol aJ fe fun W v dR dA p aD bD cX dU e9 hj kp=>(aok dR dA p how A B y a' cx eB dp ct ig eC v W aD hQ nR aJ fe bD cX dU e9 hj kp wZ T7 be az).mono fun e w' h=>ih (fun _=>HL _) h
theorem aox {aR:af} {y a':bB} (aa:dW 73 y) (ae:dW 76 a'):eZ aR 18 ⟨#[73,76]⟩ 40 [y,a'] fv:=
 wR (fun w L h=>h.i18) (fun W v jy aD=>by
  obtain⟨A,be,wZ⟩:=aa.int rfl;by_cases aW:a'.n < -32768∨32768<a'.n
  ·exact (an6 y a' v W aD aW).mono fun e w' h=>DB h
  ·refine (an4 y a' v W aD (by omega) (by omega) (fun W=>by
    rw[be];exact anZ A a'.n W wZ (by omega) (by omega))).mono ?_
   rintro e w' ⟨k,n,s,is,aa,ae⟩;exact ih (fun qy=>by obtain⟨R,aJ,bQ⟩:=aa qy;exact .inl ⟨R,s,aJ,bQ,rfl,rfl⟩) ae)
theorem aoy {aR:af} {y a':bB} (aa:dW 73 y) (ae:dW 76 a'):eZ aR 20 ⟨#[73,76]⟩ 42 [y,a'] fv:=
 wR (fun w L h=>h.i20) (fun W v jy aD=>by
  obtain⟨A,be,wZ⟩:=aa.int rfl;by_cases aW:a'.n<2∨36<a'.n
  ·exact (an7 y a' v W aD aW).mono fun e w' h=>DB h
  ·obtain⟨b,ad⟩:∃b:Nat,a'.n=b:=⟨a'.n.toNat,by omega⟩;refine (an' y a' (fun t=>t.size≤65536) v W aD (by omega) (by omega) (fun cG=>?_)).mono fun e w' ⟨t,bn,h⟩=>ih (fun _=>DC bn) h;rw[be,ad];refine (XY A b cG wZ (by omega) (by omega)).mono ?_;rintro e w' ⟨s,rfl,dH,ad,dY⟩;exact⟨ax s,⟨by show s.length≤65536;omega,by show s.length≤65536;omega⟩,rfl,ad⟩)
theorem Ml {aR:af} {n:Int} {f:Nat} {vs:List bB} {P:Int→Int→Int→ByteArray→Bool→Prop} (aV:∀w L,sG w L→mP w L n f)
 (an:∀W v ed cu,e2 W v vs→W.cell? ⟨ed,0,J⟩=U (.int .i64 n)→ed<W.heap.size→W.cell? ⟨cu,0,J⟩=U (.func (.func f) #[] #[])→cu<W.heap.size→aq ak 87 #[v,.pointer (U ⟨ed,0,J⟩),.pointer (U ⟨cu,0,J⟩)] W (h0 W P)):eZ aR n ⟨#[70,70]⟩ 87 vs P:=fun W _=>
 (sH W).mono fun e bW ⟨b,L,aa,ae,aJ,bQ⟩=>by
  obtain⟨ed,cu,bD,cX,dU,e9,hj⟩:=aV bW L aJ;exact⟨b,L,#[.pointer (U ⟨ed,0,J⟩),.pointer (U ⟨cu,0,J⟩)],aa,ae,bQ,bD,fun cG v ad aD=>by
   have:=an cG v ed cu aD (by rw[ad.cell (p:=⟨ed,0,J⟩) e9];exact cX) (cv e9 ad.size) (by rw[ad.cell (p:=⟨cu,0,J⟩) hj];exact dU) (cv hj ad.size);simpa using this⟩
theorem Ua {aR:af} {n:Int} {f:Nat} {vs:List bB} {P:Int→Int→Int→ByteArray→Bool→Prop} (aV:∀w L,sG w L→mO w L n f)
 (an:∀W v cu,e2 W v vs→W.cell? ⟨cu,0,J⟩=U (.func (.func f) #[] #[])→cu<W.heap.size→aq ak 91 #[v,.pointer (U ⟨cu,0,J⟩)] W (h0 W P)):eZ aR n ⟨#[70]⟩ 91 vs P:=fun W _=>
 (sH W).mono fun e bW ⟨b,L,aa,ae,aJ,bQ⟩=>by
  obtain⟨cu,bD,dU,hj⟩:=aV bW L aJ;exact⟨b,L,#[.pointer (U ⟨cu,0,J⟩)],aa,ae,bQ,bD,fun cG v ad aD=>by
   have:=an cG v cu aD (by rw[ad.cell (p:=⟨cu,0,J⟩) hj];exact dU) (cv hj ad.size);simpa using this⟩
theorem aoH {aR:af} {y a':bB} (aa:dW 83 y) (ae:dW 76 a'):eZ aR 61 ⟨#[83,76]⟩ 100 [y,a'] fv:=
 p3 rfl (fun W v aD=>by
  have a1:=aa.sT (.inl rfl);by_cases h:a'.n<1∨(y.t.size:Int)<a'.n
  ·exact (ald y a' v W aD h).mono fun e w' h=>DB h
  ·obtain⟨k,aA⟩:∃k:Nat,a'.n=(k:Int)+1:=⟨(a'.n-1).toNat,by omega⟩;have fh:k<y.t.data.toList.length:=by
    have dm:y.t.data.toList.length=y.t.size:=by rw[uz];rfl
    omega
   exact (alc y a' k _ v W aD (eE fh) aA (by omega)).mono fun e w' h=>ih (fun _=>acE (by omega) (by have:=(y.t.data.toList[k]).toNat_lt;omega)) h)
theorem aoI {aR:af} {y:bB} (aa:dW 83 y):eZ aR 62 ⟨#[83]⟩ 101 [y] fv:=
 p3 rfl (fun W v aD=>(aj8 y v W aD).mono fun e w' h=>ih (fun _=>HM (by have:=aa.sT (.inl rfl);unfold cJ;omega)) h)
theorem aoJ {aR:af} {y a':bB} (aa:dW 83 y) (ae:dW 83 a'):eZ aR 63 ⟨#[83,83]⟩ 102 [y,a'] fv:=
 p3 rfl (fun W v aD=>by
  have s1:=aa.sT (.inl rfl);have s2:=ae.sT (.inl rfl);by_cases h:(y.t++a'.t).size≤65536
  ·exact (aka y a' v W aD h).mono fun e w' ae=>ih (fun _=>DC h) ae
  ·exact (aoA y a' v W aD (by omega) (by rw[Ny];omega)).mono fun e w' ae=>ih (fun h=>(by cases h)) ae)
theorem aoK {aR:af} {y a':bB}:eZ aR 64 ⟨#[83,83]⟩ 103 [y,a'] fv:=
 p3 rfl (fun W v aD=>(aoB y a' v W aD).mono fun e w' ⟨q,h⟩=>ih (fun _=>HL q) h)
theorem aoL {aR:af} {y:bB} (aa:dW 83 y):eZ aR 66 ⟨#[83]⟩ 106 [y] fv:=
 p3 rfl (fun W v aD=>(aj9 y v W aD).mono fun e w' h=>ih (fun _=>aom (aa.sT (.inl rfl))) h)
theorem aoM {aR:af} {y:bB} (aa:dW 89 y):eZ aR 67 ⟨#[89]⟩ 107 [y] fv:=
 p3 rfl (fun W v aD=>(aj' y v W aD (aa.sT (.inr rfl))).mono fun e w' h=>ih (fun _=>DC (aa.sT (.inr rfl))) h)
theorem aoN {aR:af} {y a' y3:bB} (aa:dW 83 y) (aJ:dW 76 y3):eZ aR 68 ⟨#[83,76,76]⟩ 108 [y,a',y3] fv:=
 p3 rfl (fun W v aD=>by
  have a1:=aa.sT (.inl rfl);have bd:=aJ.small rfl;unfold cJ at bd;by_cases h:a'.n<1∨(y.t.size:Int)<y3.n∨y3.n+1<a'.n
  ·exact (aoF y a' y3 v W aD (by omega) (by omega) h).mono fun e w' h=>DB h
  ·obtain⟨a,aS⟩:∃a:Nat,a'.n=(a:Int)+1:=⟨(a'.n-1).toNat,by omega⟩;obtain⟨b,ad⟩:∃b:Nat,y3.n=(b:Int):=⟨y3.n.toNat,by omega⟩;exact (aas y a' y3 a b v W aD aS ad (by omega) (by omega) a1).mono fun e w' h=>ih (fun _=>DC (by rw[IL];omega)) h)
theorem aoO {aR:af} {y:bB} (aa:dW 67 y):eZ aR 81 ⟨#[67]⟩ 117 [y] fv:=
 p3 rfl (fun W v aD=>(aoC y v W aD).mono fun e w' h=>ih (fun _=>HM (by have:=aa.T6 rfl;unfold cJ;omega)) h)
theorem aoP {aR:af} {y:bB}:eZ aR 82 ⟨#[76]⟩ 118 [y] fv:=
 p3 rfl (fun W v aD=>(aoE y v W aD).mono fun e w' ⟨is,aa,ae⟩=>ih (fun h=>acE (aa h).1 (aa h).2) ae)
theorem aoQ {aR:af} {y a':bB}:eZ aR 83 ⟨#[67,67]⟩ 119 [y,a'] fv:=
 p3 rfl (fun W v aD=>(aoD y a' v W aD).mono fun e w' ⟨q,h⟩=>ih (fun _=>HL q) h)
theorem avK {k n b:Int} {t:ByteArray} (h:sS k n b t):∃K:Nat→Bool,
 (∀W,aq ak 15 #[bw k n b t (.slice J 0 0),.int .u8 73] W fun e w'=>e=.returned (.bool (K 0))∧ah W.heap.size W w')∧
 (∀W,aq ak 15 #[bw k n b t (.slice J 0 0),.int .u8 70] W fun e w'=>e=.returned (.bool (K 1))∧ah W.heap.size W w')∧
 (∀W,aq ak 15 #[bw k n b t (.slice J 0 0),.int .u8 67] W fun e w'=>e=.returned (.bool (K 2))∧ah W.heap.size W w')∧
 (∀W,aq ak 15 #[bw k n b t (.slice J 0 0),.int .u8 83] W fun e w'=>e=.returned (.bool (K 3))∧ah W.heap.size W w')∧
 (∀W,aq ak 15 #[bw k n b t (.slice J 0 0),.int .u8 89] W fun e w'=>e=.returned (.bool (K 4))∧ah W.heap.size W w')∧
 (K 0=ab→K 1=ab→K 2=ab→K 3=ab→K 4=ab→(k=2∨k=3)∧n=0∧b=0∧t=⟨#[]⟩):=by
 obtain⟨b0,t'⟩:∃b0:Bool,b0=true↔∃A,yV k n b t.data.toList 0 A:=by
  by_cases hx:∃A,yV k n b t.data.toList 0 A
  ·exact⟨true,fun _=>hx,fun _=>rfl⟩
  ·exact⟨ab,fun h=>(by cases h),fun h=>absurd h hx⟩
 have b5:t.data.toList.length=t.size:=by rw[uz];rfl
 have ad:t.size≤300000∧-9223372036854775808≤n∧n≤9223372036854775807:=by
  rcases h with ⟨R,s,ko,_,_,rfl⟩ | ⟨_,rfl,rfl⟩ | ⟨_,aa,ae,_,rfl⟩ | ⟨_,rfl,_,aa⟩ | ⟨_,rfl,_,rfl⟩
  ·rcases ko with ⟨bd,_,rfl,rfl⟩ | ⟨_,_,rfl,_,ao⟩
   ·unfold cJ at bd;exact⟨by show (0:Nat)≤_;omega,by omega,by omega⟩
   ·exact⟨by show s.length≤_;omega,by omega,by omega⟩
  ·exact⟨by show (0:Nat)≤_;omega,by omega,by omega⟩
  ·exact⟨by show (0:Nat)≤_;omega,by omega,by omega⟩
  ·exact⟨by omega,by omega,by omega⟩
  ·exact⟨by show (0:Nat)≤_;omega,by omega,by omega⟩
 refine⟨fun i=>match i with | 0=>b0 | 1=>_ | 2=>_ | 3=>_ | _=>_,fun W=>?_,fun W=>avI k n b t J 0 0 W,fun W=>avJ k n b t J 0 0 W,fun W=>aqz k n b t J 0 0 W,fun W=>aqA k n b t J 0 0 W,?_⟩
 ·refine (aqy k n b t.data.toList J 0 0 W (by omega) ad.2.1 ad.2.2).mono fun e w' ⟨⟨q,aa,ae⟩,aJ⟩=>⟨?_,aJ⟩;rw[aa];have:q=b0:=by rw[mg,ae,t']
  rw[this];rfl
 ·intro ar aa ae aJ bQ;have ar:¬ ∃A,yV k n b t.data.toList 0 A:=fun hx=>by rw[t'.2 hx] at ar;cases ar
  have aa:=vI aa;have ae:=vI ae;have aJ:=vI aJ;have bQ:=vI bQ;rcases h with ⟨R,s,ko,az,rfl,rfl⟩ | ⟨rfl,rfl,rfl⟩ | ⟨rfl,g1,g2,rfl,rfl⟩ | ⟨aA,rfl,rfl,g1⟩ | ⟨aA,rfl,rfl,rfl⟩
  ·refine absurd ⟨R,rfl,rfl,?_⟩ ar;rcases ko with ⟨bd,rfl,rfl,rfl⟩ | ⟨bd,rfl,rfl,bn,_⟩
   ·exact .inl ⟨rfl,rfl,rfl,bd⟩
   ·exact .inr ⟨rfl,rfl,bn,az,bd⟩
  ·exact absurd ⟨rfl,.inl rfl,.inr (.inr rfl),.inr (.inr (.inr rfl)),rfl⟩ aa
  ·exact absurd ⟨rfl,.inr rfl,.inr (.inl rfl),.inr (.inr (.inr rfl)),rfl,g1,g2⟩ ae
  ·rcases aA with rfl | rfl
   ·exact absurd ⟨rfl,.inr rfl,.inr (.inr rfl),.inr (.inl rfl),rfl,g1⟩ aJ
   ·exact absurd ⟨rfl,.inr rfl,.inr (.inr rfl),.inr (.inr (.inl rfl)),rfl,g1⟩ bQ
  ·exact⟨aA,rfl,rfl,rfl⟩
theorem avL (k n b:Int) (t:ByteArray) (w:af) (h:sS k n b t) :
 aq ak 9 #[bw k n b t (.slice J 0 0)] w fun e w'=>e=.returned (.bool true)∧ah w.heap.size w w':=by
 obtain⟨K,aM,aG,bj,bq,bA,afo⟩:=avK h;have K':=I aM;have GS:=I aG;have GU:=I bj;have La:=I bq;have Lb:=I bA;have Lq:=I afo;clear aM aG bj bq bA afo h;unfold bw at *;obtain⟨ag,a6⟩:∃ag,w.alloc (.cells #[.int .u8 k,.int .i64 n,.int .u64 b,.string t,.slice J 0 0] 28)=ag:=⟨_,rfl⟩;have cD:Hid (bk ag w.heap.size (.int .u8 k) (.int .i64 n) (.int .u64 b) (.string t) (.slice J 0 0)):=I (by rw[←a6];exact bk.new _ _ _ _ _ _);have cQ:Hid (ah w.heap.size w ag):=I (by rw[←a6];exact (aK _ _).alloc (aC _) _);have dH:w.heap.size+1≤ag.heap.size:=by rw[←a6];simp
 go_enter func9,ntmps9;go_wp2;go_loopw [4] (fun h' wr=>∃i:Nat,i≤5∧h'=.int .i64 i∧(∀j,j<i→K j=ab)∧ah ag.heap.size ag wr) (fun h' _=>5-(RowKit.intOf h').toNat);case atStart=>exact⟨0,il _,rfl,fun j bP=>absurd bP (Nat.not_lt_zero _),aK _ _⟩
 case round=>
  obtain⟨i,aV,rfl,hK,ad⟩:=hrel;have cI:=I hK;have l7:=I ad;have pQ:=ad.size;obtain⟨c0,c1,c2,c3,c4,_,_,_,_,_⟩:=(cD.out.below ad).cells;clear hK ad;obtain rfl | rfl | rfl | rfl | rfl | rfl:i=0∨i=1∨i=2∨i=3∨i=4∨i=5:=by omega
  ·obtain⟨q,aE⟩:∃q,K 0=q:=⟨_,rfl⟩;have nr:=K'.out;simp only[aE] at nr;have kN:=I nr;have b3:=I aE;clear nr aE;go_wp2_with fail;go_still_tail 4,(by kernel_rfl);change wpList _ _ _ _ _ wr.drew;generalize lI:wr.drew=aP;have q9:ah wr.heap.size wr aP:=by rw[←lI];exact (aK _ _).drew
   have bL:=I (l7.out.trans (q9.mono pQ));clear lI q9 c0 c1 c2 c3 c4;obtain⟨c0,c1,c2,c3,c4,_,_,_,_,_⟩:=(cD.out.below bL.out).cells;go_wp2_with fail;refine (kN.out _).mono ?_;rintro e cc ⟨rfl,cK⟩;have bu:=I (bL.out.trans (cK.mono bL.out.size));clear cK c0 c1 c2 c3 c4;cases q;case false=>
    go_wp2;go_roundw;case rel=>exact⟨1,by omega,by go_num,fun j bP=>by
     rcases eh j 0 with h | h
     ·exact cI.out j h
     ·obtain rfl:j=0:=by omega
      exact b3.out,bu.out⟩
    case measure=>simp[RowKit.intOf]
   case true=>
    go_wp2;go_ret;exact⟨rfl,cQ.out.trans (bu.out.mono (by omega))⟩
  ·obtain⟨q,aE⟩:∃q,K 1=q:=⟨_,rfl⟩;have nr:=GS.out;simp only[aE] at nr;have kN:=I nr;have b3:=I aE;clear nr aE;go_wp2_with fail;go_still_tail 4,(by kernel_rfl);change wpList _ _ _ _ _ wr.drew;generalize lI:wr.drew=aP;have q9:ah wr.heap.size wr aP:=by rw[←lI];exact (aK _ _).drew
   have bL:=I (l7.out.trans (q9.mono pQ));clear lI q9 c0 c1 c2 c3 c4;obtain⟨c0,c1,c2,c3,c4,_,_,_,_,_⟩:=(cD.out.below bL.out).cells;go_wp2_with fail;refine (kN.out _).mono ?_;rintro e cc ⟨rfl,cK⟩;have bu:=I (bL.out.trans (cK.mono bL.out.size));clear cK c0 c1 c2 c3 c4;cases q;case false=>
    go_wp2;go_roundw;case rel=>exact⟨2,by omega,by go_num,fun j bP=>by
     rcases eh j 1 with h | h
     ·exact cI.out j h
     ·obtain rfl:j=1:=by omega
      exact b3.out,bu.out⟩
    case measure=>simp[RowKit.intOf]
   case true=>
    go_wp2;go_ret;exact⟨rfl,cQ.out.trans (bu.out.mono (by omega))⟩
  ·obtain⟨q,aE⟩:∃q,K 2=q:=⟨_,rfl⟩;have nr:=GU.out;simp only[aE] at nr;have kN:=I nr;have b3:=I aE;clear nr aE;go_wp2_with fail;go_still_tail 4,(by kernel_rfl);change wpList _ _ _ _ _ wr.drew;generalize lI:wr.drew=aP;have q9:ah wr.heap.size wr aP:=by rw[←lI];exact (aK _ _).drew
   have bL:=I (l7.out.trans (q9.mono pQ));clear lI q9 c0 c1 c2 c3 c4;obtain⟨c0,c1,c2,c3,c4,_,_,_,_,_⟩:=(cD.out.below bL.out).cells;go_wp2_with fail;refine (kN.out _).mono ?_;rintro e cc ⟨rfl,cK⟩;have bu:=I (bL.out.trans (cK.mono bL.out.size));clear cK c0 c1 c2 c3 c4;cases q;case false=>
    go_wp2;go_roundw;case rel=>exact⟨3,by omega,by go_num,fun j bP=>by
     rcases eh j 2 with h | h
     ·exact cI.out j h
     ·obtain rfl:j=2:=by omega
      exact b3.out,bu.out⟩
    case measure=>simp[RowKit.intOf]
   case true=>
    go_wp2;go_ret;exact⟨rfl,cQ.out.trans (bu.out.mono (by omega))⟩
  ·obtain⟨q,aE⟩:∃q,K 3=q:=⟨_,rfl⟩;have nr:=La.out;simp only[aE] at nr;have kN:=I nr;have b3:=I aE;clear nr aE;go_wp2_with fail;go_still_tail 4,(by kernel_rfl);change wpList _ _ _ _ _ wr.drew;generalize lI:wr.drew=aP;have q9:ah wr.heap.size wr aP:=by rw[←lI];exact (aK _ _).drew
   have bL:=I (l7.out.trans (q9.mono pQ));clear lI q9 c0 c1 c2 c3 c4;obtain⟨c0,c1,c2,c3,c4,_,_,_,_,_⟩:=(cD.out.below bL.out).cells;go_wp2_with fail;refine (kN.out _).mono ?_;rintro e cc ⟨rfl,cK⟩;have bu:=I (bL.out.trans (cK.mono bL.out.size));clear cK c0 c1 c2 c3 c4;cases q;case false=>
    go_wp2;go_roundw;case rel=>exact⟨4,by omega,by go_num,fun j bP=>by
     rcases eh j 3 with h | h
     ·exact cI.out j h
     ·obtain rfl:j=3:=by omega
      exact b3.out,bu.out⟩
    case measure=>simp[RowKit.intOf]
   case true=>
    go_wp2;go_ret;exact⟨rfl,cQ.out.trans (bu.out.mono (by omega))⟩
  ·obtain⟨q,aE⟩:∃q,K 4=q:=⟨_,rfl⟩;have nr:=Lb.out;simp only[aE] at nr;have kN:=I nr;have b3:=I aE;clear nr aE;go_wp2_with fail;go_still_tail 4,(by kernel_rfl);change wpList _ _ _ _ _ wr.drew;generalize lI:wr.drew=aP;have q9:ah wr.heap.size wr aP:=by rw[←lI];exact (aK _ _).drew
   have bL:=I (l7.out.trans (q9.mono pQ));clear lI q9 c0 c1 c2 c3 c4;obtain⟨c0,c1,c2,c3,c4,_,_,_,_,_⟩:=(cD.out.below bL.out).cells;go_wp2_with fail;refine (kN.out _).mono ?_;rintro e cc ⟨rfl,cK⟩;have bu:=I (bL.out.trans (cK.mono bL.out.size));clear cK c0 c1 c2 c3 c4;cases q;case false=>
    go_wp2;go_roundw;case rel=>exact⟨5,by omega,by go_num,fun j bP=>by
     rcases eh j 4 with h | h
     ·exact cI.out j h
     ·obtain rfl:j=4:=by omega
      exact b3.out,bu.out⟩
    case measure=>simp[RowKit.intOf]
   case true=>
    go_wp2;go_ret;exact⟨rfl,cQ.out.trans (bu.out.mono (by omega))⟩
  ·obtain⟨aA,rfl,rfl,rfl⟩:=Lq.out (cI.out 0 (by omega)) (cI.out 1 (by omega)) (cI.out 2 (by omega)) (cI.out 3 (by omega)) (cI.out 4 (by omega));rcases aA with rfl | rfl;all_goals
    go_wp2;go_ret;exact⟨rfl,cQ.out.trans (l7.out.mono (by omega))⟩
theorem apC {aR:af} {y a':bB} (aa:dW 70 y) (ae:dW 70 a'):eZ aR 41 ⟨#[70,70]⟩ 87 [y,a'] fv:=
 Ml (fun w L h=>h.k4.f41) (fun W v ed cu aD bD cX dU e9=>by
  obtain⟨a,aS,_⟩:=aa.oD rfl;obtain⟨b,ad,_⟩:=ae.oD rfl;exact (T9 83 cu ed 41 (by decide) _ y a' v W aD bD cX dU e9 (fun args W=>dF func83 rfl rfl args W) (fun W=>by rw[aS,ad];exact af4 a b W)).mono fun e w' h=>ih (fun _=>vp _) h)
theorem apD {aR:af} {y a':bB} (aa:dW 70 y) (ae:dW 70 a'):eZ aR 42 ⟨#[70,70]⟩ 87 [y,a'] fv:=
 Ml (fun w L h=>h.k4.f42) (fun W v ed cu aD bD cX dU e9=>by
  obtain⟨a,aS,_⟩:=aa.oD rfl;obtain⟨b,ad,_⟩:=ae.oD rfl;exact (T9 84 cu ed 42 (by decide) _ y a' v W aD bD cX dU e9 (fun args W=>dF func84 rfl rfl args W) (fun W=>by rw[aS,ad];exact aoR a b W)).mono fun e w' h=>ih (fun _=>vp _) h)
theorem apE {aR:af} {y a':bB} (aa:dW 70 y) (ae:dW 70 a'):eZ aR 49 ⟨#[70,70]⟩ 87 [y,a'] fv:=
 Ml (fun w L h=>h.k4.f49) (fun W v ed cu aD bD cX dU e9=>by
  obtain⟨a,aS,_⟩:=aa.oD rfl;obtain⟨b,ad,_⟩:=ae.oD rfl;exact (T9 85 cu ed 49 (by decide) _ y a' v W aD bD cX dU e9 (fun args W=>dF func85 rfl rfl args W) (fun W=>by rw[aS,ad];exact aoS a b W)).mono fun e w' h=>ih (fun _=>vp _) h)
theorem apF {aR:af} {y:bB} (aa:dW 70 y):eZ aR 55 ⟨#[70]⟩ 91 [y] fv:=
 Ua (fun w L h=>h.k4.f55) (fun W v cu aD dU e9=>by
  obtain⟨a,aS,_⟩:=aa.oD rfl;exact (T8 89 cu _ y v W aD dU e9 (fun args W=>dF func89 rfl rfl args W) (fun W=>by rw[aS];exact apz a W)).mono fun e w' h=>ih (fun _=>vp _) h)
theorem apG {aR:af} {y:bB} (aa:dW 70 y):eZ aR 57 ⟨#[70]⟩ 91 [y] fv:=
 Ua (fun w L h=>h.k4.f57) (fun W v cu aD dU e9=>by
  obtain⟨a,aS,_⟩:=aa.oD rfl;exact (T8 90 cu _ y v W aD dU e9 (fun args W=>dF func90 rfl rfl args W) (fun W=>by rw[aS];exact (aoU a W).mono fun e w' ⟨aa,ae⟩=>⟨aa,ae ▸ aK _ _⟩)).mono fun e w' h=>ih (fun _=>vp _) h)
theorem atG {a:Nat} {x:Int} (h:av.mz a x):o.bO (av.kx x):=by
 unfold o.bO;rw[av.acY];obtain⟨m,u,aa,ae,aJ⟩:=av.Mt h;refine gQ (s9 _ _) ?_;rw[aa];obtain⟨b,ad⟩:∃b,b=4096:=⟨_,rfl⟩;rw[←ad,show (256:Nat)=2^8 from rfl,←mi];have bD:m*2^u<2^53*2^u:=jG (by simpa using ae) (ez _);rw[←cm] at bD;exact cv bD (dB (by decide) (by omega))
theorem atH {a:Nat} {n:Int} (h:av.xI a=U n):-1074≤n∧n≤1023:=by
 unfold av.xI at h;split at h
 ·cases h
 ·rename_i ar;split at h
  ·rename_i aa;injection h with h;have ad:(a%9223372036854775808).log2<52:=(nX (by omega)).2 (by omega);omega
  ·injection h with h;omega
theorem atI {aR:af} {y a':bB} (aa:dW 70 y) (ae:dW 70 a'):eZ aR 50 ⟨#[70,70]⟩ 87 [y,a'] fv:=
 Ml (fun w L h=>h.k4.f50) (fun W v ed cu aD bD cX dU e9=>by
  obtain⟨a,aS,_⟩:=aa.oD rfl;obtain⟨b,ad,_⟩:=ae.oD rfl;by_cases aX:a'.b*2%18446744073709551616=0
  ·exact (apN 86 cu ed y a' v W aD bD cX dU e9 (fun args W=>dF JJ rfl rfl args W) aX).mono fun e w' h=>DB h
  ·exact (aoG 86 cu ed _ y a' v W aD bD cX dU e9 (fun args W=>dF JJ rfl rfl args W) aX (by omega) (fun W=>by rw[aS,ad];exact aoT a b W)).mono fun e w' h=>ih (fun _=>vp _) h)
theorem atJ {aR:af} {y:bB} (aa:dW 70 y):eZ aR 51 ⟨#[70]⟩ 92 [y] fv:=
 wR (fun w L h=>h.k4.f51) (fun W v _ aD=>by
  obtain⟨a,aS,ao⟩:=aa.oD rfl;rcases eh (a%9223372036854775808) 9218868437227405312 with h | h
  ·have an:=fun W=>apw a (av.V a) W ⟨ao,h,rfl⟩;have bS:o.bO (av.kx (av.V a)):=atG ⟨ao,h,rfl⟩;exact (apK _ y v W aD (fun W=>by rw[aS];exact an W) bS).mono fun e w' h=>Mj (acu bS h)
  ·exact (apL ab ⟨#[]⟩ 101 y v W aD (fun W=>by rw[aS];exact apA a W ao h) (by decide)).mono fun e w' h=>Mj (acv h))
theorem atK {aR:af} {y:bB} (aa:dW 70 y):eZ aR 52 ⟨#[70]⟩ 91 [y] fv:=
 Ua (fun w L h=>h.k4.f52) (fun W v cu aD dU e9=>by
  obtain⟨a,aS,ao⟩:=aa.oD rfl;obtain⟨r,aF⟩:∃r:Int,∀W,aq ak 88 #[.int .u64 a] W fun e w'=>e=.returned (.int .u64 r)∧ah W.heap.size W w':=by
   rcases eh (a%9223372036854775808) 9218868437227405312 with h | h
   ·exact⟨_,fun W=>(apv a (av.V a) W ⟨ao,h,rfl⟩).mono fun e w' ⟨aa,ae⟩=>⟨aa,ae ▸ aK _ _⟩⟩
   ·exact⟨_,fun W=>(apB a W ao h).mono fun e w' ⟨aa,ae⟩=>⟨aa,ae ▸ aK _ _⟩⟩
  exact (T8 88 cu r y v W aD dU e9 (fun args W=>dF B0 rfl rfl args W) (fun W=>by rw[aS];exact aF W)).mono fun e w' h=>ih (fun _=>vp _) h)
theorem atL {aR:af} {y a':bB} (aa:dW 70 y):eZ aR 54 ⟨#[70,76]⟩ 96 [y,a'] fv:=
 wR (fun w L h=>h.k4.f54) (fun W v _ aD=>by
  obtain⟨a,aS,ao⟩:=aa.oD rfl;by_cases h:a'.n < -10000∨10000<a'.n
  ·exact (apI y a' v W aD h).mono fun e w' h=>DB h
  ·exact (apM y a' _ v W aD (by omega) (by omega) (fun W=>by rw[aS];exact apg a a'.n W ao)).mono fun e w' h=>ih (fun _=>vp _) h)
theorem atM {aR:af} (he:Env aR) {y:bB} (aa:dW 70 y):eZ aR 56 ⟨#[70]⟩ 98 [y] fv:=
 wR (fun w L h=>h.k4.f56) (fun W v jy aD=>by
  obtain⟨a,aS,ao⟩:=aa.oD rfl;obtain⟨s,a1,aE⟩:∃s:ByteArray,s.size≤65536∧∀W,Env W→aq ak 99 #[.int .u64 a] W fun e w'=>e=.returned (.string s)∧ah W.heap.size W w':=by
   by_cases h:a%9223372036854775808<9218868437227405312
   ·obtain⟨s,aa,ae⟩:=atA ao h;exact⟨s,by omega,ae⟩
   ·obtain⟨s,aa,ae⟩:=atB ao h;exact⟨s,by omega,fun W _=>ae W⟩
  exact (an8 y s v W aD a1 (fun cG ad=>by rw[aS];exact aE cG ((he.below jy).below ad))).mono fun e w' h=>ih (fun _=>DC a1) h)
theorem atN {aR:af} (he:Env aR) {y:bB} (aa:dW 83 y):eZ aR 71 ⟨#[83]⟩ 113 [y] fv:=
 wR (fun w L h=>h.jq 71 _ rfl) (fun W v jy aD=>by
  have a1:=aa.sT (.inl rfl);refine (apH y v W aD (fun cG ad=>?_)).mono fun e w' ⟨r,bm,h⟩=>ih (fun _=>vp _) h;have qk:=(he.below jy).below ad;by_cases h:∃t:ee,t.pM∧y.t=ax t.text
  ·obtain⟨t,bn,aW⟩:=h;rw[aW];refine (atx bn cG qk).mono fun e w' ⟨h,ad⟩=>?_;rcases h with ⟨x,_,h⟩ | h
   ·exact⟨_,_,h,ad⟩
   ·exact⟨_,_,h,ad⟩
  ·exact (aty y.t cG (by omega) qk h).mono fun e w' ⟨h,ad⟩=>⟨_,_,h,ad⟩)
theorem atO {aR:af} {y:bB} (aa:dW 70 y):eZ aR 53 ⟨#[70]⟩ 94 [y] fv:=
 wR (fun w L h=>h.k4.f53) (fun W v _ aD=>by
  obtain⟨a,aS,ao⟩:=aa.oD rfl;have an:=fun W=>ajF a W ao;unfold u6 at an;cases hx:av.xI a with
  | none=>
    rw[hx] at an;exact (ac4 y 0 101 v W aD (fun W=>by rw[aS];exact an W)).mono fun e w' h=>ih (fun h=>(by cases h)) h
  | some n=>
    rw[hx] at an;have aB:=atH hx;exact (ac4 y n 0 v W aD (fun W=>by rw[aS];exact an W)).mono fun e w' h=>ih (fun _=>HM (by unfold cJ;omega)) h)
theorem atP {aR:af} {y:bB} (aa:dW 73 y):eZ aR 21 ⟨#[73]⟩ 45 [y] fv:=
 wR (fun w L h=>h.i21) (fun W v _ aD=>by
  obtain⟨A,be,wZ⟩:=aa.int rfl;have an:∃r bm:Int,∀W,aq ak 47 #[bz A] W fun e w'=>e=.returned (.tuple #[.int .u64 r,.int .i64 bm])∧ah W.heap.size W w':=by
   have h:=fun W=>ap7 (decide (A<0)) A.natAbs W wZ (fun h=>by have:=jb h;omega);unfold HU at h;split at h
   ·exact⟨0,101,h⟩
   ·exact⟨_,0,h⟩
  obtain⟨r,bm,an⟩:=an;exact (apJ y r bm v W aD (fun cG _=>by rw[be];exact an cG)).mono fun e w' h=>ih (fun _=>vp _) h)
theorem auA {aR:af} {y a':bB} (aa:dW 83 y) (ae:dW 67 a'):eZ aR 69 ⟨#[83,67]⟩ 109 [y,a'] fv:=
 p3 rfl (fun W v aD=>by
  have a1:=aa.sT (.inl rfl);have an:=ae.T6 rfl;exact (aud y a' v W aD a1 an.1 (by omega)).mono fun e w' h=>ih (fun _=>HM (by
   have hlen:y.t.data.toList.length=y.t.size:=by rw[uz];rfl
   have aue:=VC y.t.data.toList a'.n.toNat.toUInt8;unfold cJ;split<;>omega)) h)
theorem auB {aR:af} {y:bB} (aa:dW 83 y):eZ aR 72 ⟨#[83]⟩ 115 [y] fv:=
 p3 rfl (fun W v aD=>(auc y v W aD (aa.sT (.inl rfl))).mono fun e w' h=>ih (fun _=>HM (by unfold cJ;omega)) h)
theorem auC {aR:af} {y:bB} (aa:dW 67 y):eZ aR 84 ⟨#[67]⟩ 120 [y] fv:=
 p3 rfl (fun W v aD=>(auw y v W aD (aa.T6 rfl).1).mono fun e w' ⟨is,t,bn,h⟩=>ih (fun _=>DC bn) h)
theorem auD {aR:af} (he:Env aR) {y:bB} (aa:dW 83 y):eZ aR 70 ⟨#[83]⟩ 111 [y] fv:=
 wR (fun w L h=>h.jq 70 _ rfl) (fun W v jy aD=>by
  have a1:=aa.sT (.inl rfl);have hlen:y.t.data.toList.length=y.t.size:=by rw[uz];rfl
  obtain⟨fZ,pO,lS⟩:=he.err;have aY:5<aR.heap.size:=cv (by decide) he.size;refine (an9 y (fun k n t bm=>bm=0→sS k n 0 t) v W aD (fun cG ad=>?_)).mono fun e w' ⟨k,n,t,bm,bS,h⟩=>ih (fun aE=>bS (by simpa using aE)) h;have bg:=jy.trans (ad.mono jy.size);refine (auu y.t.data.toList fZ cG (by omega) (by rw[bg.cell (p:=⟨5,0,J⟩) aY];exact pO) (cv aY bg.size) lS).mono fun e w' ⟨k,n,q,bm,bH,cN,fV⟩=>⟨k,n,ax q,bm,fun ar=>?_,cN,fV⟩;rcases bH with ⟨_,e4,ko⟩ | ⟨_,aa,_⟩
  ·exact .inl ⟨_,q,ko,o.aup e4,rfl,rfl⟩
  ·omega)
theorem DY {aR:af} {how:Nat} (aJ:3≤how) (fe:how<9) {y a':bB} (aa:dW 70 y) (ae:dW 70 a'):eZ aR (40+(how:Int)) ⟨#[70,70]⟩ 71 [y,a'] fv:=by
 obtain⟨a,aS,_⟩:=aa.oD rfl;obtain⟨b,ad,_⟩:=ae.oD rfl;obtain⟨cx,dp,ct,hQ⟩:=aa.Mk;obtain⟨eB,ig,eC,nR⟩:=ae.Mk;exact atU aJ fe fun W v dR dA p aD bD cX dU e9 hj kp=>(atS dR dA p how a b y a' cx eB dp ct ig eC v W aD hQ nR aJ fe bD cX dU e9 hj kp aS ad).mono fun e w' ⟨q,h⟩=>ih (fun _=>HL q) h
theorem atY {aR:af} {y a':bB}:eZ aR 65 ⟨#[83,83]⟩ 104 [y,a'] fv:=
 p3 rfl (fun W v aD=>(atX y a' v W aD).mono fun e w' ⟨q,h⟩=>ih (fun _=>HL q) h)
structure Row (aR:af) (n:Int) (cg:ByteArray):Prop where
 sm:-1000000≤n∧n≤1000000
 vT:∀W,aq ak 13 #[] W fun e bW=>∃b L fn gZ,e=.returned (.map (U b))∧eR bW b L∧ah W.heap.size W bW∧db L n=U (cS cg (.func (.func fn) #[] gZ))
 has:∀vs:List bB,vs.length=cg.size→(∀(i:Nat) (y:bB) (h:i<cg.size),vs[i]? = U y→dW (cg[i]'h).toNat y)→∃fn,(∀args W,(callFunc fn args).run ak W=.ok (.enter fn args) W)∧eZ aR n cg fn vs fv
 pos:0<cg.size
 auE:cg.size≤3
theorem e' {n:Int} {cg:ByteArray} (h:∀w L,sG w L→∃fn gZ,db L n=U (cS cg (.func (.func fn) #[] gZ))) (W:af):aq ak 13 #[] W fun e bW=>∃b L fn gZ,e=.returned (.map (U b))∧eR bW b L∧ah W.heap.size W bW∧db L n=U (cS cg (.func (.func fn) #[] gZ)):=
 (sH W).mono fun e bW ⟨b,L,aa,ae,aJ,bQ⟩=>by
  obtain⟨fn,gZ,dm⟩:=h bW L aJ;exact⟨b,L,fn,gZ,aa,ae,bQ,dm⟩
theorem pq {vs:List bB} (h:vs.length=1):∃y,vs=[y]:=by
 match vs,h with
 | [y],_=>exact⟨y,rfl⟩
theorem hk {vs:List bB} (h:vs.length=2):∃y a',vs=[y,a']:=by
 match vs,h with
 | [y,a'],_=>exact⟨y,a',rfl⟩
theorem auF {vs:List bB} (h:vs.length=3):∃y a' y3,vs=[y,a',y3]:=by
 match vs,h with
 | [y,a',y3],_=>exact⟨y,a',y3,rfl⟩
theorem auG {aR:af} (_he:Env aR):Row aR 1 ⟨#[73,73]⟩:=
 ⟨by omega,e' (fun w L h=>by obtain⟨p,aa,_⟩:=h.i1;exact⟨_,_,aa⟩),fun vs ao aD=>by
  obtain⟨y,a',rfl⟩:=hk ao;exact⟨17,fun args W=>dF nv rfl rfl args W,fK (aD 0 y (by decide) rfl) (aD 1 a' (by decide) rfl)⟩,by decide,by decide⟩
theorem auH {aR:af} (_he:Env aR):Row aR 2 ⟨#[73,73]⟩:=
 ⟨by omega,e' (fun w L h=>by obtain⟨p,aa,_⟩:=h.i2;exact⟨_,_,aa⟩),fun vs ao aD=>by
  obtain⟨y,a',rfl⟩:=hk ao;exact⟨17,fun args W=>dF nv rfl rfl args W,ml (aD 0 y (by decide) rfl) (aD 1 a' (by decide) rfl)⟩,by decide,by decide⟩
theorem auI {aR:af} (_he:Env aR):Row aR 3 ⟨#[73,73]⟩:=
 ⟨by omega,e' (fun w L h=>by obtain⟨dR,dA,_,_,_,_,hh⟩:=h.or;obtain⟨p,aa,_⟩:=hh 3 (by omega) (by omega);exact⟨_,_,aa⟩),fun vs ao aD=>by
  obtain⟨y,a',rfl⟩:=hk ao;exact⟨67,fun args W=>dF zE rfl rfl args W,DD (how:=3) (by omega) (by omega) (aD 0 y (by decide) rfl) (aD 1 a' (by decide) rfl)⟩,by decide,by decide⟩
theorem auJ {aR:af} (_he:Env aR):Row aR 4 ⟨#[73,73]⟩:=
 ⟨by omega,e' (fun w L h=>by obtain⟨dR,dA,_,_,_,_,hh⟩:=h.or;obtain⟨p,aa,_⟩:=hh 4 (by omega) (by omega);exact⟨_,_,aa⟩),fun vs ao aD=>by
  obtain⟨y,a',rfl⟩:=hk ao;exact⟨67,fun args W=>dF zE rfl rfl args W,DD (how:=4) (by omega) (by omega) (aD 0 y (by decide) rfl) (aD 1 a' (by decide) rfl)⟩,by decide,by decide⟩
theorem auK {aR:af} (_he:Env aR):Row aR 5 ⟨#[73,73]⟩:=
 ⟨by omega,e' (fun w L h=>by obtain⟨dR,dA,_,_,_,_,hh⟩:=h.or;obtain⟨p,aa,_⟩:=hh 5 (by omega) (by omega);exact⟨_,_,aa⟩),fun vs ao aD=>by
  obtain⟨y,a',rfl⟩:=hk ao;exact⟨67,fun args W=>dF zE rfl rfl args W,DD (how:=5) (by omega) (by omega) (aD 0 y (by decide) rfl) (aD 1 a' (by decide) rfl)⟩,by decide,by decide⟩
theorem auL {aR:af} (_he:Env aR):Row aR 6 ⟨#[73,73]⟩:=
 ⟨by omega,e' (fun w L h=>by obtain⟨dR,dA,_,_,_,_,hh⟩:=h.or;obtain⟨p,aa,_⟩:=hh 6 (by omega) (by omega);exact⟨_,_,aa⟩),fun vs ao aD=>by
  obtain⟨y,a',rfl⟩:=hk ao;exact⟨67,fun args W=>dF zE rfl rfl args W,DD (how:=6) (by omega) (by omega) (aD 0 y (by decide) rfl) (aD 1 a' (by decide) rfl)⟩,by decide,by decide⟩
theorem auM {aR:af} (_he:Env aR):Row aR 7 ⟨#[73,73]⟩:=
 ⟨by omega,e' (fun w L h=>by obtain⟨dR,dA,_,_,_,_,hh⟩:=h.or;obtain⟨p,aa,_⟩:=hh 7 (by omega) (by omega);exact⟨_,_,aa⟩),fun vs ao aD=>by
  obtain⟨y,a',rfl⟩:=hk ao;exact⟨67,fun args W=>dF zE rfl rfl args W,DD (how:=7) (by omega) (by omega) (aD 0 y (by decide) rfl) (aD 1 a' (by decide) rfl)⟩,by decide,by decide⟩
theorem auN {aR:af} (_he:Env aR):Row aR 8 ⟨#[73,73]⟩:=
 ⟨by omega,e' (fun w L h=>by obtain⟨dR,dA,_,_,_,_,hh⟩:=h.or;obtain⟨p,aa,_⟩:=hh 8 (by omega) (by omega);exact⟨_,_,aa⟩),fun vs ao aD=>by
  obtain⟨y,a',rfl⟩:=hk ao;exact⟨67,fun args W=>dF zE rfl rfl args W,DD (how:=8) (by omega) (by omega) (aD 0 y (by decide) rfl) (aD 1 a' (by decide) rfl)⟩,by decide,by decide⟩
theorem auO {aR:af} (_he:Env aR):Row aR 9 ⟨#[73,73]⟩:=
 ⟨by omega,e' (fun w L h=>by obtain⟨p,aa,_⟩:=h.i9;exact⟨_,_,aa⟩),fun vs ao aD=>by
  obtain⟨y,a',rfl⟩:=hk ao;exact⟨17,fun args W=>dF nv rfl rfl args W,aon (aD 0 y (by decide) rfl) (aD 1 a' (by decide) rfl)⟩,by decide,by decide⟩
theorem auP {aR:af} (_he:Env aR):Row aR 10 ⟨#[73,73]⟩:=
 ⟨by omega,e' (fun w L h=>by obtain⟨p,aa,_⟩:=h.i10;exact⟨_,_,aa⟩),fun vs ao aD=>by
  obtain⟨y,a',rfl⟩:=hk ao;exact⟨17,fun args W=>dF nv rfl rfl args W,aoo (aD 0 y (by decide) rfl) (aD 1 a' (by decide) rfl)⟩,by decide,by decide⟩
theorem auQ {aR:af} (_he:Env aR):Row aR 11 ⟨#[73,73]⟩:=
 ⟨by omega,e' (fun w L h=>by obtain⟨p,aa,_⟩:=h.i11;exact⟨_,_,aa⟩),fun vs ao aD=>by
  obtain⟨y,a',rfl⟩:=hk ao;exact⟨17,fun args W=>dF nv rfl rfl args W,aop (aD 0 y (by decide) rfl) (aD 1 a' (by decide) rfl)⟩,by decide,by decide⟩
theorem auR {aR:af} (_he:Env aR):Row aR 12 ⟨#[73,73]⟩:=
 ⟨by omega,e' (fun w L h=>by obtain⟨p,aa,_⟩:=h.i12;exact⟨_,_,aa⟩),fun vs ao aD=>by
  obtain⟨y,a',rfl⟩:=hk ao;exact⟨17,fun args W=>dF nv rfl rfl args W,aoq (aD 0 y (by decide) rfl) (aD 1 a' (by decide) rfl)⟩,by decide,by decide⟩
theorem auS {aR:af} (_he:Env aR):Row aR 13 ⟨#[73,73]⟩:=
 ⟨by omega,e' (fun w L h=>by obtain⟨p,aa,_⟩:=h.i13;exact⟨_,_,aa⟩),fun vs ao aD=>by
  obtain⟨y,a',rfl⟩:=hk ao;exact⟨17,fun args W=>dF nv rfl rfl args W,aor (aD 0 y (by decide) rfl) (aD 1 a' (by decide) rfl)⟩,by decide,by decide⟩
theorem auT {aR:af} (_he:Env aR):Row aR 14 ⟨#[73,73]⟩:=
 ⟨by omega,e' (fun w L h=>by obtain⟨p,aa,_⟩:=h.i14;exact⟨_,_,aa⟩),fun vs ao aD=>by
  obtain⟨y,a',rfl⟩:=hk ao;exact⟨17,fun args W=>dF nv rfl rfl args W,aos (aD 0 y (by decide) rfl) (aD 1 a' (by decide) rfl)⟩,by decide,by decide⟩
theorem auU {aR:af} (_he:Env aR):Row aR 15 ⟨#[73,73]⟩:=
 ⟨by omega,e' (fun w L h=>by obtain⟨p,aa,_⟩:=h.i15;exact⟨_,_,aa⟩),fun vs ao aD=>by
  obtain⟨y,a',rfl⟩:=hk ao;exact⟨17,fun args W=>dF nv rfl rfl args W,aot (aD 0 y (by decide) rfl) (aD 1 a' (by decide) rfl)⟩,by decide,by decide⟩
theorem auV {aR:af} (_he:Env aR):Row aR 16 ⟨#[73,73]⟩:=
 ⟨by omega,e' (fun w L h=>by obtain⟨p,aa,_⟩:=h.i16;exact⟨_,_,aa⟩),fun vs ao aD=>by
  obtain⟨y,a',rfl⟩:=hk ao;exact⟨17,fun args W=>dF nv rfl rfl args W,aou (aD 0 y (by decide) rfl) (aD 1 a' (by decide) rfl)⟩,by decide,by decide⟩
theorem auW {aR:af} (_he:Env aR):Row aR 17 ⟨#[73,73]⟩:=
 ⟨by omega,e' (fun w L h=>by obtain⟨p,aa,_⟩:=h.i17;exact⟨_,_,aa⟩),fun vs ao aD=>by
  obtain⟨y,a',rfl⟩:=hk ao;exact⟨17,fun args W=>dF nv rfl rfl args W,aov (aD 0 y (by decide) rfl) (aD 1 a' (by decide) rfl)⟩,by decide,by decide⟩
theorem auX {aR:af} (_he:Env aR):Row aR 18 ⟨#[73,76]⟩:=
 ⟨by omega,e' (fun w L h=>⟨_,_,h.i18⟩),fun vs ao aD=>by
  obtain⟨y,a',rfl⟩:=hk ao;exact⟨40,fun args W=>dF JG rfl rfl args W,aox (aD 0 y (by decide) rfl) (aD 1 a' (by decide) rfl)⟩,by decide,by decide⟩
theorem auY {aR:af} (_he:Env aR):Row aR 19 ⟨#[73,73]⟩:=
 ⟨by omega,e' (fun w L h=>by obtain⟨p,aa,_⟩:=h.i19;exact⟨_,_,aa⟩),fun vs ao aD=>by
  obtain⟨y,a',rfl⟩:=hk ao;exact⟨17,fun args W=>dF nv rfl rfl args W,aow (aD 0 y (by decide) rfl) (aD 1 a' (by decide) rfl)⟩,by decide,by decide⟩
theorem auZ {aR:af} (_he:Env aR):Row aR 20 ⟨#[73,76]⟩:=
 ⟨by omega,e' (fun w L h=>⟨_,_,h.i20⟩),fun vs ao aD=>by
  obtain⟨y,a',rfl⟩:=hk ao;exact⟨42,fun args W=>dF JH rfl rfl args W,aoy (aD 0 y (by decide) rfl) (aD 1 a' (by decide) rfl)⟩,by decide,by decide⟩
theorem au0 {aR:af} (_he:Env aR):Row aR 21 ⟨#[73]⟩:=
 ⟨by omega,e' (fun w L h=>⟨_,_,h.i21⟩),fun vs ao aD=>by
  obtain⟨y,rfl⟩:=pq ao;exact⟨45,fun args W=>dF func45 rfl rfl args W,atP (aD 0 y (by decide) rfl)⟩,by decide,by decide⟩
theorem au1 {aR:af} (_he:Env aR):Row aR 41 ⟨#[70,70]⟩:=
 ⟨by omega,e' (fun w L h=>by obtain⟨_,_,aa,_⟩:=h.k4.f41;exact⟨_,_,aa⟩),fun vs ao aD=>by
  obtain⟨y,a',rfl⟩:=hk ao;exact⟨87,fun args W=>dF zF rfl rfl args W,apC (aD 0 y (by decide) rfl) (aD 1 a' (by decide) rfl)⟩,by decide,by decide⟩
theorem au2 {aR:af} (_he:Env aR):Row aR 42 ⟨#[70,70]⟩:=
 ⟨by omega,e' (fun w L h=>by obtain⟨_,_,aa,_⟩:=h.k4.f42;exact⟨_,_,aa⟩),fun vs ao aD=>by
  obtain⟨y,a',rfl⟩:=hk ao;exact⟨87,fun args W=>dF zF rfl rfl args W,apD (aD 0 y (by decide) rfl) (aD 1 a' (by decide) rfl)⟩,by decide,by decide⟩
theorem au3 {aR:af} (_he:Env aR):Row aR 43 ⟨#[70,70]⟩:=
 ⟨by omega,e' (fun w L h=>by obtain⟨dR,dA,_,_,_,_,hh⟩:=h.of;obtain⟨p,aa,_⟩:=hh 3 (by omega) (by omega);exact⟨_,_,aa⟩),fun vs ao aD=>by
  obtain⟨y,a',rfl⟩:=hk ao;exact⟨71,fun args W=>dF zG rfl rfl args W,DY (how:=3) (by omega) (by omega) (aD 0 y (by decide) rfl) (aD 1 a' (by decide) rfl)⟩,by decide,by decide⟩
theorem au4 {aR:af} (_he:Env aR):Row aR 44 ⟨#[70,70]⟩:=
 ⟨by omega,e' (fun w L h=>by obtain⟨dR,dA,_,_,_,_,hh⟩:=h.of;obtain⟨p,aa,_⟩:=hh 4 (by omega) (by omega);exact⟨_,_,aa⟩),fun vs ao aD=>by
  obtain⟨y,a',rfl⟩:=hk ao;exact⟨71,fun args W=>dF zG rfl rfl args W,DY (how:=4) (by omega) (by omega) (aD 0 y (by decide) rfl) (aD 1 a' (by decide) rfl)⟩,by decide,by decide⟩
theorem au5 {aR:af} (_he:Env aR):Row aR 45 ⟨#[70,70]⟩:=
 ⟨by omega,e' (fun w L h=>by obtain⟨dR,dA,_,_,_,_,hh⟩:=h.of;obtain⟨p,aa,_⟩:=hh 5 (by omega) (by omega);exact⟨_,_,aa⟩),fun vs ao aD=>by
  obtain⟨y,a',rfl⟩:=hk ao;exact⟨71,fun args W=>dF zG rfl rfl args W,DY (how:=5) (by omega) (by omega) (aD 0 y (by decide) rfl) (aD 1 a' (by decide) rfl)⟩,by decide,by decide⟩
theorem au6 {aR:af} (_he:Env aR):Row aR 46 ⟨#[70,70]⟩:=
 ⟨by omega,e' (fun w L h=>by obtain⟨dR,dA,_,_,_,_,hh⟩:=h.of;obtain⟨p,aa,_⟩:=hh 6 (by omega) (by omega);exact⟨_,_,aa⟩),fun vs ao aD=>by
  obtain⟨y,a',rfl⟩:=hk ao;exact⟨71,fun args W=>dF zG rfl rfl args W,DY (how:=6) (by omega) (by omega) (aD 0 y (by decide) rfl) (aD 1 a' (by decide) rfl)⟩,by decide,by decide⟩
theorem au7 {aR:af} (_he:Env aR):Row aR 47 ⟨#[70,70]⟩:=
 ⟨by omega,e' (fun w L h=>by obtain⟨dR,dA,_,_,_,_,hh⟩:=h.of;obtain⟨p,aa,_⟩:=hh 7 (by omega) (by omega);exact⟨_,_,aa⟩),fun vs ao aD=>by
  obtain⟨y,a',rfl⟩:=hk ao;exact⟨71,fun args W=>dF zG rfl rfl args W,DY (how:=7) (by omega) (by omega) (aD 0 y (by decide) rfl) (aD 1 a' (by decide) rfl)⟩,by decide,by decide⟩
theorem au8 {aR:af} (_he:Env aR):Row aR 48 ⟨#[70,70]⟩:=
 ⟨by omega,e' (fun w L h=>by obtain⟨dR,dA,_,_,_,_,hh⟩:=h.of;obtain⟨p,aa,_⟩:=hh 8 (by omega) (by omega);exact⟨_,_,aa⟩),fun vs ao aD=>by
  obtain⟨y,a',rfl⟩:=hk ao;exact⟨71,fun args W=>dF zG rfl rfl args W,DY (how:=8) (by omega) (by omega) (aD 0 y (by decide) rfl) (aD 1 a' (by decide) rfl)⟩,by decide,by decide⟩
theorem au9 {aR:af} (_he:Env aR):Row aR 49 ⟨#[70,70]⟩:=
 ⟨by omega,e' (fun w L h=>by obtain⟨_,_,aa,_⟩:=h.k4.f49;exact⟨_,_,aa⟩),fun vs ao aD=>by
  obtain⟨y,a',rfl⟩:=hk ao;exact⟨87,fun args W=>dF zF rfl rfl args W,apE (aD 0 y (by decide) rfl) (aD 1 a' (by decide) rfl)⟩,by decide,by decide⟩
theorem au' {aR:af} (_he:Env aR):Row aR 50 ⟨#[70,70]⟩:=
 ⟨by omega,e' (fun w L h=>by obtain⟨_,_,aa,_⟩:=h.k4.f50;exact⟨_,_,aa⟩),fun vs ao aD=>by
  obtain⟨y,a',rfl⟩:=hk ao;exact⟨87,fun args W=>dF zF rfl rfl args W,atI (aD 0 y (by decide) rfl) (aD 1 a' (by decide) rfl)⟩,by decide,by decide⟩
theorem ava {aR:af} (_he:Env aR):Row aR 51 ⟨#[70]⟩:=
 ⟨by omega,e' (fun w L h=>⟨_,_,h.k4.f51⟩),fun vs ao aD=>by
  obtain⟨y,rfl⟩:=pq ao;exact⟨92,fun args W=>dF func92 rfl rfl args W,atJ (aD 0 y (by decide) rfl)⟩,by decide,by decide⟩
theorem avb {aR:af} (_he:Env aR):Row aR 52 ⟨#[70]⟩:=
 ⟨by omega,e' (fun w L h=>by obtain⟨_,aa,_⟩:=h.k4.f52;exact⟨_,_,aa⟩),fun vs ao aD=>by
  obtain⟨y,rfl⟩:=pq ao;exact⟨91,fun args W=>dF JI rfl rfl args W,atK (aD 0 y (by decide) rfl)⟩,by decide,by decide⟩
theorem avc {aR:af} (_he:Env aR):Row aR 53 ⟨#[70]⟩:=
 ⟨by omega,e' (fun w L h=>⟨_,_,h.k4.f53⟩),fun vs ao aD=>by
  obtain⟨y,rfl⟩:=pq ao;exact⟨94,fun args W=>dF func94 rfl rfl args W,atO (aD 0 y (by decide) rfl)⟩,by decide,by decide⟩
theorem avd {aR:af} (_he:Env aR):Row aR 54 ⟨#[70,76]⟩:=
 ⟨by omega,e' (fun w L h=>⟨_,_,h.k4.f54⟩),fun vs ao aD=>by
  obtain⟨y,a',rfl⟩:=hk ao;exact⟨96,fun args W=>dF JL rfl rfl args W,atL (aD 0 y (by decide) rfl)⟩,by decide,by decide⟩
theorem ave {aR:af} (_he:Env aR):Row aR 55 ⟨#[70]⟩:=
 ⟨by omega,e' (fun w L h=>by obtain⟨_,aa,_⟩:=h.k4.f55;exact⟨_,_,aa⟩),fun vs ao aD=>by
  obtain⟨y,rfl⟩:=pq ao;exact⟨91,fun args W=>dF JI rfl rfl args W,apF (aD 0 y (by decide) rfl)⟩,by decide,by decide⟩
theorem avf {aR:af} (he:Env aR):Row aR 56 ⟨#[70]⟩:=
 ⟨by omega,e' (fun w L h=>⟨_,_,h.k4.f56⟩),fun vs ao aD=>by
  obtain⟨y,rfl⟩:=pq ao;exact⟨98,fun args W=>dF func98 rfl rfl args W,atM he (aD 0 y (by decide) rfl)⟩,by decide,by decide⟩
theorem avg {aR:af} (_he:Env aR):Row aR 57 ⟨#[70]⟩:=
 ⟨by omega,e' (fun w L h=>by obtain⟨_,aa,_⟩:=h.k4.f57;exact⟨_,_,aa⟩),fun vs ao aD=>by
  obtain⟨y,rfl⟩:=pq ao;exact⟨91,fun args W=>dF JI rfl rfl args W,apG (aD 0 y (by decide) rfl)⟩,by decide,by decide⟩
theorem avh {aR:af} (_he:Env aR):Row aR 61 ⟨#[83,76]⟩:=
 ⟨by omega,e' (fun w L h=>⟨_,_,h.jq 61 _ rfl⟩),fun vs ao aD=>by
  obtain⟨y,a',rfl⟩:=hk ao;exact⟨100,fun args W=>dF Pz rfl rfl args W,aoH (aD 0 y (by decide) rfl) (aD 1 a' (by decide) rfl)⟩,by decide,by decide⟩
theorem avi {aR:af} (_he:Env aR):Row aR 62 ⟨#[83]⟩:=
 ⟨by omega,e' (fun w L h=>⟨_,_,h.jq 62 _ rfl⟩),fun vs ao aD=>by
  obtain⟨y,rfl⟩:=pq ao;exact⟨101,fun args W=>dF func101 rfl rfl args W,aoI (aD 0 y (by decide) rfl)⟩,by decide,by decide⟩
theorem avj {aR:af} (_he:Env aR):Row aR 63 ⟨#[83,83]⟩:=
 ⟨by omega,e' (fun w L h=>⟨_,_,h.jq 63 _ rfl⟩),fun vs ao aD=>by
  obtain⟨y,a',rfl⟩:=hk ao;exact⟨102,fun args W=>dF Py rfl rfl args W,aoJ (aD 0 y (by decide) rfl) (aD 1 a' (by decide) rfl)⟩,by decide,by decide⟩
theorem avk {aR:af} (_he:Env aR):Row aR 64 ⟨#[83,83]⟩:=
 ⟨by omega,e' (fun w L h=>⟨_,_,h.jq 64 _ rfl⟩),fun vs ao aD=>by
  obtain⟨y,a',rfl⟩:=hk ao;exact⟨103,fun args W=>dF func103 rfl rfl args W,aoK⟩,by decide,by decide⟩
theorem avl {aR:af} (_he:Env aR):Row aR 65 ⟨#[83,83]⟩:=
 ⟨by omega,e' (fun w L h=>⟨_,_,h.jq 65 _ rfl⟩),fun vs ao aD=>by
  obtain⟨y,a',rfl⟩:=hk ao;exact⟨104,fun args W=>dF func104 rfl rfl args W,atY⟩,by decide,by decide⟩
theorem avm {aR:af} (_he:Env aR):Row aR 66 ⟨#[83]⟩:=
 ⟨by omega,e' (fun w L h=>⟨_,_,h.jq 66 _ rfl⟩),fun vs ao aD=>by
  obtain⟨y,rfl⟩:=pq ao;exact⟨106,fun args W=>dF func106 rfl rfl args W,aoL (aD 0 y (by decide) rfl)⟩,by decide,by decide⟩
theorem avn {aR:af} (_he:Env aR):Row aR 67 ⟨#[89]⟩:=
 ⟨by omega,e' (fun w L h=>⟨_,_,h.jq 67 _ rfl⟩),fun vs ao aD=>by
  obtain⟨y,rfl⟩:=pq ao;exact⟨107,fun args W=>dF func107 rfl rfl args W,aoM (aD 0 y (by decide) rfl)⟩,by decide,by decide⟩
theorem avo {aR:af} (_he:Env aR):Row aR 68 ⟨#[83,76,76]⟩:=
 ⟨by omega,e' (fun w L h=>⟨_,_,h.jq 68 _ rfl⟩),fun vs ao aD=>by
  obtain⟨y,a',y3,rfl⟩:=auF ao;exact⟨108,fun args W=>dF Jw rfl rfl args W,aoN (aD 0 y (by decide) rfl) (aD 2 y3 (by decide) rfl)⟩,by decide,by decide⟩
theorem avp {aR:af} (_he:Env aR):Row aR 69 ⟨#[83,67]⟩:=
 ⟨by omega,e' (fun w L h=>⟨_,_,h.jq 69 _ rfl⟩),fun vs ao aD=>by
  obtain⟨y,a',rfl⟩:=hk ao;exact⟨109,fun args W=>dF PM rfl rfl args W,auA (aD 0 y (by decide) rfl) (aD 1 a' (by decide) rfl)⟩,by decide,by decide⟩
theorem avq {aR:af} (he:Env aR):Row aR 70 ⟨#[83]⟩:=
 ⟨by omega,e' (fun w L h=>⟨_,_,h.jq 70 _ rfl⟩),fun vs ao aD=>by
  obtain⟨y,rfl⟩:=pq ao;exact⟨111,fun args W=>dF func111 rfl rfl args W,auD he (aD 0 y (by decide) rfl)⟩,by decide,by decide⟩
theorem avr {aR:af} (he:Env aR):Row aR 71 ⟨#[83]⟩:=
 ⟨by omega,e' (fun w L h=>⟨_,_,h.jq 71 _ rfl⟩),fun vs ao aD=>by
  obtain⟨y,rfl⟩:=pq ao;exact⟨113,fun args W=>dF func113 rfl rfl args W,atN he (aD 0 y (by decide) rfl)⟩,by decide,by decide⟩
theorem avs {aR:af} (_he:Env aR):Row aR 72 ⟨#[83]⟩:=
 ⟨by omega,e' (fun w L h=>⟨_,_,h.jq 72 _ rfl⟩),fun vs ao aD=>by
  obtain⟨y,rfl⟩:=pq ao;exact⟨115,fun args W=>dF func115 rfl rfl args W,auB (aD 0 y (by decide) rfl)⟩,by decide,by decide⟩
theorem avt {aR:af} (_he:Env aR):Row aR 81 ⟨#[67]⟩:=
 ⟨by omega,e' (fun w L h=>⟨_,_,h.jq 81 _ rfl⟩),fun vs ao aD=>by
  obtain⟨y,rfl⟩:=pq ao;exact⟨117,fun args W=>dF func117 rfl rfl args W,aoO (aD 0 y (by decide) rfl)⟩,by decide,by decide⟩
theorem avu {aR:af} (_he:Env aR):Row aR 82 ⟨#[76]⟩:=
 ⟨by omega,e' (fun w L h=>⟨_,_,h.jq 82 _ rfl⟩),fun vs ao aD=>by
  obtain⟨y,rfl⟩:=pq ao;exact⟨118,fun args W=>dF PD rfl rfl args W,aoP⟩,by decide,by decide⟩
theorem avv {aR:af} (_he:Env aR):Row aR 83 ⟨#[67,67]⟩:=
 ⟨by omega,e' (fun w L h=>⟨_,_,h.jq 83 _ rfl⟩),fun vs ao aD=>by
  obtain⟨y,a',rfl⟩:=hk ao;exact⟨119,fun args W=>dF func119 rfl rfl args W,aoQ⟩,by decide,by decide⟩
theorem avw {aR:af} (_he:Env aR):Row aR 84 ⟨#[67]⟩:=
 ⟨by omega,e' (fun w L h=>⟨_,_,h.jq 84 _ rfl⟩),fun vs ao aD=>by
  obtain⟨y,rfl⟩:=pq ao;exact⟨120,fun args W=>dF func120 rfl rfl args W,auC (aD 0 y (by decide) rfl)⟩,by decide,by decide⟩
def VI:List (Int×ByteArray):=[(1,⟨#[73,73]⟩),(2,⟨#[73,73]⟩),(3,⟨#[73,73]⟩),(4,⟨#[73,73]⟩),(5,⟨#[73,73]⟩),(6,⟨#[73,73]⟩),(7,⟨#[73,73]⟩),(8,⟨#[73,73]⟩),(9,⟨#[73,73]⟩),(10,⟨#[73,73]⟩),(11,⟨#[73,73]⟩),(12,⟨#[73,73]⟩),(13,⟨#[73,73]⟩),(14,⟨#[73,73]⟩),(15,⟨#[73,73]⟩),(16,⟨#[73,73]⟩),(17,⟨#[73,73]⟩),(18,⟨#[73,76]⟩),(19,⟨#[73,73]⟩),(20,⟨#[73,76]⟩),(21,⟨#[73]⟩),(41,⟨#[70,70]⟩),(42,⟨#[70,70]⟩),(43,⟨#[70,70]⟩),(44,⟨#[70,70]⟩),(45,⟨#[70,70]⟩),(46,⟨#[70,70]⟩),(47,⟨#[70,70]⟩),(48,⟨#[70,70]⟩),(49,⟨#[70,70]⟩),(50,⟨#[70,70]⟩),(51,⟨#[70]⟩),(52,⟨#[70]⟩),(53,⟨#[70]⟩),(54,⟨#[70,76]⟩),(55,⟨#[70]⟩),(56,⟨#[70]⟩),(57,⟨#[70]⟩),(61,⟨#[83,76]⟩),(62,⟨#[83]⟩),(63,⟨#[83,83]⟩),(64,⟨#[83,83]⟩),(65,⟨#[83,83]⟩),(66,⟨#[83]⟩),(67,⟨#[89]⟩),(68,⟨#[83,76,76]⟩),(69,⟨#[83,67]⟩),(70,⟨#[83]⟩),(71,⟨#[83]⟩),(72,⟨#[83]⟩),(81,⟨#[67]⟩),(82,⟨#[76]⟩),(83,⟨#[67,67]⟩),(84,⟨#[67]⟩)]
def pW:List (Int×ByteArray)→Int→Option ByteArray
 | [],_=>J
 | (k,v)::r,n=>if k=n then U v else pW r n
theorem afg {n:Int} {v:ByteArray}:∀{L:List (Int×ByteArray)},pW L n=U v→(n,v) ∈ L
 | [],h=>by cases h
 | (k,u)::r,h=>by
   unfold pW at h;split at h
   ·rename_i e;subst e;injection h with h;subst h;exact List.mem_cons_self
   ·exact BE _ (afg h)
def y' (n:Int):Option ByteArray:=pW VI n
theorem all_cons {α:Type} {P:α→Prop} {a:α} {l:List α} (h:P a) (r:∀p ∈ l,P p):∀p ∈ a::l,P p:=fun p hp=>by
 rcases List.mem_cons.1 hp with rfl | ae
 ·exact h
 ·exact r p ae
theorem all_nil {α:Type} {P:α→Prop}:∀p ∈ ([]:List α),P p:=fun p hp=>by cases hp
theorem afh {aR:af} (he:Env aR) {n:Int} {cg:ByteArray} (h:y' n=U cg):Row aR n cg:=by
 have key:∀p ∈ VI,Row aR p.1 p.2:=
  all_cons (auG he) <| all_cons (auH he) <| all_cons (auI he) <| all_cons (auJ he) <| all_cons (auK he) <| all_cons (auL he) <| all_cons (auM he) <| all_cons (auN he) <| all_cons (auO he) <| all_cons (auP he) <| all_cons (auQ he) <| all_cons (auR he) <| all_cons (auS he) <| all_cons (auT he) <| all_cons (auU he) <| all_cons (auV he) <| all_cons (auW he) <| all_cons (auX he) <| all_cons (auY he) <| all_cons (auZ he) <| all_cons (au0 he) <| all_cons (au1 he) <| all_cons (au2 he) <| all_cons (au3 he) <| all_cons (au4 he) <| all_cons (au5 he) <| all_cons (au6 he) <| all_cons (au7 he) <| all_cons (au8 he) <| all_cons (au9 he) <| all_cons (au' he) <| all_cons (ava he) <| all_cons (avb he) <| all_cons (avc he) <| all_cons (avd he) <| all_cons (ave he) <| all_cons (avf he) <| all_cons (avg he) <| all_cons (avh he) <| all_cons (avi he) <| all_cons (avj he) <| all_cons (avk he) <| all_cons (avl he) <| all_cons (avm he) <| all_cons (avn he) <| all_cons (avo he) <| all_cons (avp he) <| all_cons (avq he) <| all_cons (avr he) <| all_cons (avs he) <| all_cons (avt he) <| all_cons (avu he) <| all_cons (avv he) <| all_cons (avw he) <| all_nil
 exact key _ (afg h)
theorem avx:∀m,m<85→((1≤m∧m≤21)∨(41≤m∧m≤57)∨(61≤m∧m≤72)∨(81≤m∧m≤84))→(pW VI ((m:Nat):Int)).isSome=true:=by decide
theorem afi {n:Int} (h:y' n=J) (W:af):aq ak 13 #[] W fun e bW=>∃b L,e=.returned (.map (U b))∧eR bW b L∧ah W.heap.size W bW∧db L n=J:=by
 have key:¬ ((1≤n∧n≤21)∨(41≤n∧n≤57)∨(61≤n∧n≤72)∨(81≤n∧n≤84)):=fun aF=>by
  have:=avx n.toNat (by omega) (by omega);rw[show ((n.toNat:Nat):Int)=n by omega] at this;unfold y' at h;rw[h] at this;cases this
 exact (sH W).mono fun e bW ⟨b,L,aa,ae,aJ,bQ⟩=>⟨b,L,aa,ae,bQ,aJ.Zu n (fun h=>key (.inl h)) (fun h=>key (.inr (.inl h))) (fun h=>key (.inr (.inr (.inl h)))) (fun h=>key (.inr (.inr (.inr h))))⟩
end Go.Proofs.YtkhphoonnkoipaaGreatDoor
