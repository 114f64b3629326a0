/- Lemmas. -/
import Derived.Test.YtkhphoonnkoipaaGreatDoorVaab
import Derived.Test.YtkhphoonnkoipaaGreatDoorVaac
import Derived.BigQuiet
import Derived.Lib.SmallJoins
set_option linter.all false
set_option maxHeartbeats 2000000
set_option maxRecDepth 100000
open Go.Proofs.Tryz Go.RowKit Go.Lib
open Option renaming none→J,some→U
open Bool renaming true→ai,false→ab
open Decidable renaming decide→au
open Go renaming World→af,Calls→aq,Addr→ho
open Go.RowKit renaming Below→ah
open Go.Proofs.Tryz renaming prog→ak
namespace Go.Proofs.YtkhphoonnkoipaaGreatDoor
theorem vQ (b:Bool) (w:af):aq ak 286 #[.bool b] w fun e w'=>e=.returned (.int .u64 (if b then 1 else 0))∧w=w':=by
 cases b
 ·go_enter func286,ntmps286;go_wp2;go_ret;exact⟨rfl,rfl⟩
 ·go_enter func286,ntmps286;go_wp2;go_ret;exact⟨rfl,rfl⟩
theorem Fg (x:Int) (w:af) (aa:-400≤x) (ae:x≤400):aq ak 256 #[.int .i64 x] w fun e w'=>e=.returned (.int .i64 (x*108853/32768))∧w=w':=by
 go_enter func256,ntmps256;go_wp2;go_ret;exact⟨rfl,rfl⟩
theorem PX:∀s:Nat,s<64→bits .and .i64 (s:Int) 63=s:=by decide
namespace o
def oY (x aV lo s:Nat):Nat:=
 if x*aV/18446744073709551616/2^s*2^s=x*aV/18446744073709551616 then
  (x*aV/18446744073709551616+18446744073709551616-(if x*aV%18446744073709551616<x*lo/18446744073709551616 then 1 else 0))%18446744073709551616/2^s ||| (if 1<(x*aV%18446744073709551616+18446744073709551616-x*lo/18446744073709551616)%18446744073709551616 then 1 else 0)
 else x*aV/18446744073709551616/2^s ||| 1
theorem agh {x aV lo s h:Nat} (aH:x*aV/18446744073709551616=h) (aE:¬ h/2^s*2^s=h):oY x aV lo s=h/2^s ||| 1:=by
 subst aH;unfold oY;rw[aU aE]
theorem agi {x aV lo s h mid jw iE g:Nat} (aH:x*aV/18446744073709551616=h) (aT:x*aV%18446744073709551616=mid) (b8:x*lo/18446744073709551616=jw) (aE:h/2^s*2^s=h) (eb:iE=(h+18446744073709551616-(if mid<jw then 1 else 0))%18446744073709551616) (vR:g=(mid+18446744073709551616-jw)%18446744073709551616):oY x aV lo s=iE/2^s ||| (if 1<g then 1 else 0):=by
 subst aH aT b8 eb vR;unfold oY;rw[ba aE]
end o
theorem pA {a:Nat} (h:a<18446744073709551616):IntKind.u64.wrap (a:Int)=a:=by
 have:=ha (a:Int);rw[this];omega
theorem Fh {a b:Nat} (aS:a<18446744073709551616) (ad:b<18446744073709551616):bits .or .u64 (a:Int) (b:Int)=((a ||| b:Nat):Int):=by
 have kA:(2:Nat)^IntKind.u64.bits=18446744073709551616:=rfl;have b6:a ||| b<2^64:=zm (by simpa using aS) (by simpa using ad)
 simp only[bits,oK,vL,ns,kA];rw[eF aS,eF ad,pA (by simpa using b6)]
theorem o.agj (h mid jw:Nat) (hm:mid<18446744073709551616) (ao:jw<18446744073709551616) (hh:h<18446744073709551616):∃(t:Int) (iE g:Nat),(if au (mid<jw)=ai then (1:Int) else 0)=t∧iE<18446744073709551616∧g<18446744073709551616∧IntKind.u64.wrap ((h:Int)-t)=iE∧IntKind.u64.wrap ((mid:Int)-jw)=g∧∀{x aV lo s:Nat},x*aV/18446744073709551616=h→x*aV%18446744073709551616=mid→x*lo/18446744073709551616=jw→h/2^s*2^s=h→o.oY x aV lo s=iE/2^s ||| (if 1<g then 1 else 0):=by
 refine⟨_,(h+18446744073709551616-(if mid<jw then 1 else 0))%18446744073709551616,(mid+18446744073709551616-jw)%18446744073709551616,rfl,eW _ (by decide),eW _ (by decide),?_,?_,fun aH aT b8 aE=>o.agi aH aT b8 aE rfl rfl⟩
 ·rw[ha];by_cases an:mid<jw
  ·rw[ba an,ba (bE an)];omega
  ·rw[aU an,aU (by simpa using an)];omega
 ·rw[ha];omega
theorem agk (x aV lo s b:Nat) (w:af) (hx:x<18446744073709551616) (ny:aV<18446744073709551616) (jg:lo<18446744073709551616) (a1:s<64)
 (c0:w.cell? ⟨b,0,J⟩=U (.int .u64 aV)) (c1:w.cell? ⟨b,1,J⟩=U (.int .u64 lo)) (c2:w.cell? ⟨b,2,J⟩=U (.int .i64 s)) :
 aq ak 257 #[.int .u64 x,.pointer (U ⟨b,0,J⟩)] w fun e w'=>e=.returned (.int .u64 (o.oY x aV lo s))∧∃n,w'=w.drewN n:=by
 have ad:=PX s a1;have Wh:x*aV/18446744073709551616<18446744073709551616:=vH (D9 hx ny);have Wi:x*aV%18446744073709551616<18446744073709551616:=eW _ (by omega);have Wj:x*lo/18446744073709551616<18446744073709551616:=vH (D9 hx jg);go_enter func257,ntmps257;go_wp2_with fail;refine (bits_Mul64 x aV hx ny _).mono ?_;rintro e w' ⟨rfl,rfl⟩;generalize aH:x*aV/18446744073709551616=h at Wh ⊢;generalize aT:x*aV%18446744073709551616=mid at Wi ⊢;have mO:=I aH;have mP:=I aT;clear aH aT;have hle:h/2^s*2^s≤h:=Ej _ _;have aL:h/2^s≤h:=s9 _ _;have hw:IntKind.u64.wrap ((h:Int)/2^s*2^s)=((h/2^s*2^s:Nat):Int):=by
  rw[←pA (show h/2^s*2^s<18446744073709551616 by omega)];simp
 by_cases aE:h/2^s*2^s=h
 ·have Fi:(IntKind.u64.wrap ((h:Int)/2^s*2^s) != (h:Int))=ab:=by rw[hw,aE];simp
  have b3:=I aE;clear aE hw hle;go_wp2_with fail;refine (bits_Mul64 x lo hx jg _).mono ?_;rintro e w' ⟨rfl,rfl⟩;generalize b8:x*lo/18446744073709551616=jw at Wj ⊢;have Fj:=I b8;clear b8;go_wp2_with fail;refine (vQ _ _).mono ?_;rintro e w' ⟨rfl,rfl⟩;obtain⟨t,iE,g,xK,bQ,dm,uH,awt,kB⟩:=o.agj h mid jw Wi Wj (hh:=Wh);rw[xK];have bG:=I (kB mO.out mP.out Fj.out b3.out);clear xK kB;have bF:=I (fun (d:Nat) (aL:d<2)=>Fh (show iE/2^s<18446744073709551616 from gQ (s9 _ _) bQ) (show d<18446744073709551616 by omega));go_wp2;go_quiet ((go_at_call 286;exact Calls.quiet_of_same ((vQ _ _).mono (fun _ _ h=>⟨h.1,h.2.symm⟩))));go_wp2_with fail
  ·go_ret;exact⟨jf (by rw[bG.out,ba (by omega),←bF.out 1 (by omega)];simp),_,rfl⟩
  ·go_ret;exact⟨jf (by rw[bG.out,aU (by omega),←bF.out 0 (by omega)];simp),_,rfl⟩
 have Fi:(IntKind.u64.wrap ((h:Int)/2^s*2^s) != (h:Int))=ai:=by rw[hw,kR];omega
 have bG:=I (o.agh (lo:=lo) mO.out aE);have bF:=I (Fh (show h/2^s<18446744073709551616 by omega) (show 1<18446744073709551616 by omega));clear aE hw hle aL;go_wp2;go_ret;exact⟨jf (by rw[bG.out,←bF.out];simp),0,rfl⟩
theorem agl (x:Int) (w:af) (aa:-3000≤x) (ae:x≤3000):aq ak 254 #[.int .i64 x] w fun e w'=>e=.returned (.int .i64 ((x*631305-261663)/2097152))∧w=w':=by
 go_enter func254,ntmps254;go_wp2;go_ret;exact⟨rfl,rfl⟩
theorem PY (x:Int) (w:af) (aa:-3000≤x) (ae:x≤3000):aq ak 230 #[.int .i64 x] w fun e w'=>e=.returned (.int .i64 (x*78913/262144))∧w=w':=by
 go_enter EW,ntmps230;go_wp2;go_ret;exact⟨rfl,rfl⟩
theorem JX (u:Nat) (w:af) (h:u<18446744073709551600):aq ak 259 #[.int .u64 u] w fun e w'=>e=.returned (.int .u64 ((u+3)/4:Nat))∧w=w':=by
 go_enter func259,ntmps259;go_wp2;go_ret;exact⟨jf (by simp),rfl⟩
theorem JY (u:Nat) (w:af) (h:u<18446744073709551600):aq ak 260 #[.int .u64 u] w fun e w'=>e=.returned (.int .u64 (u/4:Nat))∧w=w':=by
 go_enter func260,ntmps260;go_wp2;go_ret;exact⟨jf (by simp),rfl⟩
theorem Wk {a:Nat} (aS:a<18446744073709551616):bits .and .u64 (a:Int) 1=((a%2:Nat):Int):=by
 have kA:(2:Nat)^IntKind.u64.bits=18446744073709551616:=rfl;have e:(1:Int)=((1:Nat):Int):=rfl;rw[e];simp only[bits,oK,BK,ns,kA];rw[eF aS,eF (show 1<18446744073709551616 by decide),En,pA (by omega)]
theorem Cb (u:Nat) (w:af) (h:u<18446744073709551600):aq ak 261 #[.int .u64 u] w fun e w'=>e=.returned (.int .u64 ((u+1+u/4%2)/4:Nat))∧w=w':=by
 have hand:bits .and .u64 ((u:Int)/4) 1=((u/4%2:Nat):Int):=Wk (show u/4<18446744073709551616 by omega);generalize aL:u/4%2=d at hand ⊢;have gq:d<2:=by omega
 clear aL;go_enter func261,ntmps261;go_wp2;go_ret;exact⟨jf (by simp),rfl⟩
theorem xL (u r:Nat) (d:Int) (w:af) (h:u<18446744073709551600) (aL:d = -1∨d=0∨d=1) (aF:(u:Int)+d=r):aq ak 258 #[.int .u64 u,.int .i64 d] w fun e w'=>e=.returned (.int .u64 r)∧w=w':=by
 have bG:=I aF;rcases aL with rfl | rfl | rfl
 ·have hu:1≤u:=by omega
  have hw:IntKind.u64.wrap ((u:Int)+18446744073709551615)=(r:Int):=by rw[ha];omega
  clear aF;go_enter O5,OM;go_wp2;go_ret;exact⟨jf hw,rfl⟩
 ·clear aF;go_enter O5,OM;go_wp2;go_ret;exact⟨jf (by have:=bG.out;omega),rfl⟩
 ·clear aF;go_enter O5,OM;go_wp2;go_ret;exact⟨jf (by have:=bG.out;omega),rfl⟩
theorem agm (e p uI:Int) (b aV lo:Nat) (w:af) (he:-2000≤e∧e≤2000) (hp:-348≤p∧p≤347) (ao:-2000≤uI∧uI≤2000)
 (t0:w.cell? ⟨11,(p+348).toNat*2,J⟩=U (.int .u64 aV)) (t1:w.cell? ⟨11,(p+348).toNat*2+1,J⟩=U (.int .u64 lo))
 {v0 v1 v2:Value} (c0:w.cell? ⟨b,0,J⟩=U v0) (c1:w.cell? ⟨b,1,J⟩=U v1) (c2:w.cell? ⟨b,2,J⟩=U v2)
 (f0:w.frozen? ⟨b,0,J⟩=ab) (f1:w.frozen? ⟨b,1,J⟩=ab) (f2:w.frozen? ⟨b,2,J⟩=ab) (_hb:b≠11) :
 aq ak 255 #[.pointer (U ⟨b,0,J⟩),.int .i64 e,.int .i64 p,.int .i64 uI] w fun bm w'=>bm=.returned (.tuple #[])∧w'=((w.setCell ⟨b,0,J⟩ (.int .u64 aV)).setCell ⟨b,1,J⟩ (.int .u64 lo)).setCell ⟨b,2,J⟩ (.int .i64 (-(e+uI+3))):=by
 go_enter func255,ntmps255;go_wp2;exact bodyPost_end (v:=.tuple #[]) (by simp[results,results255,go_sem]) rfl ⟨rfl,rfl⟩
namespace o
def gG (p:Int):Nat×Nat:=(Pinned.pow10Rows[(p+348).toNat]?).getD (0,0)
def cz (e p:Int):Nat:=(-(e+p*108853/32768+3)).toNat
def fJ (x:Nat) (e p:Int):Nat:=oY x (gG p).1 (gG p).2 (cz e p)
theorem Wl:(Pinned.pow10Rows.length==696&&Pinned.pow10Rows.all fun x=>au (9223372036854775808≤x.1∧x.1<18446744073709551616∧x.2<18446744073709551616))=ai:=by decide +kernel
theorem PZ:Pinned.pow10Rows.length=696:=by
 have:=Wl;simp only[s6,gy] at this;exact this.1
theorem Wm {p:Int} (aa:-348≤p) (ae:p≤347):Pinned.pow10Rows[(p+348).toNat]? = U (gG p):=by
 unfold gG;have ao:(p+348).toNat<Pinned.pow10Rows.length:=by rw[PZ];omega
 rw[eE ao];rfl
theorem Cc {p:Int} (aa:-348≤p) (ae:p≤347):9223372036854775808≤(gG p).1∧(gG p).1<18446744073709551616∧(gG p).2<18446744073709551616:=by
 have h:=Wl;simp only[s6,List.all_eq_true,NW] at h;exact h.2 _ (r9 (Wm aa ae))
theorem agn {x aV lo s:Nat} (a1:1≤s) (hx:x<18446744073709551616) (ny:aV<18446744073709551616):oY x aV lo s<9223372036854775808:=by
 have hh:x*aV/18446744073709551616<18446744073709551616:=vH (D9 hx ny);have key:∀a:Nat,a<18446744073709551616→a/2^s<2^63:=by
  intro a aS;have:2≤2^s:=by
   have:=dB (show 0<2 by decide) a1;simpa using this
  exact gQ (ND this (by decide)) (by omega)
 have ago:(9223372036854775808:Nat)=2^63:=by decide
 unfold oY;rw[ago];split
 ·refine zm (key _ (eW _ (by decide))) ?_;split<;>decide
 ·exact zm (key _ hh) (by decide)
theorem agp {x aV lo s:Nat} (a1:s≤58) (hx:4611686018427387904≤x) (gg:x<18446744073709551616) (ny:9223372036854775808≤aV) (P0:aV<18446744073709551616):2≤oY x aV lo s:=by
 have hh:x*aV/18446744073709551616<18446744073709551616:=vH (D9 gg P0);have ao:4611686018427387904*9223372036854775808≤x*aV:=kz hx ny;have aY:2305843009213693952≤x*aV/18446744073709551616:=by
  rw[kP (by decide)];exact cp (by decide) ao
 have hp:2^s≤288230376151711744:=by
  have:=dB (show 0<2 by decide) a1;exact cp this (by decide)
 have Fk:0<2^s:=dK (by decide);have key:∀a:Nat,2305843009213693951≤a→2≤a/2^s:=by
  intro a aS;rw[kP Fk];omega
 unfold oY;generalize x*aV/18446744073709551616=h at hh aY ⊢;generalize x*aV%18446744073709551616=g;generalize x*lo/18446744073709551616=k;split
 ·refine cp (key _ ?_) I';split<;>omega
 ·exact cp (key _ (by omega)) I'
theorem pB {x:Nat} {e p:Int} (aa:-348≤p) (ae:p≤347) (a1:1≤cz e p) (hx:x<18446744073709551616):fJ x e p<9223372036854775808:=agn a1 hx (Cc aa ae).2.1
theorem vS {x:Nat} {e p:Int} (aa:-348≤p) (ae:p≤347) (a1:cz e p≤58) (hx:4611686018427387904≤x) (gg:x<18446744073709551616):2≤fJ x e p:=agp a1 hx gg (Cc aa ae).1 (Cc aa ae).2.1
def lN (m fg fq eG:Nat) (e p:Int):Nat×Int:=
 if (fJ fg e p+eG+3)/4≤(fJ fq e p-eG)/4/10*10 then ((fJ fq e p-eG)/4/10,-(p-1))
 else if (fJ fg e p+eG+3)/4<(fJ fq e p-eG)/4 then ((fJ m e p+1+fJ m e p/4%2)/4,-p)
 else ((fJ fg e p+eG+3)/4,-p)
def iF (m:Nat) (e:Int):Nat×Int:=
 if m=9223372036854775808∧-1085<e then lN m (m-512) (m+1024) (m/2048%2) e (-(((e+11)*631305-261663)/2097152))
 else if -1085≤e then lN m (m-1024) (m+1024) (m/2048%2) e (-((e+11)*78913/262144))
 else lN m (m-2^(-1075-e).toNat) (m+2^(-1075-e).toNat) (m/2^(-1074-e).toNat%2) e 324
end o
def qh (w:af):Prop:=∀(i aV lo:Nat),Pinned.pow10Rows[i]? = U (aV,lo)→w.cell? ⟨11,i*2,J⟩=U (.int .u64 aV)∧w.cell? ⟨11,i*2+1,J⟩=U (.int .u64 lo)
theorem qh.at {w:af} (h:qh w) {p:Int} (aa:-348≤p) (ae:p≤347):w.cell? ⟨11,(p+348).toNat*2,J⟩=U (.int .u64 (o.gG p).1)∧w.cell? ⟨11,(p+348).toNat*2+1,J⟩=U (.int .u64 (o.gG p).2):=h _ _ _ (o.Wm aa ae)
theorem qh.below {w w':af} {B:Nat} (h:qh w) (ad:ah B w w') (az:11<B):qh w':=by
 intro i aV lo aF;obtain⟨a,b⟩:=h i aV lo aF;exact⟨by rw[ad.cell (p:=⟨11,i*2,J⟩) az];exact a,by rw[ad.cell (p:=⟨11,i*2+1,J⟩) az];exact b⟩
def Cd (w:af) (b:Nat) (e p:Int):Prop:=w.cell? ⟨b,0,J⟩=U (.int .u64 (o.gG p).1)∧w.cell? ⟨b,1,J⟩=U (.int .u64 (o.gG p).2)∧w.cell? ⟨b,2,J⟩=U (.int .i64 (-(e+p*108853/32768+3)))
theorem Cd.drewN {w:af} {b:Nat} {e p:Int} (h:Cd w b e p) (n:Nat):Cd (w.drewN n) b e p:=by
 unfold Cd at h ⊢;simpa using h
theorem Fl (e p:Int) (b:Nat) (w:af) (he:-2000≤e∧e≤2000) (hp:-348≤p∧p≤347) (bn:qh w)
 {v0 v1 v2:Value} {T:TypeId} (c:w.heap[b]? = U (.cells #[v0,v1,v2] T (0,0))) (ad:11<b) :
 aq ak 255 #[.pointer (U ⟨b,0,J⟩),.int .i64 e,.int .i64 p,.int .i64 (p*108853/32768)] w fun bm w'=>bm=.returned (.tuple #[])∧Cd w' b e p∧ah b w w'∧w'.heap.size=w.heap.size:=by
 have t:=bn.at hp.1 hp.2;have c0:w.cell? ⟨b,0,J⟩=U v0:=by simp[World.cell?,c]
 have c1:w.cell? ⟨b,1,J⟩=U v1:=by simp[World.cell?,c]
 have c2:w.cell? ⟨b,2,J⟩=U v2:=by simp[World.cell?,c]
 refine (agm e p _ b _ _ w he hp ⟨by omega,by omega⟩ t.1 t.2 c0 c1 c2 (by simp[World.frozen?,c]) (by simp[World.frozen?,c]) (by simp[World.frozen?,c]) (by omega)).mono ?_;rintro bm w' ⟨rfl,rfl⟩;have Fm:(⟨b,0,J⟩:ho)≠⟨b,1,J⟩:=by simp
 have Wn:(⟨b,0,J⟩:ho)≠⟨b,2,J⟩:=by simp
 have Wo:(⟨b,1,J⟩:ho)≠⟨b,2,J⟩:=by simp
 refine⟨rfl,⟨?_,?_,?_⟩,EN (EN (EN (aK b w) (p:=⟨b,0,J⟩) (aC b) _) (p:=⟨b,1,J⟩) (aC b) _) (p:=⟨b,2,J⟩) (aC b) _,by simp⟩
 ·rw[b7 _ _ _ _ Wn.symm,b7 _ _ _ _ Fm.symm];exact uw _ _ _ c0
 ·rw[b7 _ _ _ _ Wo.symm];exact uw _ _ _ (u:=v1) (by rw[b7 _ _ _ _ Fm];exact c1)
 ·exact uw _ _ _ (u:=v2) (by rw[b7 _ _ _ _ Wo,b7 _ _ _ _ Wn];exact c2)
theorem rk (x b:Nat) (e p:Int) (w:af) (hx:x<18446744073709551616) (hp:-348≤p∧p≤347) (a1:0≤-(e+p*108853/32768+3)) (dY:-(e+p*108853/32768+3)<64) (an:Cd w b e p) :
 aq ak 257 #[.int .u64 x,.pointer (U ⟨b,0,J⟩)] w fun bm w'=>bm=.returned (.int .u64 (o.fJ x e p))∧∃n,w'=w.drewN n:=by
 have aA:=o.Cc hp.1 hp.2;refine agk x _ _ (o.cz e p) b w hx aA.2.1 aA.2.2 (by unfold o.cz;omega) an.1 an.2.1 ?_;rw[an.2.2];unfold o.cz;rw[Int.toNat_of_nonneg a1]
theorem JZ {a:Nat} (aS:a<9223372036854775808):bits .and .i64 (a:Int) 1=((a%2:Nat):Int):=by
 have kA:(2:Nat)^IntKind.i64.bits=18446744073709551616:=rfl;have e:(1:Int)=((1:Nat):Int):=rfl;rw[e];simp only[bits,oK,BK,ns,kA];rw[eF (by omega),eF (show 1<18446744073709551616 by decide),En,gF _ (by omega)]
theorem fX (w:af) (a7:Obj):(w.alloc a7).heap[w.heap.size]? = U a7:=by
 show (w.heap.push a7)[w.heap.size]? = U a7;simp
theorem qj {k k':IntKind} {a b c d:Int} (aa:a=c) (ae:b=d):Ending.returned (.tuple #[.int k a,.int k' b])=.returned (.tuple #[.int k c,.int k' d]):=by rw[aa,ae]
namespace o
theorem P5 {e:Int} (aa:-1085≤e) (ae:e≤960):-348≤-((e+11)*78913/262144)∧-((e+11)*78913/262144)≤347∧1≤-(e + -((e+11)*78913/262144)*108853/32768+3)∧-(e + -((e+11)*78913/262144)*108853/32768+3)≤20:=by omega
theorem Wu {e:Int} (aa:-1085≤e) (ae:e≤960):-348≤-(((e+11)*631305-261663)/2097152)∧-(((e+11)*631305-261663)/2097152)≤347∧1≤-(e + -(((e+11)*631305-261663)/2097152)*108853/32768+3)∧-(e + -(((e+11)*631305-261663)/2097152)*108853/32768+3)≤20:=by omega
end o
theorem agD (m:Nat) (e:Int) (w:af) (aa:9223372036854775808<m) (ae:m≤18446744073709549568) (mR:-1085≤e) (qk:e≤960) (bn:qh w) (b5:11<w.heap.size) :
 aq ak 235 #[.int .u64 m,.int .i64 e] w fun bm w'=>bm=.returned (.tuple #[.int .u64 (o.iF m e).1,.int .i64 (o.iF m e).2])∧ah w.heap.size w w':=by
 have hm:((m:Int)==9223372036854775808)=ab:=by rw[cH];omega
 go_enter Jm,Je;go_wp2_with fail;refine (PY _ _ (by omega) (by omega)).mono ?_;rintro bm w' ⟨rfl,rfl⟩;have hand:bits .and .i64 ((m:Int)/2048) 1=((m/2048%2:Nat):Int):=JZ (show m/2048<9223372036854775808 by omega);go_wp2_with fail;obtain⟨cd,cF,fw,lP⟩:=o.P5 mR qk;generalize hp:-((e+11)*78913/262144)=p at cd cF fw lP ⊢;obtain⟨fg,nZ⟩:∃fg:Nat,(m:Int)-1024=fg:=⟨m-1024,by omega⟩;obtain⟨fq,ql⟩:∃fq:Nat,(m:Int)+1024=fq:=⟨m+1024,by omega⟩;obtain⟨eG,sk⟩:∃eG:Nat,(m:Int)/2048%2=eG:=⟨m/2048%2,by omega⟩;rw[nZ,ql,sk];have di:=I (show m-1024=fg∧m+1024=fq∧m/2048%2=eG∧-((e+11)*78913/262144)=p from⟨by omega,by omega,by omega,hp⟩);have P6:eG<2:=by omega
 have vX:4611686018427387904≤fg:=by omega
 have nC:fg<18446744073709551616:=by omega
 have zL:4611686018427387904≤fq:=by omega
 have n0:fq<18446744073709551616:=by omega
 clear nZ ql sk hp hand;have bZ:=I (show o.iF m e=o.lN m fg fq eG e p by obtain⟨aH,aT,b8,eb⟩:=di.out;unfold o.iF;rw[aU (by omega),ba mR];rw[aH,aT,b8,eb]);clear di;refine (Fg _ _ (by omega) (by omega)).mono ?_;rintro bm w' ⟨rfl,rfl⟩;go_wp2_with fail;refine (Fl e p w.heap.size _ (v0:=.int .u64 0) (v1:=.int .u64 0) (v2:=.int .i64 0) (T:=244) ⟨by omega,by omega⟩ ⟨cd,cF⟩ (bn.below (B:=w.heap.size) ((aK _ _).alloc (aC _) _) b5) (fX _ _) b5).mono ?_;rintro bm cq ⟨rfl,kC,dD,eP⟩;have az:ah w.heap.size w cq:=((aK _ _).alloc (aC _) _).trans dD;clear dD eP;have dH:1≤o.cz e p:=by unfold o.cz;omega
 have dY:o.cz e p≤58:=by unfold o.cz;omega
 go_wp2_with fail;refine (rk fg w.heap.size e p _ nC ⟨cd,cF⟩ (by omega) (by omega) kC).mono ?_;rintro bm aP ⟨rfl,lu,rfl⟩;have th:=o.pB cd cF dH nC;have ti:=o.vS cd cF dY vX nC;generalize sl:o.fJ fg e p=un at th ti ⊢;have mS:=I sl;clear sl;go_wp2_with fail;refine (xL un (un+eG) eG _ (by omega) (by omega) (by omega)).mono ?_;rintro bm w' ⟨rfl,rfl⟩;go_wp2_with fail;refine (JX _ _ (by omega)).mono ?_;rintro bm w' ⟨rfl,rfl⟩;generalize mT:(un+eG+3)/4=ec;have P7:ec≤9223372036854775808:=by omega
 have mU:=I mT;clear mT;go_wp2_with fail;refine (rk fq w.heap.size e p _ n0 ⟨cd,cF⟩ (by omega) (by omega) (kC.drewN _)).mono ?_;rintro bm aP ⟨rfl,n3,rfl⟩;have fK:=o.pB cd cF dH n0;have ml:=o.vS cd cF dY zL n0;generalize tj:o.fJ fq e p=oZ at fK ml ⊢;have tk:=I tj;clear tj;go_wp2_with fail;refine (xL oZ (oZ-eG) _ _ (by omega) (by omega) (by omega)).mono ?_;rintro bm w' ⟨rfl,rfl⟩;go_wp2_with fail;refine (JY _ _ (by omega)).mono ?_;rintro bm w' ⟨rfl,rfl⟩;generalize tl:(oZ-eG)/4=iG;have P8:iG≤9223372036854775808:=by omega
 have tm:=I tl;clear tl;have eK:=I (show o.lN m fg fq eG e p=if ec≤iG/10*10 then (iG/10,-(p-1)) else if ec<iG then ((o.fJ m e p+1+o.fJ m e p/4%2)/4,-p) else (ec,-p) by unfold o.lN;rw[mS.out,tk.out,mU.out,tm.out]);clear mS tk mU tm;by_cases c1:ec≤iG/10*10
 ·have fQ:=I (show o.iF m e=(iG/10,-(p-1)) by rw[bZ.out,eK.out,ba c1]);clear bZ eK;go_wp2;go_ret2;exact⟨by rw[fQ.out];exact qj (by simp) (by simp),below_drewN az _⟩
 ·by_cases c2:ec<iG
  ·have fQ:=I (show o.iF m e=((o.fJ m e p+1+o.fJ m e p/4%2)/4,-p) by rw[bZ.out,eK.out,aU c1,ba c2]);clear bZ eK;go_wp2_with fail;refine (rk m w.heap.size e p _ (by omega) ⟨cd,cF⟩ (by omega) (by omega) (kC.drewN _)).mono ?_;rintro bm aP ⟨rfl,n4,rfl⟩;have gu:=o.pB cd cF dH (show m<18446744073709551616 by omega);generalize o.fJ m e p=J0 at gu fQ ⊢;go_wp2_with fail;refine (Cb _ _ (by omega)).mono ?_;rintro bm w' ⟨rfl,rfl⟩;go_wp2;go_ret2;exact⟨by rw[fQ.out];exact qj (by simp) rfl,below_drewN az _⟩
  ·have fQ:=I (show o.iF m e=(ec,-p) by rw[bZ.out,eK.out,aU c1,aU c2]);clear bZ eK;go_wp2;go_ret2;exact⟨by rw[fQ.out];exact qj (by simp) rfl,below_drewN az _⟩
theorem agE (m:Nat) (e:Int) (w:af) (aa:9223372036854775808≤m) (ae:m≤9223372036854775808) (mR:-1085<e) (qk:e≤960) (bn:qh w) (b5:11<w.heap.size) :
 aq ak 235 #[.int .u64 m,.int .i64 e] w fun bm w'=>bm=.returned (.tuple #[.int .u64 (o.iF m e).1,.int .i64 (o.iF m e).2])∧ah w.heap.size w w':=by
 have hm:((m:Int)==9223372036854775808)=ai:=by rw[gy];omega
 go_enter Jm,Je;go_wp2_with fail;refine (agl _ _ (by omega) (by omega)).mono ?_;rintro bm w' ⟨rfl,rfl⟩;have hand:bits .and .i64 ((m:Int)/2048) 1=((m/2048%2:Nat):Int):=JZ (show m/2048<9223372036854775808 by omega);go_wp2_with fail;obtain⟨cd,cF,fw,lP⟩:=o.Wu (show -1085≤e by omega) qk;generalize hp:-(((e+11)*631305-261663)/2097152)=p at cd cF fw lP ⊢;obtain⟨fg,nZ⟩:∃fg:Nat,(m:Int)-512=fg:=⟨m-512,by omega⟩;obtain⟨fq,ql⟩:∃fq:Nat,(m:Int)+1024=fq:=⟨m+1024,by omega⟩;obtain⟨eG,sk⟩:∃eG:Nat,(m:Int)/2048%2=eG:=⟨m/2048%2,by omega⟩;rw[nZ,ql,sk];have di:=I (show m-512=fg∧m+1024=fq∧m/2048%2=eG∧-(((e+11)*631305-261663)/2097152)=p from⟨by omega,by omega,by omega,hp⟩);have P6:eG<2:=by omega
 have vX:4611686018427387904≤fg:=by omega
 have nC:fg<18446744073709551616:=by omega
 have zL:4611686018427387904≤fq:=by omega
 have n0:fq<18446744073709551616:=by omega
 clear nZ ql sk hp hand;have bZ:=I (show o.iF m e=o.lN m fg fq eG e p by obtain⟨aH,aT,b8,eb⟩:=di.out;unfold o.iF;rw[ba (by omega)];rw[aH,aT,b8,eb]);clear di;refine (Fg _ _ (by omega) (by omega)).mono ?_;rintro bm w' ⟨rfl,rfl⟩;go_wp2_with fail;refine (Fl e p w.heap.size _ (v0:=.int .u64 0) (v1:=.int .u64 0) (v2:=.int .i64 0) (T:=244) ⟨by omega,by omega⟩ ⟨cd,cF⟩ (bn.below (B:=w.heap.size) ((aK _ _).alloc (aC _) _) b5) (fX _ _) b5).mono ?_;rintro bm cq ⟨rfl,kC,dD,eP⟩;have az:ah w.heap.size w cq:=((aK _ _).alloc (aC _) _).trans dD;clear dD eP;have dH:1≤o.cz e p:=by unfold o.cz;omega
 have dY:o.cz e p≤58:=by unfold o.cz;omega
 go_wp2_with fail;refine (rk fg w.heap.size e p _ nC ⟨cd,cF⟩ (by omega) (by omega) kC).mono ?_;rintro bm aP ⟨rfl,lu,rfl⟩;have th:=o.pB cd cF dH nC;have ti:=o.vS cd cF dY vX nC;generalize sl:o.fJ fg e p=un at th ti ⊢;have mS:=I sl;clear sl;go_wp2_with fail;refine (xL un (un+eG) eG _ (by omega) (by omega) (by omega)).mono ?_;rintro bm w' ⟨rfl,rfl⟩;go_wp2_with fail;refine (JX _ _ (by omega)).mono ?_;rintro bm w' ⟨rfl,rfl⟩;generalize mT:(un+eG+3)/4=ec;have P7:ec≤9223372036854775808:=by omega
 have mU:=I mT;clear mT;go_wp2_with fail;refine (rk fq w.heap.size e p _ n0 ⟨cd,cF⟩ (by omega) (by omega) (kC.drewN _)).mono ?_;rintro bm aP ⟨rfl,n3,rfl⟩;have fK:=o.pB cd cF dH n0;have ml:=o.vS cd cF dY zL n0;generalize tj:o.fJ fq e p=oZ at fK ml ⊢;have tk:=I tj;clear tj;go_wp2_with fail;refine (xL oZ (oZ-eG) _ _ (by omega) (by omega) (by omega)).mono ?_;rintro bm w' ⟨rfl,rfl⟩;go_wp2_with fail;refine (JY _ _ (by omega)).mono ?_;rintro bm w' ⟨rfl,rfl⟩;generalize tl:(oZ-eG)/4=iG;have P8:iG≤9223372036854775808:=by omega
 have tm:=I tl;clear tl;have eK:=I (show o.lN m fg fq eG e p=if ec≤iG/10*10 then (iG/10,-(p-1)) else if ec<iG then ((o.fJ m e p+1+o.fJ m e p/4%2)/4,-p) else (ec,-p) by unfold o.lN;rw[mS.out,tk.out,mU.out,tm.out]);clear mS tk mU tm;by_cases c1:ec≤iG/10*10
 ·have fQ:=I (show o.iF m e=(iG/10,-(p-1)) by rw[bZ.out,eK.out,ba c1]);clear bZ eK;go_wp2;go_ret2;exact⟨by rw[fQ.out];exact qj (by simp) (by simp),below_drewN az _⟩
 ·by_cases c2:ec<iG
  ·have fQ:=I (show o.iF m e=((o.fJ m e p+1+o.fJ m e p/4%2)/4,-p) by rw[bZ.out,eK.out,aU c1,ba c2]);clear bZ eK;go_wp2_with fail;refine (rk m w.heap.size e p _ (by omega) ⟨cd,cF⟩ (by omega) (by omega) (kC.drewN _)).mono ?_;rintro bm aP ⟨rfl,n4,rfl⟩;have gu:=o.pB cd cF dH (show m<18446744073709551616 by omega);generalize o.fJ m e p=J0 at gu fQ ⊢;go_wp2_with fail;refine (Cb _ _ (by omega)).mono ?_;rintro bm w' ⟨rfl,rfl⟩;go_wp2;go_ret2;exact⟨by rw[fQ.out];exact qj (by simp) rfl,below_drewN az _⟩
  ·have fQ:=I (show o.iF m e=(ec,-p) by rw[bZ.out,eK.out,aU c1,aU c2]);clear bZ eK;go_wp2;go_ret2;exact⟨by rw[fQ.out];exact qj (by simp) rfl,below_drewN az _⟩
theorem agF (m:Nat) (e:Int) (w:af) (aa:9223372036854775808≤m) (ae:m≤9223372036854775808) (mR:-1085≤e) (qk:e≤-1085) (bn:qh w) (b5:11<w.heap.size) :
 aq ak 235 #[.int .u64 m,.int .i64 e] w fun bm w'=>bm=.returned (.tuple #[.int .u64 (o.iF m e).1,.int .i64 (o.iF m e).2])∧ah w.heap.size w w':=by
 have hm:((m:Int)==9223372036854775808)=ai:=by rw[gy];omega
 go_enter Jm,Je;go_wp2_with fail;refine (PY _ _ (by omega) (by omega)).mono ?_;rintro bm w' ⟨rfl,rfl⟩;have hand:bits .and .i64 ((m:Int)/2048) 1=((m/2048%2:Nat):Int):=JZ (show m/2048<9223372036854775808 by omega);go_wp2_with fail;obtain⟨cd,cF,fw,lP⟩:=o.P5 mR (show e≤960 by omega);generalize hp:-((e+11)*78913/262144)=p at cd cF fw lP ⊢;obtain⟨fg,nZ⟩:∃fg:Nat,(m:Int)-1024=fg:=⟨m-1024,by omega⟩;obtain⟨fq,ql⟩:∃fq:Nat,(m:Int)+1024=fq:=⟨m+1024,by omega⟩;obtain⟨eG,sk⟩:∃eG:Nat,(m:Int)/2048%2=eG:=⟨m/2048%2,by omega⟩;rw[nZ,ql,sk];have di:=I (show m-1024=fg∧m+1024=fq∧m/2048%2=eG∧-((e+11)*78913/262144)=p from⟨by omega,by omega,by omega,hp⟩);have P6:eG<2:=by omega
 have vX:4611686018427387904≤fg:=by omega
 have nC:fg<18446744073709551616:=by omega
 have zL:4611686018427387904≤fq:=by omega
 have n0:fq<18446744073709551616:=by omega
 clear nZ ql sk hp hand;have bZ:=I (show o.iF m e=o.lN m fg fq eG e p by obtain⟨aH,aT,b8,eb⟩:=di.out;unfold o.iF;rw[aU (by omega),ba mR];rw[aH,aT,b8,eb]);clear di;refine (Fg _ _ (by omega) (by omega)).mono ?_;rintro bm w' ⟨rfl,rfl⟩;go_wp2_with fail;refine (Fl e p w.heap.size _ (v0:=.int .u64 0) (v1:=.int .u64 0) (v2:=.int .i64 0) (T:=244) ⟨by omega,by omega⟩ ⟨cd,cF⟩ (bn.below (B:=w.heap.size) ((aK _ _).alloc (aC _) _) b5) (fX _ _) b5).mono ?_;rintro bm cq ⟨rfl,kC,dD,eP⟩;have az:ah w.heap.size w cq:=((aK _ _).alloc (aC _) _).trans dD;clear dD eP;have dH:1≤o.cz e p:=by unfold o.cz;omega
 have dY:o.cz e p≤58:=by unfold o.cz;omega
 go_wp2_with fail;refine (rk fg w.heap.size e p _ nC ⟨cd,cF⟩ (by omega) (by omega) kC).mono ?_;rintro bm aP ⟨rfl,lu,rfl⟩;have th:=o.pB cd cF dH nC;have ti:=o.vS cd cF dY vX nC;generalize sl:o.fJ fg e p=un at th ti ⊢;have mS:=I sl;clear sl;go_wp2_with fail;refine (xL un (un+eG) eG _ (by omega) (by omega) (by omega)).mono ?_;rintro bm w' ⟨rfl,rfl⟩;go_wp2_with fail;refine (JX _ _ (by omega)).mono ?_;rintro bm w' ⟨rfl,rfl⟩;generalize mT:(un+eG+3)/4=ec;have P7:ec≤9223372036854775808:=by omega
 have mU:=I mT;clear mT;go_wp2_with fail;refine (rk fq w.heap.size e p _ n0 ⟨cd,cF⟩ (by omega) (by omega) (kC.drewN _)).mono ?_;rintro bm aP ⟨rfl,n3,rfl⟩;have fK:=o.pB cd cF dH n0;have ml:=o.vS cd cF dY zL n0;generalize tj:o.fJ fq e p=oZ at fK ml ⊢;have tk:=I tj;clear tj;go_wp2_with fail;refine (xL oZ (oZ-eG) _ _ (by omega) (by omega) (by omega)).mono ?_;rintro bm w' ⟨rfl,rfl⟩;go_wp2_with fail;refine (JY _ _ (by omega)).mono ?_;rintro bm w' ⟨rfl,rfl⟩;generalize tl:(oZ-eG)/4=iG;have P8:iG≤9223372036854775808:=by omega
 have tm:=I tl;clear tl;have eK:=I (show o.lN m fg fq eG e p=if ec≤iG/10*10 then (iG/10,-(p-1)) else if ec<iG then ((o.fJ m e p+1+o.fJ m e p/4%2)/4,-p) else (ec,-p) by unfold o.lN;rw[mS.out,tk.out,mU.out,tm.out]);clear mS tk mU tm;by_cases c1:ec≤iG/10*10
 ·have fQ:=I (show o.iF m e=(iG/10,-(p-1)) by rw[bZ.out,eK.out,ba c1]);clear bZ eK;go_wp2;go_ret2;exact⟨by rw[fQ.out];exact qj (by simp) (by simp),below_drewN az _⟩
 ·by_cases c2:ec<iG
  ·have fQ:=I (show o.iF m e=((o.fJ m e p+1+o.fJ m e p/4%2)/4,-p) by rw[bZ.out,eK.out,aU c1,ba c2]);clear bZ eK;go_wp2_with fail;refine (rk m w.heap.size e p _ (by omega) ⟨cd,cF⟩ (by omega) (by omega) (kC.drewN _)).mono ?_;rintro bm aP ⟨rfl,n4,rfl⟩;have gu:=o.pB cd cF dH (show m<18446744073709551616 by omega);generalize o.fJ m e p=J0 at gu fQ ⊢;go_wp2_with fail;refine (Cb _ _ (by omega)).mono ?_;rintro bm w' ⟨rfl,rfl⟩;go_wp2;go_ret2;exact⟨by rw[fQ.out];exact qj (by simp) rfl,below_drewN az _⟩
  ·have fQ:=I (show o.iF m e=(ec,-p) by rw[bZ.out,eK.out,aU c1,aU c2]);clear bZ eK;go_wp2;go_ret2;exact⟨by rw[fQ.out];exact qj (by simp) rfl,below_drewN az _⟩
theorem o.Wv (m k:Nat) (e:Int) (aa:9223372036854775808≤m) (ae:m<18446744073709551616) (fx:12≤k) (fh:k≤63) (he:e = -1074-k) (xH:m%2^k=0) :
 ∃fg fq eG:Nat,IntKind.u64.wrap ((m:Int)-IntKind.u64.wrap (2^((11+(-1085-e)).toNat-1)))=fg∧IntKind.u64.wrap ((m:Int)+IntKind.u64.wrap (2^((11+(-1085-e)).toNat-1)))=fq∧bits BinOp.and IntKind.i64 (wrap64 ((m:Int)/2^(11+(-1085-e)).toNat)) 1=eG∧eG<2∧4611686018427387904≤fg∧fg<18446744073709551616∧4611686018427387904≤fq∧fq<18446744073709551616∧o.iF m e=o.lN m fg fq eG e 324:=by
 have aX:(11+(-1085-e)).toNat=k:=by omega
 have eL:(-1074-e).toNat=k:=by omega
 have o0:(-1075-e).toNat=k-1:=by omega
 have hp:2^k=2*2^(k-1):=by
  have:k=k-1+1:=by omega
  rw[this,ei];simp;omega
 have h4:2^(k-1)≤2^62:=dB (by decide) (by omega);have qm:2^k*2^(64-k)=18446744073709551616:=by
  rw[←cm,show k+(64-k)=64 by omega]
 have aE:m/2^k<2^(64-k):=by
  rw[kQ (dK (by decide)),dx,qm];exact ae
 have lQ:2^k*(m/2^k+1)≤2^k*2^(64-k):=gp _ aE;have hm:2^k*(m/2^k)=m:=Nat.mul_div_cancel' (r8 xH);have J1:m/2^k<9223372036854775808:=by
  have:2^12≤2^k:=dB (by decide) fx;rw[kQ (dK (by decide))];omega
 rw[fP,hm,qm] at lQ;have cP:o.iF m e=o.lN m (m-2^(k-1)) (m+2^(k-1)) (m/2^k%2) e 324:=by
  unfold o.iF;rw[aU (by omega),aU (by omega),eL,o0]
 have an:((2^k:Nat):Int)=(2:Int)^k:=by simp
 have iS:((2^(k-1):Nat):Int)=(2:Int)^(k-1):=by simp
 have agG:(m:Int)/2^k=((m/2^k:Nat):Int):=by rw[←an];simp
 rw[aX,←iS,agG];generalize 2^(k-1)=P at *;generalize m/2^k=q at *;rw[pA (show P<18446744073709551616 by omega)];refine⟨m-P,m+P,q%2,?_,?_,?_,by omega,by omega,by omega,by omega,by omega,cP⟩
 ·rw[show (m:Int)-(P:Int)=((m-P:Nat):Int) by omega,pA (by omega)]
 ·rw[show (m:Int)+(P:Int)=((m+P:Nat):Int) by omega,pA (by omega)]
 ·rw[show wrap64 (q:Int)=(q:Int) from IntWalk.wrap64_in _ (by omega)];exact JZ J1
theorem agH (m k:Nat) (e:Int) (w:af) (aa:9223372036854775808≤m) (ae:m<18446744073709551616) (fx:12≤k) (fh:k≤63) (he:Hid (e = -1074-k)) (xH:m%2^k=0) (bn:qh w) (b5:11<w.heap.size) :
 aq ak 235 #[.int .u64 m,.int .i64 e] w fun bm w'=>bm=.returned (.tuple #[.int .u64 (o.iF m e).1,.int .i64 (o.iF m e).2])∧ah w.heap.size w w':=by
 have dM:=I (o.Wv m k e aa ae fx fh he.out xH);have ao:e < -1085:=by have:=he.out;omega
 have xP:-1138<e:=by have:=he.out;omega
 clear xH;obtain⟨jx,hm⟩:∃jx:Bool,((m:Int)==9223372036854775808)=jx:=⟨_,rfl⟩;cases jx;all_goals
  go_enter Jm,Je;go_wp2_with fail;rw[show (e+(11+(-1085-e)):Int) = -1074 by omega];refine (PY _ _ (by omega) (by omega)).mono ?_;rintro bm w' ⟨rfl,rfl⟩;go_wp2_with fail;obtain⟨fg,fq,eG,nZ,ql,sk,P6,vX,nC,zL,n0,cP⟩:=dM.out;rw[nZ,ql,sk];have bZ:=I cP;clear nZ ql sk cP;generalize hp:(324:Int)=p at bZ ⊢;have cd:-348≤p:=by omega
  have cF:p≤347:=by omega
  have fw:1≤-(e+p*108853/32768+3):=by omega
  have lP:-(e+p*108853/32768+3)≤58:=by omega
  clear hp;refine (Fg _ _ (by omega) (by omega)).mono ?_;rintro bm w' ⟨rfl,rfl⟩;go_wp2_with fail;refine (Fl e p w.heap.size _ (v0:=.int .u64 0) (v1:=.int .u64 0) (v2:=.int .i64 0) (T:=244) ⟨by omega,by omega⟩ ⟨cd,cF⟩ (bn.below (B:=w.heap.size) ((aK _ _).alloc (aC _) _) b5) (fX _ _) b5).mono ?_;rintro bm cq ⟨rfl,kC,dD,eP⟩;have az:ah w.heap.size w cq:=((aK _ _).alloc (aC _) _).trans dD;clear dD eP;have dH:1≤o.cz e p:=by unfold o.cz;omega
  have dY:o.cz e p≤58:=by unfold o.cz;omega
  go_wp2_with fail;refine (rk fg w.heap.size e p _ nC ⟨cd,cF⟩ (by omega) (by omega) kC).mono ?_;rintro bm aP ⟨rfl,lu,rfl⟩;have th:=o.pB cd cF dH nC;have ti:=o.vS cd cF dY vX nC;generalize sl:o.fJ fg e p=un at th ti ⊢;have mS:=I sl;clear sl;go_wp2_with fail;refine (xL un (un+eG) eG _ (by omega) (by omega) (by omega)).mono ?_;rintro bm w' ⟨rfl,rfl⟩;go_wp2_with fail;refine (JX _ _ (by omega)).mono ?_;rintro bm w' ⟨rfl,rfl⟩;generalize mT:(un+eG+3)/4=ec;have P7:ec≤9223372036854775808:=by omega
  have mU:=I mT;clear mT;go_wp2_with fail;refine (rk fq w.heap.size e p _ n0 ⟨cd,cF⟩ (by omega) (by omega) (kC.drewN _)).mono ?_;rintro bm aP ⟨rfl,n3,rfl⟩;have fK:=o.pB cd cF dH n0;have ml:=o.vS cd cF dY zL n0;generalize tj:o.fJ fq e p=oZ at fK ml ⊢;have tk:=I tj;clear tj;go_wp2_with fail;refine (xL oZ (oZ-eG) _ _ (by omega) (by omega) (by omega)).mono ?_;rintro bm w' ⟨rfl,rfl⟩;go_wp2_with fail;refine (JY _ _ (by omega)).mono ?_;rintro bm w' ⟨rfl,rfl⟩;generalize tl:(oZ-eG)/4=iG;have P8:iG≤9223372036854775808:=by omega
  have tm:=I tl;clear tl;have eK:=I (show o.lN m fg fq eG e p=if ec≤iG/10*10 then (iG/10,-(p-1)) else if ec<iG then ((o.fJ m e p+1+o.fJ m e p/4%2)/4,-p) else (ec,-p) by unfold o.lN;rw[mS.out,tk.out,mU.out,tm.out]);clear mS tk mU tm;by_cases c1:ec≤iG/10*10
  ·have fQ:=I (show o.iF m e=(iG/10,-(p-1)) by rw[bZ.out,eK.out,ba c1]);clear bZ eK;go_wp2;go_ret2;exact⟨by rw[fQ.out];exact qj (by simp) (by simp),below_drewN az _⟩
  ·by_cases c2:ec<iG
   ·have fQ:=I (show o.iF m e=((o.fJ m e p+1+o.fJ m e p/4%2)/4,-p) by rw[bZ.out,eK.out,aU c1,ba c2]);clear bZ eK;go_wp2_with fail;refine (rk m w.heap.size e p _ (by omega) ⟨cd,cF⟩ (by omega) (by omega) (kC.drewN _)).mono ?_;rintro bm aP ⟨rfl,n4,rfl⟩;have gu:=o.pB cd cF dH (show m<18446744073709551616 by omega);generalize o.fJ m e p=J0 at gu fQ ⊢;go_wp2_with fail;refine (Cb _ _ (by omega)).mono ?_;rintro bm w' ⟨rfl,rfl⟩;go_wp2;go_ret2;exact⟨by rw[fQ.out];exact qj (by simp) rfl,below_drewN az _⟩
   ·have fQ:=I (show o.iF m e=(ec,-p) by rw[bZ.out,eK.out,aU c1,aU c2]);clear bZ eK;go_wp2;go_ret2;exact⟨by rw[fQ.out];exact qj (by simp) rfl,below_drewN az _⟩
end Go.Proofs.YtkhphoonnkoipaaGreatDoor
namespace Go.Proofs.YtkhphoonnkoipaaGreatDoor
open Go.RowKit Go.Lib Go.Sort
namespace o
def rl (l:List UInt8):List UInt8:=(l.reverse.dropWhile (· == 48)).reverse
theorem agI (l:List UInt8):rl (l++[48])=rl l:=by simp[rl]
theorem agJ {l:List UInt8} {c:UInt8} (h:c≠48):rl (l++[c])=l++[c]:=by simp[rl,h]
theorem agK {l:List UInt8} {k:Nat} (h:k<l.length):l.take (k+1)=l.take k++[l[k]]:=kc h
def sig (d:Nat):List UInt8:=rl (decDigits d)
end o
abbrev nD (b:UInt8):Value:=.int .u8 (b.toNat:Int)
theorem agL (w:af) (b off:Nat) (d:Array UInt8):ah b w (putRow nD w b off d)∧(putRow nD w b off d).heap.size=w.heap.size:=by
 have a1:(putRow nD w b off d).heap.size=w.heap.size:=by simp[putRow,mapBlock]
 refine⟨⟨rfl,rfl,rfl,by rw[a1];exact aC _,fun k aA=>?_⟩,a1⟩;simp only[putRow,mapBlock,lp];rw[aU (by omega)]
def agM (b d:Nat) (p:Int) (w:af) (e:Ending) (w':af):Prop:=
 e=.returned (.tuple #[.int .i64 (nDigits d+p),.int .i64 (o.sig d).length])∧(∀j (h:j<(decDigits d).length),w'.cell? ⟨b,j,J⟩=U (nD (decDigits d)[j]))∧ah b w w'∧w'.heap.size=w.heap.size
theorem Ww (b d:Nat) (p:Int) (w:af) (rj:Holds nD w b 0 (Array.replicate 32 0)) (aL:d<18446744073709551616) (aB:nDigits d≤20) (hp:-1000≤p∧p≤1000) :
 aq ak 228 #[.slice (U ⟨b,0,J⟩) 32 32,.int .u64 d,.int .i64 p,.int .i64 (nDigits d)] w (agM b d p w):=by
 have dM:=I (lt_pow_nDigits d);have cD:=I (EB d);have Wx:Holds nD w b 0 (Array.replicate (nDigits d) 0):=by
  intro j bP;have zM:j<nDigits d:=by simpa using bP
  have h:=rj j (by simp;omega);rw[O6 _ j (by simp;omega)] at h;rw[O6 _ j bP];simpa using h
 clear rj;have iH:=I Wx;have bZ:=I (fun (w:af) (h:Holds nD w b 0 (Array.replicate (nDigits d) 0))=>internal_strconv_formatBase10 b 0 32 d (Array.replicate (nDigits d) 0) w h (by simpa using dM.out) aL (by simp;omega));clear Wx;go_enter func228,ntmps228;go_wp2_with fail;have an:=bZ.out w iH.out;simp only[Array.size_replicate] at an;refine an.mono ?_;rintro e cq ⟨rfl,dE,v1,uG,rfl,hinv⟩;have gz:∀j (h:j<(decDigits d).length),(putRow nD w b 0 uG).cell? ⟨b,j,J⟩=U (nD (decDigits d)[j]):=by
  intro j bP;have aX:=hinv.size;have zM:j<nDigits d:=by rw[←cD.out];exact bP
  have h:=cell?_putRow nD w b 0 _ uG iH.out (by rw[aX];simp) j (by omega);rw[hc] at h;rw[h,row_is_numeral hinv j bP]
 have az:=agL w b 0 uG;obtain⟨cq,jy⟩:∃cq,putRow nD w b 0 uG=cq:=⟨_,rfl⟩;have Ft:putRow (fun (b:UInt8)=>Value.int .u8 (b.toNat:Int)) w b 0 uG=cq:=jy;rw[Ft];rw[jy] at gz az;clear jy Ft;have bJ:=I gz;clear gz hinv an bZ iH dM;go_wp2;go_loop [3] (fun n=>∃k:Nat,k≤nDigits d∧n=.int .i64 k∧o.rl ((decDigits d).take k)=o.sig d) (fun n=>(RowKit.intOf n).toNat);case atStart=>exact⟨nDigits d,aC _,rfl,by rw[fp (by rw[cD.out];exact aC _)];rfl⟩
 case round=>
  obtain⟨k,aA,rfl,aX⟩:=hrel;have fQ:=I aX;clear aX;cases k with
  | zero=>
    go_wp2;go_ret2;refine⟨qj rfl ?_,fun j h=>by rw[World.cell?_drewN];exact bJ.out j h,below_drewN az.1 _,az.2⟩;rw[←fQ.out];simp[o.rl]
  | succ k=>
    have fh:k<(decDigits d).length:=by rw[cD.out];omega
    have an:cq.cell? ⟨b,k,J⟩=U (.int .u8 ((decDigits d)[k].toNat:Int)):=bJ.out k fh;have bc:=I (o.agK fh);generalize (decDigits d)[k]=c at an bc;have Ce:c.toNat<256:=c.toNat_lt;by_cases ar:c=48
    ·have agN:((c.toNat:Int)==48)=ai:=by rw[ar];rfl
     have bU:=I (show o.rl ((decDigits d).take k)=o.sig d by rw[←fQ.out,bc.out,ar,o.agI]);clear ar bc fQ;go_wp2;go_round;case rel=>exact⟨k,by omega,by go_num,bU.out⟩
     case measure=>simp[RowKit.intOf]
    ·have agN:((c.toNat:Int)==48)=ab:=by
      rw[cH];intro h;apply ar;apply UInt8.toNat_inj.1;rw[show (48:UInt8).toNat=48 from rfl];omega
     have bU:=I (show (o.sig d).length=k+1 by rw[←fQ.out,bc.out,o.agJ ar];simp;omega);clear ar bc fQ;go_wp2;go_ret2;exact⟨qj rfl (by rw[bU.out];simp),fun j h=>by rw[World.cell?_drewN];exact bJ.out j h,below_drewN az.1 _,az.2⟩
end Go.Proofs.YtkhphoonnkoipaaGreatDoor
namespace Go.Proofs.YtkhphoonnkoipaaGreatDoor
def o.f10:List Nat:=[4607182418800017408,4621819117588971520,4636737291354636288,4652007308841189376,4666723172467343360,4681608360884174848,4696837146684686336,4711630319722168320,4726483295884279808,4741671816366391296,4756540486875873280,4771362005757984768,4786511204640096256,4801453603149578240,4816244402031689728,4831355200913801216,4846369599423283200,4861130398305394688,4876203697187506176,4891288408196988160,4906019910204099648,4921056587992461136,4936209963552724370]
def o.pC:List Nat:=[1,3,6,9,13,16,19,23,26]
structure Env (w:af):Prop where
 size:17≤w.heap.size
 vT:qh w
 vU:Lib.TabIs ak w "internal/strconv.uint64pow10" .u64 Lib.pow10Tab
 P1:∃m:Int,w.cell? ⟨2,0,J⟩=U (.int .i64 m)
 opt:w.cell? ⟨3,0,J⟩=U (.bool ai)
 info:w.cell? ⟨10,0,J⟩=U (.int .u64 52)
 xM:w.cell? ⟨10,1,J⟩=U (.int .u64 11)
 vV:w.cell? ⟨10,2,J⟩=U (.int .i64 (-1023))
 pC:∃(a:ho) (cap:Nat),w.cell? ⟨14,0,J⟩=U (.slice (U a) 9 cap)∧a.block<w.heap.size∧∀(i:Nat) (x:Nat),o.pC[i]? = U x→w.cell? (a.add i)=U (.int .i64 (x:Nat))
 Fo:∃(a:ho) (cap:Nat),w.cell? ⟨12,0,J⟩=U (.slice (U a) 61 cap)∧a.block<w.heap.size∧∀(i:Nat) (x:Nat×List UInt8),Go.Pinned.cheatRows[i]? = U x→w.cell? (a.add (2*i))=U (.int .i64 (x.1:Nat))∧w.cell? (a.add (2*i+1))=U (.string ⟨x.2.toArray⟩)
 f10:∃(a:ho) (cap:Nat),w.cell? ⟨15,0,J⟩=U (.slice (U a) 23 cap)∧a.block<w.heap.size∧∀i x,o.f10[i]? = U x→w.cell? (a.add i)=U (.float .f64 x)
 err:∃v,w.cell? ⟨5,0,J⟩=U v∧(v=.nilIface∨∃gr nz,v=.iface gr nz)
theorem xN (a:ho) (i:Nat):(a.add i).block=a.block:=by
 unfold Addr.add;split<;>rfl
theorem Env.below {w w':af} (h:Env w) (ad:ah w.heap.size w w'):Env w':=by
 have a1:=h.size;have an:∀g a7,g<17→w'.cell? ⟨g,a7,J⟩=w.cell? ⟨g,a7,J⟩:=fun g a7 aY=>ad.cell (p:=⟨g,a7,J⟩) (by show g<_;omega);refine⟨cp a1 ad.size,h.vT.below ad (by omega),Joins.tab_stays (g:=8) (by kernel_rfl) h.vU ad (aC _),?_,?_,?_,?_,?_,?_,?_,?_,?_⟩
 ·obtain⟨m,hm⟩:=h.P1;exact⟨m,by rw[an _ _ (by omega)];exact hm⟩
 ·rw[an _ _ (by omega)];exact h.opt
 ·rw[an _ _ (by omega)];exact h.info
 ·rw[an _ _ (by omega)];exact h.xM
 ·rw[an _ _ (by omega)];exact h.vV
 ·obtain⟨a,cap,aa,ae,aJ⟩:=h.pC;exact⟨a,cap,by rw[an _ _ (by omega)];exact aa,cv ae ad.size,fun i x hx=>by rw[ad.cell (by rw[xN];exact ae)];exact aJ i x hx⟩
 ·obtain⟨a,cap,aa,ae,aJ⟩:=h.Fo;exact⟨a,cap,by rw[an _ _ (by omega)];exact aa,cv ae ad.size,fun i x hx=>⟨by rw[ad.cell (by rw[xN];exact ae)];exact (aJ i x hx).1,by rw[ad.cell (by rw[xN];exact ae)];exact (aJ i x hx).2⟩⟩
 ·obtain⟨a,cap,aa,ae,aJ⟩:=h.f10;exact⟨a,cap,by rw[an _ _ (by omega)];exact aa,cv ae ad.size,fun i x hx=>by rw[ad.cell (by rw[xN];exact ae)];exact aJ i x hx⟩
 ·obtain⟨v,aa,ae⟩:=h.err;exact⟨v,by rw[an _ _ (by omega)];exact aa,ae⟩
end Go.Proofs.YtkhphoonnkoipaaGreatDoor
namespace Go.Proofs.YtkhphoonnkoipaaGreatDoor.av
open Ieee
theorem ahr:D.read 9218868437227405311=.number ab 9007199254740991 971:=by rw[jK];decide +kernel
set_option exponentiation.threshold 3000 in
theorem ahs (b:Nat) (ad:b<18446744073709551616):D.order b 9218868437227405311=U .gt↔b=9218868437227405312:=by
 cases aB:dC b
 ·have aD:val (D.read 9218868437227405311)=Ieee.signed ab 9007199254740991 2045:=by rw[ahr];rfl
  rw[td aB (by decide),aD];have jO:(9007199254740991:Nat)*2^2045<2^2200:=by decide +kernel
  rw[jK];have zW:¬ 9218868437227405312<b%9223372036854775808:=by simpa[dC] using aB
  have key:∀(s:Bool) (m u:Nat),m<9007199254740992→u≤2045→compare (Ieee.signed s m u) (Ieee.signed ab 9007199254740991 2045)≠.gt:=by
   intro s m u hm hu;have aa:m*2^u≤9007199254740991*2^2045:=kz (by omega) (dB (by decide) hu);unfold Ieee.signed;rw[mM,mM];generalize 9007199254740991*2^2045=B at *;generalize m*2^u=v at *;cases s
   ·rcases Nat.lt_or_eq_of_le aa with h | h
    ·rw[tc (by simp;omega)];simp
    ·subst h;rw[cmp_eq];simp
   ·have:(-(v:Int))≤(B:Int):=by omega
    simp only[ba];rcases Int.lt_or_eq_of_le this with h | h
    ·rw[tc (by simpa using h)];simp
    ·simp only[oL,oV];rw[h,cmp_eq];simp
  split
  ·rename_i h;refine⟨fun e=>?_,fun e=>by omega⟩;simp only[val,re] at e;exact absurd e (key _ _ _ (by omega) (by omega))
  ·split
   ·rename_i h;refine⟨fun e=>?_,fun e=>by omega⟩;simp only[val,re] at e;have:b%9223372036854775808/4503599627370496≤2046:=by omega
    exact absurd e (key _ _ _ (by omega) (by omega))
   ·split
    ·rename_i h;simp only[val,re];unfold Ieee.signed;rw[mM,mM,fW];generalize 9007199254740991*2^2045=B at *;generalize 2^2200=C at *;by_cases a1:b/9223372036854775808%2=1
     ·rw[show (b/9223372036854775808%2==1)=ai by simpa using a1];refine⟨fun e=>?_,fun e=>by omega⟩;rw[tc (by simp;omega)] at e;cases e
     ·rw[show (b/9223372036854775808%2==1)=ab by simpa using a1];refine⟨fun e=>by omega,fun e=>?_⟩;rw[vP (by simp;omega)]
    ·omega
 ·rw[PN _ aB];refine⟨fun e=>(by cases e),fun e=>?_⟩;subst e;revert aB;decide
end Go.Proofs.YtkhphoonnkoipaaGreatDoor.av
namespace Go.Proofs.YtkhphoonnkoipaaGreatDoor
theorem aht {a:Nat} (aS:a<18446744073709551616):bits .andNot .u64 (a:Int) 9223372036854775808=((a%9223372036854775808:Nat):Int):=by
 have h:=Ot a 9223372036854775808 (by omega) (by omega);rw[show ((9223372036854775808:Nat):Int)=9223372036854775808 from rfl] at h;rw[h];congr 1;exact D7 a 63
theorem QD (a:Nat) (aS:a<18446744073709551616) (w:af):aq ak 140 #[.float .f64 a] w fun e w'=>e=.returned (.float .f64 (a%9223372036854775808))∧w=w':=by
 have aa:=B';have ae:=B9;have aJ:=aht aS;generalize a%9223372036854775808=b at *;go_enter func140,ntmps140;go_wp2;go_ret;exact⟨rfl,rfl⟩
theorem QE (b:Nat) (ad:b<18446744073709551616):∃a7:Option Ordering,FloatKind.f64.format.order b 9218868437227405311=a7∧(au (b=9218868437227405312)=match a7 with | some .gt=>ai | _=>ab):=by
 refine⟨_,rfl,?_⟩;have h:=av.ahs b ad;rw[mg,ij,←h];show _↔(match av.D.order b 9218868437227405311 with | some .gt=>ai | _=>ab)=ai;cases av.D.order b 9218868437227405311 with
 | none=>simp
 | some a7=>cases a7<;>simp
theorem Cs (a:Nat) (aS:a<18446744073709551616) (w:af):aq ak 81 #[.float .f64 a,.int .i64 0] w fun e w'=>e=.returned (.bool (au (a%9223372036854775808=9218868437227405312)))∧w=w':=by
 obtain⟨a7,b6,aL⟩:=QE (a%9223372036854775808) (by omega);have eQ:=I (QD a aS);generalize a%9223372036854775808=b at *;rw[aL];clear aL;rcases a7 with _ | a7
 ·go_enter BY,BS;go_wp2_with fail;refine (eQ.out _).mono ?_;rintro e w' ⟨rfl,rfl⟩;go_wp2;go_ret;exact⟨rfl,rfl⟩
 ·cases a7;all_goals
   go_enter BY,BS;go_wp2_with fail;refine (eQ.out _).mono ?_;rintro e w' ⟨rfl,rfl⟩;go_wp2;go_ret;exact⟨rfl,rfl⟩
theorem QF (b:Nat) (ad:b<18446744073709551616) (w:af):aq ak 81 #[.float .f64 b,.int .i64 1] w fun e w'=>e=.returned (.bool (au (b=9218868437227405312)))∧w=w':=by
 obtain⟨a7,b6,aL⟩:=QE b ad;rw[aL];clear aL;rcases a7 with _ | a7
 ·go_enter BY,BS;go_wp2;go_ret;exact⟨rfl,rfl⟩
 ·cases a7;all_goals
   go_enter BY,BS;go_wp2;go_ret;exact⟨rfl,rfl⟩
theorem QG (a:Nat) (aS:a<18446744073709551616) (w:af):aq ak 81 #[.float .f64 a,.int .i64 (-1)] w fun e w'=>e=.returned (.bool (au (a=18442240474082181120)))∧w=w':=by
 have hx:au (a=18442240474082181120)=au (a ^^^ 9223372036854775808=9218868437227405312):=by
  rw[mg,ij,ij];by_cases h:a<9223372036854775808
  ·rw[av.B5 h];omega
  ·rw[av.PO (by omega) aS];omega
 have ad:a ^^^ 9223372036854775808<18446744073709551616:=by
  by_cases h:a<9223372036854775808
  ·rw[av.B5 h];omega
  ·rw[av.PO (by omega) aS];omega
 have aB:=fun (w:af)=>JV a w;rw[hx];obtain⟨a7,b6,aL⟩:=QE _ ad;rw[aL];clear aL hx;generalize a ^^^ 9223372036854775808=b at *;rcases a7 with _ | a7
 ·go_enter BY,BS;go_wp2;go_ret;exact⟨rfl,rfl⟩
 ·cases a7;all_goals
   go_enter BY,BS;go_wp2;go_ret;exact⟨rfl,rfl⟩
theorem FI (a:Nat) (aS:a<18446744073709551616) (w:af):aq ak 142 #[.float .f64 a] w fun e w'=>e=.returned (.bool (au (a%9223372036854775808<9218868437227405312)))∧w=w':=by
 have hq:=I (Cs a aS);have H:=I (av.Ca a);rcases zk (a%9223372036854775808) 9218868437227405312 with h | h | h
 ·have b6:FloatKind.f64.format.order a a=U .eq:=by rw[H.out];unfold av.dC;rw[aU (by simp;omega)]
  have aL:au (a%9223372036854775808=9218868437227405312)=ab:=by simp;omega
  have aF:au (a%9223372036854775808<9218868437227405312)=ai:=by simp;omega
  rw[aF];rw[aL] at hq;clear h aL aF H;go_enter O8,ON;go_wp2_with (first | (refine (hq.out _).mono ?_;rintro e w' ⟨rfl,rfl⟩));go_ret;exact⟨rfl,rfl⟩
 ·have aL:au (a%9223372036854775808=9218868437227405312)=ai:=by simp;omega
  have aF:au (a%9223372036854775808<9218868437227405312)=ab:=by simp;omega
  rw[aF];rw[aL] at hq;clear h aL aF H;go_enter O8,ON;go_wp2_with (first | (refine (hq.out _).mono ?_;rintro e w' ⟨rfl,rfl⟩));go_ret;exact⟨rfl,rfl⟩
 ·have b6:FloatKind.f64.format.order a a=J:=by rw[H.out];unfold av.dC;rw[ba (by simp;omega)]
  have aL:au (a%9223372036854775808=9218868437227405312)=ab:=by simp;omega
  have aF:au (a%9223372036854775808<9218868437227405312)=ab:=by simp;omega
  rw[aF];rw[aL] at hq;clear h aL aF H;go_enter O8,ON;go_wp2_with (first | (refine (hq.out _).mono ?_;rintro e w' ⟨rfl,rfl⟩));go_ret;exact⟨rfl,rfl⟩
end Go.Proofs.YtkhphoonnkoipaaGreatDoor
namespace Go.Proofs.YtkhphoonnkoipaaGreatDoor.av
open Ieee
theorem MI {n:Nat} (h:n<2^200):er (n*2^bR) 1<9218868437227405312:=by
 unfold er;rw[uD];have hp:n*2^bR<2^(200+bR):=by
  rw[cm];exact jG h (ez _)
 have ef:=oE;generalize n*2^bR=P at hp;generalize bR=E at hp ef;rcases kd P with ar | ar
 ·subst ar;simp[e8]
 ·have ao:=(nX (by omega)).2 hp;obtain⟨k,aA⟩:∃k,P.log2-52=k:=⟨_,rfl⟩;rw[aA,fW];have aa:P<2^(53+k):=cv oM (dB (by decide) (by omega));have ae:e8 P (2^k)≤9007199254740992:=by
   unfold e8;have:P/2^k<9007199254740992:=by
    rw[kQ (ez k)];rw[cm] at aa;exact aa
   have:=O1 (au (2^k<2*(P%2^k))||(2^k==2*(P%2^k)&&P/2^k%2==1));omega
  have fh:k≤1222:=by omega
  clear hp ao aA aa ef h;omega
theorem aq6 {n q:Nat} (h:n<2^200) (aE:0<q):er (n*2^bR) q<9218868437227405312:=by
 unfold er;have hp:n*2^bR/q<2^(200+bR):=by
  rw[cm];exact gQ (s9 _ _) (jG h (ez _))
 have ef:=oE;generalize n*2^bR=P at hp ⊢;generalize bR=E at hp ef;obtain⟨f,bd⟩:∃f,P/q=f:=⟨_,rfl⟩;rw[bd] at hp ⊢;obtain⟨k,aA⟩:∃k,f.log2-52=k:=⟨_,rfl⟩;have fh:k≤1222:=by
  rcases kd f with ar | ar
  ·subst ar;simp at aA;omega
  ·have:=(nX (by omega)).2 hp;omega
 have aa:f<2^(53+k):=by
  rcases kd f with ar | ar
  ·subst ar;exact ez _
  ·exact cv oM (dB (by decide) (by omega))
 have ae:e8 P (q*2^k)≤9007199254740992:=by
  unfold e8;have:P/(q*2^k)<9007199254740992:=by
   rw[←hE,bd,kQ (ez k)];rw[cm] at aa;exact aa
  have:=O1 (au (q*2^k<2*(P%(q*2^k)))||(q*2^k==2*(P%(q*2^k))&&P/(q*2^k)%2==1));omega
 rw[aA];clear hp aA ef h aa bd;omega
theorem MJ {a b:Nat} (aS:dC a=ab) (ad:dC b=ab):∃a7,D.order a b=U a7:=⟨_,td aS ad⟩
theorem aq7:j9 ((10^15:Nat):Int)=4831355200913801216:=by decide +kernel
theorem MK:∀k:_root_.Fin 23,Go.Proofs.YtkhphoonnkoipaaGreatDoor.o.f10[k.val]? = U (j9 ((10^k.val:Nat):Int)):=by decide +kernel
theorem adI:val (D.read 4831355200913801216)=((1000000000000000*2^bR:Nat):Int):=by
 have:=(Ic (k:=15) (by omega)).val;rw[aq7] at this;exact this
theorem aq8:val (D.read 14054727237768577024) = -((1000000000000000*2^bR:Nat):Int):=by
 have h:=afK (a:=4831355200913801216) (by decide);rw[show (4831355200913801216:Nat) ^^^ 9223372036854775808=14054727237768577024 by decide] at h;rw[h,afG,adI]
theorem aq9 (neg:Bool) {d j y:Nat} (aL:d<4503599627370496) (bP:j≤15) (aW:D.mul (mJ neg d) (j9 ((10^j:Nat):Int))=U y) (aa:D.order y 4831355200913801216≠U .gt) (ae:D.order y 14054727237768577024≠U .lt):d*10^j<9007199254740992:=by
 rcases eh (d*10^j) 9007199254740992 with h | h
 ·exact h
 ·exfalso;have aB:=PQ aW;rw[Ie neg (by omega) (by omega)] at aW;have aq':=hb aW;have jO:d*10^j<2^200:=by
   have b1:10^j≤10^15:=dB (by decide) bP;have a2:d*10^j≤4503599627370496*10^15:=kz (by omega) b1;exact gQ a2 (by decide)
  obtain⟨n,aD,qt⟩:=aq5 (neg:=neg) (aq4 h) (MI jO);rw[aq'] at aD;unfold V at aD;have bV:1000000000000000*2^bR<n*2^bR:=jG (by omega) (ez _);generalize n*2^bR=N at aD bV;cases neg
  ·rw[td aB (by decide),aD,adI] at aa;apply aa;generalize 1000000000000000*2^bR=M at bV;rw[vP (by simp;omega)]
  ·rw[td aB (by decide),aD,aq8] at ae;apply ae;generalize 1000000000000000*2^bR=M at bV;rw[tc (by simp;omega)]
end Go.Proofs.YtkhphoonnkoipaaGreatDoor.av
