/- Lemmas. -/
import Derived.Test.YtkhphoonnkoipaaGreatDoorVabl
set_option linter.all false
set_option maxHeartbeats 8000000
set_option maxRecDepth 4000
open Go.Proofs.Tryz Go.RowKit Go.Lib
open Option renaming none→J
open Go renaming Value→aw,Calls→aq
open Go.RowKit renaming Below→ah
namespace Go.Proofs.YtkhphoonnkoipaaGreatDoor
theorem aft {x:o.Lit}:∀{l:List o.Lit},x ∈ l→o.zc x≤o.lK l
 | [],h=>by cases h
 | y::r,h=>by
   have e:o.lK (y::r)=o.zc y+o.lK r:=by simp[o.lK]
   rw[e];rcases List.mem_cons.1 h with rfl | ae
   ·omega
   ·have:=aft ae;omega
def IH (cb:List o.Lit) (V:Nat→aw):List fo:=cb.mapIdx fun i x=>⟨x.kind,x.n,x.bits,x.text,V i⟩
theorem av2 (cb:List o.Lit) (V:Nat→aw):(IH cb V).length=cb.length:=by simp[IH]
theorem afu {cb:List o.Lit} {V:Nat→aw} {i:Nat} {y:fo} (h:(IH cb V)[i]? = some y):∃x,cb[i]? = some x∧y=⟨x.kind,x.n,x.bits,x.text,V i⟩:=by
 unfold IH at h;rw[List.getElem?_mapIdx] at h;cases hx:cb[i]? with
 | none=>rw[hx] at h;cases h
 | some x=>rw[hx] at h;exact⟨x,rfl,by simpa using h.symm⟩
theorem av3 {B:Nat} (cb:List o.Lit) (A:Option Addr) (cap:Nat) (V:Nat→aw) (n:Int) (w:World) (aB:uv n) (az:B≤w.heap.size) (Nh:cb≠[]→∀a,A=some a→a.block<B) (cj:s3 5 xg w cb A cap V) (hw:∀x ∈ cb,o.IF x) (aF:∀(i:Nat) (x:o.Lit),cb[i]? = some x→mf B w x.items (V i)) (he:Env w) (jO:o.lK cb≤262144) :
 ∀W,ah w.heap.size w W→aq prog 6 #[.int .i64 n,.slice A cb.length cap] W (VK W n cb.length):=fun W ad=>by
 have n8:s3 5 xg W cb A cap V:=cj.tD (ad.mono az) Nh;have key:=avG (he.below ad) n aB (IH cb V) (fun i=>match cb[i]? with | some x=>x.items.length | none=>0) A cap (fun dT=>by
  have afv:cb≠[]:=fun e=>dT (by rw[e];rfl);obtain⟨b,a7,rfl⟩:=n8.addr afv;refine⟨b,a7,cap,rfl,n8.lt afv _ rfl,fun i y aW j u hu=>?_⟩;obtain⟨x,hx,rfl⟩:=afu aW;exact n8.cells b a7 rfl i x hx j u hu) (fun i y aW=>by
  obtain⟨x,hx,rfl⟩:=afu aW;have hm:=r9 hx;have kG:=hw x hm;have aa:=aft hm;have ae:o.zc x=1+x.text.size+o.lK x.items:=by cases x;rfl
  obtain⟨a,c,q,aD,_⟩:=(aF i x hx).out;refine⟨kG.kj,kG.dE,⟨x.bits,rfl,kG.b⟩,by show x.text.size≤_;omega,a,c,?_⟩;show V i=_;rw[aD,hx])
 rw[av2] at key;exact key
theorem av4 {B:Nat} (cb:List o.Lit) (v:aw) (n:Int) (w:World) (aB:uv n) (az:B≤w.heap.size) (hH:mf B w cb v) (he:Env w) :
 aq prog 3 #[.int .i64 n,v] w fun e w'=>e=.returned (.bool true)∧ah w.heap.size w w':=by
 have afw:Hid (∀W,ah w.heap.size w W→aq prog 5 #[v] W fun e w'=>(∃t:Bool,e=.returned (.bool t)∧(t=false→o.lK cb≤262144))∧ah W.heap.size W w'):=I (fun W ad=>avZ W (hH.tD (ad.mono az)) (cp az ad.size));obtain⟨A,cap,V,rfl,Nh,cj,hw,aF⟩:=hH.out;have hlen:=cj.len;have M9:=I (av3 cb A cap V n w aB az Nh cj hw aF he);have av5:=I (avH he n aB);have av6:=I (fun W=>avT W);have DW:Hid (∀W,aq prog 8 #[iA,iA] W fun e w'=>e=.returned (.bool true)∧ah W.heap.size W w'):=I (fun W=>avN 0 0 0 0 0 0 ⟨#[]⟩ ⟨#[]⟩ J J 0 0 W);have nJ:=I (fun k i b t W=>avL k i b t W);have Ds:Hid (∀cg,y' n=some cg→cg.size=cb.length→(IE n==(cb.length:Int))=true):=I (fun cg aa ae=>by unfold IE;rw[aa,gy];simp only;omega);clear hH Nh cj hw aF he az aB;generalize IE n=azV at *;obtain⟨N,cW⟩:∃N,cb.length=N:=⟨_,rfl⟩;rw[cW] at hlen M9 Ds afw ⊢;unfold iA bw at DW;unfold bw at nJ;clear cW;go_enter func3,ntmps3;go_wp2_with fail;refine (av6.out _).mono ?_;rintro e aP ⟨rfl,ad⟩;have bL:=I ad;clear ad;go_wp2_with fail;refine (afw.out _ bL.out).mono ?_;rintro e cc ⟨⟨t,rfl,bn⟩,ad⟩;have bu:=I (bL.out.trans (ad.mono bL.out.size));clear ad;cases t;case true=>
  go_wp2;go_ret;exact⟨rfl,bu.out⟩
 case false=>
  have dM:=I (M9.out (bn rfl) cc bu.out);clear bn;go_wp2_with fail;refine dM.out.mono ?_;rintro e aQ ⟨k,i,b,t,is,aa,ae,rfl,ad⟩;have H1:=I aa;have Vf:=I ae;have eN:=I (bu.out.trans (ad.mono bu.out.size));clear aa ae ad;unfold bw;have bU:=I (bk.new aQ (.int .u8 k) (.int .i64 i) (.int .u64 b) (.string t) (.slice J 0 0));obtain⟨im,cd,cF,fw,lP,a0,b1,a2,a3,a4⟩:=bU.out.cells;obtain⟨bh,dn⟩:∃W,(aQ.alloc (.cells #[.int .u8 k,.int .i64 i,.int .u64 b,.string t,.slice J 0 0] 28)).setCell ⟨aQ.heap.size,4,J⟩ (.slice J 0 0)=W:=⟨_,rfl⟩;have aO:Hid (bk bh aQ.heap.size (.int .u8 k) (.int .i64 i) (.int .u64 b) (.string t) (.slice J 0 0)):=I (by rw[←dn];exact bU.out.aff _);have dc:Hid (ah w.heap.size w bh):=I (by rw[←dn];exact (eN.out.alloc eN.out.size _).setCell (p:=⟨aQ.heap.size,4,J⟩) eN.out.size _);go_wp2_with fail;try rw[dn]
  refine (av5.out _).mono ?_;rintro e cw ⟨rfl,ad⟩;have yk:=I (aO.out.below ad);have gA:=I (dc.out.trans (ad.mono dc.out.size));obtain⟨c0,c1,c2,c3,c4,_,_,_,_,_⟩:=yk.out.cells;clear ad dn im cd cF fw lP a0 b1 a2 a3 a4;cases is;case false=>
   obtain⟨rfl,rfl,rfl,rfl⟩:=Vf.out rfl;go_wp2_with fail;refine (DW.out _).mono ?_;rintro e fb ⟨rfl,ad⟩;have l0:=I (gA.out.trans (ad.mono gA.out.size));clear ad;go_wp2;go_ret;exact⟨rfl,l0.out⟩
  case true=>
   obtain⟨aD,cg,fx,fh⟩:=H1.out rfl;have aE:=Ds.out cg fx fh;have cM:=I (fun W=>nJ.out k i b t W aD);clear aD fx fh;go_wp2_with fail;refine (cM.out _).mono ?_;rintro e fb ⟨rfl,ad⟩;have l0:=I (gA.out.trans (ad.mono gA.out.size));clear ad;go_wp2;go_ret;exact⟨rfl,l0.out⟩
theorem av7 {B:Nat} (cb:List o.Lit) (v:aw) (n:Int) (w:World) (az:B≤w.heap.size) (hH:mf B w cb v) (aa:-9223372036854775808≤n) (ae:n≤9223372036854775807) (he:Env w) :
 aq prog 3 #[.int .i64 n,v] w fun e w'=>e=.returned (.bool true)∧ah w.heap.size w w':=av4 cb v n w ⟨aa,ae⟩ az hH he
end Go.Proofs.YtkhphoonnkoipaaGreatDoor
