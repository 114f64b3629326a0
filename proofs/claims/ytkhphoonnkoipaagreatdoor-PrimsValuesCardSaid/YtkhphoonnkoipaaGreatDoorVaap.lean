/- Lemmas. -/
import Derived.Test.YtkhphoonnkoipaaGreatDoorVaan
import Derived.Test.YtkhphoonnkoipaaGreatDoorVaao
set_option linter.all false
set_option maxHeartbeats 8000000
set_option maxRecDepth 20000
open Go.Proofs.Tryz Go.RowKit Go.Lib
open Option renaming none→J,some→U
open Bool renaming true→ai,false→ab
open Decidable renaming decide→au
open Go renaming World→af,Value→aw,Calls→aq,results→bK
open Go.RowKit renaming Below→ah,Hid→aj
open Go.Proofs.Tryz renaming prog→ak
namespace Go.Proofs.YtkhphoonnkoipaaGreatDoor
def bk (W:af) (k:Nat) (a b c d e:aw):Prop:=W.heap[k]? = U (.cells #[a,b,c,d,e] 28)
theorem bk.new (w:af) (a b c d e:aw):bk (w.alloc (.cells #[a,b,c,d,e] 28)) w.heap.size a b c d e:=fX _ _
theorem bk.lt {W:af} {k:Nat} {a b c d e:aw} (h:bk W k a b c d e):k<W.heap.size:=(Array.getElem?_eq_some_iff.1 h).1
theorem bk.under {W bW:af} {k B:Nat} {a b c d e:aw} (h:bk W k a b c d e) (ad:ah B W bW) (aA:k<B):bk bW k a b c d e:=by
 unfold bk;rw[ad.block _ aA];exact h
theorem bk.below {W bW:af} {k:Nat} {a b c d e:aw} (h:bk W k a b c d e) (ad:ah W.heap.size W bW):bk bW k a b c d e:=h.under ad h.lt
theorem bk.alloc {W:af} {k:Nat} {a b c d e:aw} (h:bk W k a b c d e) (a7:Obj):bk (W.alloc a7) k a b c d e:=h.below ((aK _ _).alloc (aC _) _)
structure bk.Cells (W:af) (k:Nat) (a b c d e:aw):Prop where
 c0:W.cell? ⟨k,0,J⟩=U a
 c1:W.cell? ⟨k,1,J⟩=U b
 c2:W.cell? ⟨k,2,J⟩=U c
 c3:W.cell? ⟨k,3,J⟩=U d
 c4:W.cell? ⟨k,4,J⟩=U e
 f0:W.frozen? ⟨k,0,J⟩=ab
 f1:W.frozen? ⟨k,1,J⟩=ab
 f2:W.frozen? ⟨k,2,J⟩=ab
 f3:W.frozen? ⟨k,3,J⟩=ab
 f4:W.frozen? ⟨k,4,J⟩=ab
theorem bk.cells {W:af} {k:Nat} {a b c d e:aw} (h:bk W k a b c d e):bk.Cells W k a b c d e:=by
 unfold bk at h;constructor<;>simp[World.cell?,World.frozen?,h]
abbrev cC (W:af) (k:Nat) (a b c d e:aw):af:=((((W.setCell ⟨k,0,J⟩ a).setCell ⟨k,1,J⟩ b).setCell ⟨k,2,J⟩ c).setCell ⟨k,3,J⟩ d).setCell ⟨k,4,J⟩ e
theorem bk.set {W:af} {k:Nat} {a b c d e:aw} (h:bk W k a b c d e) (lz b' c' GC lG:aw):bk (cC W k lz b' c' GC lG) k lz b' c' GC lG:=by
 unfold bk cC at *;simp only[World.setCell,lp,ba,h];rfl
theorem dG {w W:af} {k B:Nat} (ad:ah B w W) (aA:B≤k) (a b c d e:aw):ah B w (cC W k a b c d e):=
 ((((ad.setCell (p:=⟨k,0,J⟩) aA _).setCell (p:=⟨k,1,J⟩) aA _).setCell (p:=⟨k,2,J⟩) aA _).setCell (p:=⟨k,3,J⟩) aA _).setCell (p:=⟨k,4,J⟩) aA _
theorem aI.cC {W:af} {k j:Nat} {T:TypeId} {a b:aw} (h:aI W k T a b) (dT:j≠k) (gK cZ cT gR lH:aw):aI (cC W j gK cZ cT gR lH) k T a b:=((((h.other dT).other dT).other dT).other dT).other dT
def bw (k n b:Int) (t:ByteArray) (v:aw):aw:=.agg #[.int .u8 k,.int .i64 n,.int .u64 b,.string t,v]
def iA:aw:=bw 0 0 0 ⟨#[]⟩ (.slice J 0 0)
def cJ (n:Int):Prop:=-1152921504606846976≤n∧n≤1152921504606846975
instance (n:Int):Decidable (cJ n):=by unfold cJ;infer_instance
theorem GD (n:Int) (w:af):aq ak 51 #[.int .i64 n] w fun e w'=>e=.returned (.bool (au (cJ n)))∧w=w':=by
 by_cases aa:-1152921504606846976≤n
 ·have d1:au (-1152921504606846976≤n)=ai:=bE aa;by_cases ae:n≤1152921504606846975
  ·have d2:au (n≤1152921504606846975)=ai:=bE ae;have bG:=I (show au (cJ n)=ai from bE ⟨aa,ae⟩);go_enter func51,Px;go_wp2;go_ret;exact⟨by rw[bG.out];rfl,rfl⟩
  ·have d2:au (n≤1152921504606846975)=ab:=bx ae;have bG:=I (show au (cJ n)=ab from bx (fun h=>ae h.2));go_enter func51,Px;go_wp2;go_ret;exact⟨by rw[bG.out];rfl,rfl⟩
 ·have d1:au (-1152921504606846976≤n)=ab:=bx aa;have bG:=I (show au (cJ n)=ab from bx (fun h=>aa h.1));go_enter func51,Px;go_wp2;go_ret;exact⟨by rw[bG.out];rfl,rfl⟩
theorem CZ (n:Int) (w:af):aq ak 55 #[.int .i64 n] w fun e w'=>e=.returned (bw 4 n 0 ⟨#[]⟩ (.slice J 0 0))∧ah w.heap.size w w':=by
 obtain⟨ag,a6⟩:∃ag,w.alloc (.cells #[.int .u8 0,.int .i64 0,.int .u64 0,.string ⟨#[]⟩,.slice J 0 0] 28)=ag:=⟨_,rfl⟩;have aO:aj (bk ag w.heap.size (.int .u8 0) (.int .i64 0) (.int .u64 0) (.string ⟨#[]⟩) (.slice J 0 0)):=I (by rw[←a6];exact bk.new _ _ _ _ _ _);have ay:aj (ah w.heap.size w ag):=I (by rw[←a6];exact (aK _ _).alloc (aC _) _);obtain⟨c0,c1,c2,c3,c4,f0,f1,f2,f3,f4⟩:=aO.out.cells;go_enter func55,ntmps55;go_wp2_with fail;obtain⟨aM,aG,bj,bq,bA,_,_,_,_,_⟩:=(aO.out.set (.int .u8 4) (.int .i64 n) (.int .u64 0) (.string ⟨#[]⟩) (.slice J 0 0)).cells;exact bI (v:=bw 4 n 0 ⟨#[]⟩ (.slice J 0 0)) (by simp[bK,results55,go_sem,bw,aM,aG,bj,bq,bA]) rfl ⟨rfl,dG ay.out (aC _) _ _ _ _ _⟩
theorem aj4 (w:af):aq ak 68 #[.bool ai] w fun e w'=>e=.returned (.tuple #[bw 2 0 0 ⟨#[]⟩ (.slice J 0 0),.bool ai])∧ah w.heap.size w w':=by
 obtain⟨ag,a6⟩:∃ag,w.alloc (.cells #[.int .u8 0,.int .i64 0,.int .u64 0,.string ⟨#[]⟩,.slice J 0 0] 28)=ag:=⟨_,rfl⟩;have aO:aj (bk ag w.heap.size (.int .u8 0) (.int .i64 0) (.int .u64 0) (.string ⟨#[]⟩) (.slice J 0 0)):=I (by rw[←a6];exact bk.new _ _ _ _ _ _);have ay:aj (ah w.heap.size w ag):=I (by rw[←a6];exact (aK _ _).alloc (aC _) _);obtain⟨c0,c1,c2,c3,c4,f0,f1,f2,f3,f4⟩:=aO.out.cells;go_enter func68,ntmps68;go_wp2_with fail;obtain⟨aM,aG,bj,bq,bA,_,_,_,_,_⟩:=(aO.out.set (.int .u8 2) (.int .i64 0) (.int .u64 0) (.string ⟨#[]⟩) (.slice J 0 0)).cells;exact bI (v:=.tuple #[bw 2 0 0 ⟨#[]⟩ (.slice J 0 0),.bool ai]) (by simp[bK,results68,go_sem,bw,aM,aG,bj,bq,bA]) rfl ⟨rfl,dG ay.out (aC _) _ _ _ _ _⟩
theorem aj5 (w:af):aq ak 68 #[.bool ab] w fun e w'=>e=.returned (.tuple #[bw 3 0 0 ⟨#[]⟩ (.slice J 0 0),.bool ai])∧ah w.heap.size w w':=by
 obtain⟨ag,a6⟩:∃ag,w.alloc (.cells #[.int .u8 0,.int .i64 0,.int .u64 0,.string ⟨#[]⟩,.slice J 0 0] 28)=ag:=⟨_,rfl⟩;have aO:aj (bk ag w.heap.size (.int .u8 0) (.int .i64 0) (.int .u64 0) (.string ⟨#[]⟩) (.slice J 0 0)):=I (by rw[←a6];exact bk.new _ _ _ _ _ _);have ay:aj (ah w.heap.size w ag):=I (by rw[←a6];exact (aK _ _).alloc (aC _) _);obtain⟨c0,c1,c2,c3,c4,f0,f1,f2,f3,f4⟩:=aO.out.cells;go_enter func68,ntmps68;go_wp2_with fail;obtain⟨aM,aG,bj,bq,bA,_,_,_,_,_⟩:=(aO.out.set (.int .u8 3) (.int .i64 0) (.int .u64 0) (.string ⟨#[]⟩) (.slice J 0 0)).cells;exact bI (v:=.tuple #[bw 3 0 0 ⟨#[]⟩ (.slice J 0 0),.bool ai]) (by simp[bK,results68,go_sem,bw,aM,aG,bj,bq,bA]) rfl ⟨rfl,dG ay.out (aC _) _ _ _ _ _⟩
theorem C0 (s:ByteArray) (w:af) (a1:s.size≤65536):aq ak 44 #[.string s] w fun e w'=>e=.returned (.tuple #[bw 8 0 0 s (.slice J 0 0),.bool ai])∧ah w.heap.size w w':=by
 obtain⟨ag,a6⟩:∃ag,w.alloc (.cells #[.int .u8 0,.int .i64 0,.int .u64 0,.string ⟨#[]⟩,.slice J 0 0] 28)=ag:=⟨_,rfl⟩;have aO:aj (bk ag w.heap.size (.int .u8 0) (.int .i64 0) (.int .u64 0) (.string ⟨#[]⟩) (.slice J 0 0)):=I (by rw[←a6];exact bk.new _ _ _ _ _ _);have ay:aj (ah w.heap.size w ag):=I (by rw[←a6];exact (aK _ _).alloc (aC _) _);obtain⟨c0,c1,c2,c3,c4,f0,f1,f2,f3,f4⟩:=aO.out.cells;have aL:au ((s.size:Int)≤65536)=ai:=bE (by omega);go_enter func44,ntmps44;go_wp2_with fail;obtain⟨aM,aG,bj,bq,bA,_,_,_,_,_⟩:=(aO.out.set (.int .u8 8) (.int .i64 0) (.int .u64 0) (.string s) (.slice J 0 0)).cells;exact bI (v:=.tuple #[bw 8 0 0 s (.slice J 0 0),.bool ai]) (by simp[bK,results44,go_sem,bw,aM,aG,bj,bq,bA]) rfl ⟨rfl,dG ay.out (aC _) _ _ _ _ _⟩
def fB (W:af) (k:Nat) (a b c d e f g:aw):Prop:=W.heap[k]? = U (.cells #[a,b,c,d,e,f,g] 48)
theorem fB.new (w:af) (a b c d e f g:aw):fB (w.alloc (.cells #[a,b,c,d,e,f,g] 48)) w.heap.size a b c d e f g:=fX _ _
theorem fB.lt {W:af} {k:Nat} {a b c d e f g:aw} (h:fB W k a b c d e f g):k<W.heap.size:=(Array.getElem?_eq_some_iff.1 h).1
theorem fB.under {W bW:af} {k B:Nat} {a b c d e f g:aw} (h:fB W k a b c d e f g) (ad:ah B W bW) (aA:k<B):fB bW k a b c d e f g:=by
 unfold fB;rw[ad.block _ aA];exact h
theorem fB.below {W bW:af} {k:Nat} {a b c d e f g:aw} (h:fB W k a b c d e f g) (ad:ah W.heap.size W bW):fB bW k a b c d e f g:=h.under ad h.lt
theorem fB.alloc {W:af} {k:Nat} {a b c d e f g:aw} (h:fB W k a b c d e f g) (a7:Obj):fB (W.alloc a7) k a b c d e f g:=h.below ((aK _ _).alloc (aC _) _)
structure fB.Cells (W:af) (k:Nat) (a b c d e f g:aw):Prop where
 c0:W.cell? ⟨k,0,J⟩=U a
 c1:W.cell? ⟨k,1,J⟩=U b
 c2:W.cell? ⟨k,2,J⟩=U c
 c3:W.cell? ⟨k,3,J⟩=U d
 c4:W.cell? ⟨k,4,J⟩=U e
 c5:W.cell? ⟨k,5,J⟩=U f
 rp:W.cell? ⟨k,6,J⟩=U g
 f0:W.frozen? ⟨k,0,J⟩=ab
 f1:W.frozen? ⟨k,1,J⟩=ab
 f2:W.frozen? ⟨k,2,J⟩=ab
 f3:W.frozen? ⟨k,3,J⟩=ab
 f4:W.frozen? ⟨k,4,J⟩=ab
 f5:W.frozen? ⟨k,5,J⟩=ab
 f6:W.frozen? ⟨k,6,J⟩=ab
theorem fB.cells {W:af} {k:Nat} {a b c d e f g:aw} (h:fB W k a b c d e f g):fB.Cells W k a b c d e f g:=by
 unfold fB at h;constructor<;>simp[World.cell?,World.frozen?,h]
theorem fB.drew {W:af} {k:Nat} {a b c d e f g:aw} (h:fB W k a b c d e f g):fB W.drew k a b c d e f g:=h
theorem fB.aj6 {W:af} {k:Nat} {a b c d e f g:aw} (h:fB W k a b c d e f g) (x y:aw):fB ((W.setCell ⟨k,5,J⟩ x).setCell ⟨k,6,J⟩ y) k a b c d e x y:=by
 unfold fB at *;simp only[World.setCell,lp,ba,h];rfl
abbrev iY (W:af) (k:Nat) (a b c d e f g:aw):af:=((((((W.setCell ⟨k,0,J⟩ a).setCell ⟨k,1,J⟩ b).setCell ⟨k,2,J⟩ c).setCell ⟨k,3,J⟩ d).setCell ⟨k,4,J⟩ e).setCell ⟨k,5,J⟩ f).setCell ⟨k,6,J⟩ g
theorem fB.set {W:af} {k:Nat} {a b c d e f g:aw} (h:fB W k a b c d e f g) (lz b' c' GC lG Yq pD:aw):fB (iY W k lz b' c' GC lG Yq pD) k lz b' c' GC lG Yq pD:=by
 unfold fB iY at *;simp only[World.setCell,lp,ba,h];rfl
theorem fB.other {W:af} {k j i:Nat} {a b c d e f g x:aw} (h:fB W k a b c d e f g) (dT:j≠k):fB (W.setCell ⟨j,i,J⟩ x) k a b c d e f g:=by
 unfold fB at *;simp only[World.setCell,lp,aU dT];exact h
theorem bk.other {W:af} {k j i:Nat} {a b c d e x:aw} (h:bk W k a b c d e) (dT:j≠k):bk (W.setCell ⟨j,i,J⟩ x) k a b c d e:=by
 unfold bk at *;simp only[World.setCell,lp,aU dT];exact h
theorem bk.KH {W:af} {k:Nat} {a b c d e:aw} (h:bk W k a b c d e) (x:aw):bk (W.setCell ⟨k,1,J⟩ x) k a x c d e:=by
 unfold bk at *;simp only[World.setCell,lp,ba,h];rfl
theorem bk.aj7 {W:af} {k:Nat} {a b c d e:aw} (h:bk W k a b c d e) (x:aw):bk (W.setCell ⟨k,3,J⟩ x) k a b c x e:=by
 unfold bk at *;simp only[World.setCell,lp,ba,h];rfl
theorem pd {w W:af} {k B:Nat} (ad:ah B w W) (aA:B≤k) (a b c d e f g:aw):ah B w (iY W k a b c d e f g):=
 ((((((ad.setCell (p:=⟨k,0,J⟩) aA _).setCell (p:=⟨k,1,J⟩) aA _).setCell (p:=⟨k,2,J⟩) aA _).setCell (p:=⟨k,3,J⟩) aA _).setCell (p:=⟨k,4,J⟩) aA _).setCell (p:=⟨k,5,J⟩) aA _).setCell (p:=⟨k,6,J⟩) aA _
def hA (k n b:Int) (t:ByteArray) (v:aw) (g:Bool) (s:ByteArray):aw:=.agg #[.int .u8 k,.int .i64 n,.int .u64 b,.string t,v,.bool g,.string s]
structure j6 (w W:af) (k n b:Int) (t:ByteArray) (v:aw) (g:Bool) (S:ByteArray) (j3:Int) (jR:ByteArray):Prop where
 l:bk W w.heap.size (.int .u8 k) (.int .i64 n) (.int .u64 b) (.string t) v
 r:fB W (w.heap.size+1) (.int .u8 0) (.int .i64 0) (.int .u64 0) (.string ⟨#[]⟩) (.slice J 0 0) (.bool ab) (.string ⟨#[]⟩)
 u:fB W (w.heap.size+2) (.int .u8 k) (.int .i64 n) (.int .u64 b) (.string t) v (.bool g) (.string S)
 q:bk W (w.heap.size+3) (.int .u8 k) (.int .i64 j3) (.int .u64 b) (.string jR) v
 low:ah w.heap.size w W
 size:w.heap.size+4≤W.heap.size
theorem j6.new (w:af) (k n b:Int) (t:ByteArray) (v:aw):j6 w ((((w.alloc (.cells #[.int .u8 k,.int .i64 n,.int .u64 b,.string t,v] 28)).alloc (.cells #[.int .u8 0,.int .i64 0,.int .u64 0,.string ⟨#[]⟩,.slice J 0 0,.bool ab,.string ⟨#[]⟩] 48)).alloc (.cells #[.int .u8 k,.int .i64 n,.int .u64 b,.string t,v,.bool ab,.string ⟨#[]⟩] 48)).alloc (.cells #[.int .u8 k,.int .i64 n,.int .u64 b,.string t,v] 28)) k n b t v ab ⟨#[]⟩ n t:=by
 obtain⟨ag,aa⟩:∃ag,w.alloc (.cells #[.int .u8 k,.int .i64 n,.int .u64 b,.string t,v] 28)=ag:=⟨_,rfl⟩;have iT:bk ag w.heap.size (.int .u8 k) (.int .i64 n) (.int .u64 b) (.string t) v:=by rw[←aa];exact bk.new _ _ _ _ _ _
 have s1:ag.heap.size=w.heap.size+1:=by rw[←aa];simp
 have cd:ah w.heap.size w ag:=by rw[←aa];exact (aK _ _).alloc (aC _) _
 rw[aa];have cN:=fB.new ag (.int .u8 0) (.int .i64 0) (.int .u64 0) (.string ⟨#[]⟩) (.slice J 0 0) (.bool ab) (.string ⟨#[]⟩);obtain⟨cG,ae⟩:∃cG,ag.alloc (.cells #[.int .u8 0,.int .i64 0,.int .u64 0,.string ⟨#[]⟩,.slice J 0 0,.bool ab,.string ⟨#[]⟩] 48)=cG:=⟨_,rfl⟩;have pK:=iT.alloc (.cells #[.int .u8 0,.int .i64 0,.int .u64 0,.string ⟨#[]⟩,.slice J 0 0,.bool ab,.string ⟨#[]⟩] 48);have cF:=cd.alloc (by omega) (.cells #[.int .u8 0,.int .i64 0,.int .u64 0,.string ⟨#[]⟩,.slice J 0 0,.bool ab,.string ⟨#[]⟩] 48);rw[ae] at cN pK cF ⊢;have s2:cG.heap.size=w.heap.size+2:=by rw[←ae];simp;omega
 rw[s1] at cN;have v3:=fB.new cG (.int .u8 k) (.int .i64 n) (.int .u64 b) (.string t) v (.bool ab) (.string ⟨#[]⟩);obtain⟨aZ,aJ⟩:∃aZ,cG.alloc (.cells #[.int .u8 k,.int .i64 n,.int .u64 b,.string t,v,.bool ab,.string ⟨#[]⟩] 48)=aZ:=⟨_,rfl⟩;have tB:=pK.alloc (.cells #[.int .u8 k,.int .i64 n,.int .u64 b,.string t,v,.bool ab,.string ⟨#[]⟩] 48);have fV:=cN.alloc (.cells #[.int .u8 k,.int .i64 n,.int .u64 b,.string t,v,.bool ab,.string ⟨#[]⟩] 48);have fw:=cF.alloc (by omega) (.cells #[.int .u8 k,.int .i64 n,.int .u64 b,.string t,v,.bool ab,.string ⟨#[]⟩] 48);rw[aJ] at v3 tB fV fw ⊢;have jk:aZ.heap.size=w.heap.size+3:=by rw[←aJ];simp;omega
 rw[s2] at v3;have e9:=bk.new aZ (.int .u8 k) (.int .i64 n) (.int .u64 b) (.string t) v;rw[jk] at e9;exact⟨tB.alloc _,fV.alloc _,v3.alloc _,e9,fw.alloc (by omega) _,by simp;omega⟩
theorem j6.below {w W bW:af} {k n b:Int} {t:ByteArray} {v:aw} {g:Bool} {S:ByteArray} {j3:Int} {jR:ByteArray} (h:j6 w W k n b t v g S j3 jR) (ad:ah W.heap.size W bW):j6 w bW k n b t v g S j3 jR:=
 ⟨h.l.below ad,h.r.below ad,h.u.below ad,h.q.below ad,h.low.trans (ad.mono (by have:=h.size;omega)),cp h.size ad.size⟩
theorem j6.drew {w W:af} {k n b:Int} {t:ByteArray} {v:aw} {g:Bool} {S:ByteArray} {j3:Int} {jR:ByteArray} (h:j6 w W k n b t v g S j3 jR):j6 w W.drew k n b t v g S j3 jR:=⟨h.l,h.r,h.u,h.q,h.low.drew,h.size⟩
theorem j6.AD {w W:af} {k n b:Int} {t:ByteArray} {v:aw} {g:Bool} {S:ByteArray} {j3:Int} {jR:ByteArray} (h:j6 w W k n b t v g S j3 jR) (g2:Bool) (nH:ByteArray) :
 j6 w ((W.setCell ⟨w.heap.size+2,5,J⟩ (.bool g2)).setCell ⟨w.heap.size+2,6,J⟩ (.string nH)) k n b t v g2 nH j3 jR:=
 ⟨(h.l.other (by omega)).other (by omega),(h.r.other (by omega)).other (by omega),h.u.aj6 _ _,(h.q.other (by omega)).other (by omega),(h.low.setCell (p:=⟨w.heap.size+2,5,J⟩) (by show w.heap.size≤w.heap.size+2;omega) _).setCell (p:=⟨w.heap.size+2,6,J⟩) (by show w.heap.size≤w.heap.size+2;omega) _,by simpa[World.setCell] using h.size⟩
theorem j6.Yr {w W:af} {k n b:Int} {t:ByteArray} {v:aw} {g:Bool} {S:ByteArray} {j3:Int} {jR:ByteArray} (h:j6 w W k n b t v g S j3 jR) :
 j6 w (W.setCell ⟨w.heap.size+3,1,J⟩ (.int .i64 0)) k n b t v g S 0 jR:=
 ⟨h.l.other (by omega),h.r.other (by omega),h.u.other (by omega),h.q.KH _,h.low.setCell (p:=⟨w.heap.size+3,1,J⟩) (by show w.heap.size≤w.heap.size+3;omega) _,by simpa[World.setCell] using h.size⟩
theorem j6.empty {w W:af} {k n b:Int} {t:ByteArray} {v:aw} {g:Bool} {S:ByteArray} {j3:Int} {jR:ByteArray} (h:j6 w W k n b t v g S j3 jR) :
 j6 w (W.setCell ⟨w.heap.size+3,3,J⟩ (.string ⟨#[]⟩)) k n b t v g S j3 ⟨#[]⟩:=
 ⟨h.l.other (by omega),h.r.other (by omega),h.u.other (by omega),h.q.aj7 _,h.low.setCell (p:=⟨w.heap.size+3,3,J⟩) (by show w.heap.size≤w.heap.size+3;omega) _,by simpa[World.setCell] using h.size⟩
theorem bk.alh {W:af} {k:Nat} {a b c d e:aw} (h:bk W k a b c d e) (x:aw):bk (W.setCell ⟨k,2,J⟩ x) k a b x d e:=by
 unfold bk at *;simp[World.setCell,lp,h]
theorem AK (t:ByteArray):t.toList.isEmpty=au (t.size=0):=by
 rw[lL];have h:t.data.toList.length=t.size:=by rw[uz];rfl
 rw[←h];cases t.data.toList with
 | nil=>rfl
 | cons c r=>rfl
theorem aaC (n b:Int) (t:ByteArray) (bM:Option Addr) (bC bN c:Nat) (w:af) :
 aq ak 14 #[bw 8 n b t (.slice bM bC bN),.int .u8 c] w fun e w'=>e=.returned (.tuple #[hA 8 n b t (.slice bM bC bN) ab ⟨#[]⟩,.bool (au (bC=0∧c=83∧t.size≤65536∧n=0∧b=0))])∧ah w.heap.size w w':=by
 obtain⟨dQ,qR⟩:∃q,((bC:Int)==0)=q:=⟨_,rfl⟩;obtain⟨e1,sJ⟩:∃q,((c:Int)==83)=q:=⟨_,rfl⟩;obtain⟨qs,SF⟩:∃q,au ((t.size:Int)≤65536)=q:=⟨_,rfl⟩;obtain⟨js,wM⟩:∃q,(n==0)=q:=⟨_,rfl⟩;obtain⟨iR,tV⟩:∃q,(b==0)=q:=⟨_,rfl⟩;have bS:au (bC=0∧c=83∧t.size≤65536∧n=0∧b=0)=(dQ&&(e1&&(qs&&(js&&iR)))):=by
  rw[mg,ij];rw[←qR];rw[←sJ];rw[←SF];rw[←wM];rw[←tV];try rw[AK]
  simp only[s6,ij,gy];try unfold cJ
  omega
 rw[bS];clear bS;have bF:=I (j6.new w 8 n b t (.slice bM bC bN));obtain⟨gd,iv⟩:∃gd,(((w.alloc (.cells #[.int .u8 8,.int .i64 n,.int .u64 b,.string t,.slice bM bC bN] 28)).alloc (.cells #[.int .u8 0,.int .i64 0,.int .u64 0,.string ⟨#[]⟩,.slice J 0 0,.bool ab,.string ⟨#[]⟩] 48)).alloc (.cells #[.int .u8 8,.int .i64 n,.int .u64 b,.string t,.slice bM bC bN,.bool ab,.string ⟨#[]⟩] 48)).alloc (.cells #[.int .u8 8,.int .i64 n,.int .u64 b,.string t,.slice bM bC bN] 28)=gd:=⟨_,rfl⟩;rw[iv] at bF;unfold bw hA;obtain⟨a0,b1,a2,a3,a4,_,_,_,_,_⟩:=bF.out.l.cells;have key:((dQ=ab)∨(dQ=ai∧e1=ab)∨(dQ=ai∧e1=ai∧qs=ab)∨(dQ=ai∧e1=ai∧qs=ai∧js=ab)∨(dQ=ai∧e1=ai∧qs=ai∧js=ai∧iR=ab)∨(dQ=ai∧e1=ai∧qs=ai∧js=ai∧iR=ai)):=by
  cases dQ<;>cases e1<;>cases qs<;>cases js<;>cases iR<;>simp
 rcases key with rfl | ⟨rfl,rfl⟩ | ⟨rfl,rfl,rfl⟩ | ⟨rfl,rfl,rfl,rfl⟩ | ⟨rfl,rfl,rfl,rfl,rfl⟩ | ⟨rfl,rfl,rfl,rfl,rfl⟩;all_goals
  simp only[ri,sg];have ew:=I bF.out.empty;obtain⟨fm,l3⟩:∃fm,gd.setCell ⟨w.heap.size+3,3,J⟩ (.string ⟨#[]⟩)=fm:=⟨_,rfl⟩;rw[l3] at ew;obtain⟨b0,bD,cX,dU,e9,hj,kp,l4,kq,iZ⟩:=bF.out.q.cells;go_enter sj,sh;obtain⟨dO,dV,dS,kr,j8,k7,k8,_,_,_,_,_,_,_⟩:=ew.out.u.cells;obtain⟨jW,s1,s2,jk,h',_,_,_,_,_⟩:=ew.out.q.cells;obtain⟨cl,bH,cN,fV,ie,k9,la,f0,f1,f2,f3,f4,f5,f6⟩:=ew.out.r.cells;go_wp2;go_region;go_wp2_with fail;have aA:=(ew.out.r.set (.int .u8 8) (.int .i64 n) (.int .u64 b) (.string t) (.slice bM bC bN) (.bool ab) (.string ⟨#[]⟩)).drew.cells;have az:=(pd ew.out.low (show w.heap.size≤w.heap.size+1 by omega) (.int .u8 8) (.int .i64 n) (.int .u64 b) (.string t) (.slice bM bC bN) (.bool ab) (.string ⟨#[]⟩)).drew;clear dO dV dS kr j8 k7 k8 jW s1 s2 jk h' cl bH cN fV ie k9 la f0 f1 f2 f3 f4 f5 f6 a0 b1 a2 a3 a4 b0 bD cX dU e9 hj kp l4 kq iZ;generalize l5:(iY fm (w.heap.size+1) (.int .u8 8) (.int .i64 n) (.int .u64 b) (.string t) (.slice bM bC bN) (.bool ab) (.string ⟨#[]⟩)).drew=vc at aA az;clear l5;obtain⟨aM,aG,bj,bq,bA,i',ja,_,_,_,_,_,_,_⟩:=aA;first
  | exact bI (v:=.tuple #[.agg #[.int .u8 8,.int .i64 n,.int .u64 b,.string t,.slice bM bC bN,.bool ab,.string ⟨#[]⟩],.bool ab]) (by simp[bK,mN,go_sem,aM,aG,bj,bq,bA,i',ja]) rfl ⟨rfl,az⟩
  | exact bI (v:=.tuple #[.agg #[.int .u8 8,.int .i64 n,.int .u64 b,.string t,.slice bM bC bN,.bool ab,.string ⟨#[]⟩],.bool ai]) (by simp[bK,mN,go_sem,aM,aG,bj,bq,bA,i',ja]) rfl ⟨rfl,az⟩
theorem ali (n b:Int) (t:ByteArray) (bM:Option Addr) (bC bN c:Nat) (w:af) :
 aq ak 14 #[bw 9 n b t (.slice bM bC bN),.int .u8 c] w fun e w'=>e=.returned (.tuple #[hA 9 n b t (.slice bM bC bN) ab ⟨#[]⟩,.bool (au (bC=0∧c=89∧t.size≤65536∧n=0∧b=0))])∧ah w.heap.size w w':=by
 obtain⟨dQ,qR⟩:∃q,((bC:Int)==0)=q:=⟨_,rfl⟩;obtain⟨e1,sJ⟩:∃q,((c:Int)==89)=q:=⟨_,rfl⟩;obtain⟨qs,SF⟩:∃q,au ((t.size:Int)≤65536)=q:=⟨_,rfl⟩;obtain⟨js,wM⟩:∃q,(n==0)=q:=⟨_,rfl⟩;obtain⟨iR,tV⟩:∃q,(b==0)=q:=⟨_,rfl⟩;have bS:au (bC=0∧c=89∧t.size≤65536∧n=0∧b=0)=(dQ&&(e1&&(qs&&(js&&iR)))):=by
  rw[mg,ij];rw[←qR];rw[←sJ];rw[←SF];rw[←wM];rw[←tV];try rw[AK]
  simp only[s6,ij,gy];try unfold cJ
  omega
 rw[bS];clear bS;have bF:=I (j6.new w 9 n b t (.slice bM bC bN));obtain⟨gd,iv⟩:∃gd,(((w.alloc (.cells #[.int .u8 9,.int .i64 n,.int .u64 b,.string t,.slice bM bC bN] 28)).alloc (.cells #[.int .u8 0,.int .i64 0,.int .u64 0,.string ⟨#[]⟩,.slice J 0 0,.bool ab,.string ⟨#[]⟩] 48)).alloc (.cells #[.int .u8 9,.int .i64 n,.int .u64 b,.string t,.slice bM bC bN,.bool ab,.string ⟨#[]⟩] 48)).alloc (.cells #[.int .u8 9,.int .i64 n,.int .u64 b,.string t,.slice bM bC bN] 28)=gd:=⟨_,rfl⟩;rw[iv] at bF;unfold bw hA;obtain⟨a0,b1,a2,a3,a4,_,_,_,_,_⟩:=bF.out.l.cells;have key:((dQ=ab)∨(dQ=ai∧e1=ab)∨(dQ=ai∧e1=ai∧qs=ab)∨(dQ=ai∧e1=ai∧qs=ai∧js=ab)∨(dQ=ai∧e1=ai∧qs=ai∧js=ai∧iR=ab)∨(dQ=ai∧e1=ai∧qs=ai∧js=ai∧iR=ai)):=by
  cases dQ<;>cases e1<;>cases qs<;>cases js<;>cases iR<;>simp
 rcases key with rfl | ⟨rfl,rfl⟩ | ⟨rfl,rfl,rfl⟩ | ⟨rfl,rfl,rfl,rfl⟩ | ⟨rfl,rfl,rfl,rfl,rfl⟩ | ⟨rfl,rfl,rfl,rfl,rfl⟩;all_goals
  simp only[ri,sg];have ew:=I bF.out.empty;obtain⟨fm,l3⟩:∃fm,gd.setCell ⟨w.heap.size+3,3,J⟩ (.string ⟨#[]⟩)=fm:=⟨_,rfl⟩;rw[l3] at ew;obtain⟨b0,bD,cX,dU,e9,hj,kp,l4,kq,iZ⟩:=bF.out.q.cells;go_enter sj,sh;obtain⟨dO,dV,dS,kr,j8,k7,k8,_,_,_,_,_,_,_⟩:=ew.out.u.cells;obtain⟨jW,s1,s2,jk,h',_,_,_,_,_⟩:=ew.out.q.cells;obtain⟨cl,bH,cN,fV,ie,k9,la,f0,f1,f2,f3,f4,f5,f6⟩:=ew.out.r.cells;go_wp2;go_region;go_wp2_with fail;have aA:=(ew.out.r.set (.int .u8 9) (.int .i64 n) (.int .u64 b) (.string t) (.slice bM bC bN) (.bool ab) (.string ⟨#[]⟩)).drew.cells;have az:=(pd ew.out.low (show w.heap.size≤w.heap.size+1 by omega) (.int .u8 9) (.int .i64 n) (.int .u64 b) (.string t) (.slice bM bC bN) (.bool ab) (.string ⟨#[]⟩)).drew;clear dO dV dS kr j8 k7 k8 jW s1 s2 jk h' cl bH cN fV ie k9 la f0 f1 f2 f3 f4 f5 f6 a0 b1 a2 a3 a4 b0 bD cX dU e9 hj kp l4 kq iZ;generalize l5:(iY fm (w.heap.size+1) (.int .u8 9) (.int .i64 n) (.int .u64 b) (.string t) (.slice bM bC bN) (.bool ab) (.string ⟨#[]⟩)).drew=vc at aA az;clear l5;obtain⟨aM,aG,bj,bq,bA,i',ja,_,_,_,_,_,_,_⟩:=aA;first
  | exact bI (v:=.tuple #[.agg #[.int .u8 9,.int .i64 n,.int .u64 b,.string t,.slice bM bC bN,.bool ab,.string ⟨#[]⟩],.bool ab]) (by simp[bK,mN,go_sem,aM,aG,bj,bq,bA,i',ja]) rfl ⟨rfl,az⟩
  | exact bI (v:=.tuple #[.agg #[.int .u8 9,.int .i64 n,.int .u64 b,.string t,.slice bM bC bN,.bool ab,.string ⟨#[]⟩],.bool ai]) (by simp[bK,mN,go_sem,aM,aG,bj,bq,bA,i',ja]) rfl ⟨rfl,az⟩
theorem alj (n b:Int) (t:ByteArray) (bM:Option Addr) (bC bN c:Nat) (w:af) :
 aq ak 14 #[bw 6 n b t (.slice bM bC bN),.int .u8 c] w fun e w'=>e=.returned (.tuple #[hA 6 n b t (.slice bM bC bN) ab ⟨#[]⟩,.bool (au (bC=0∧c=70∧n=0∧t.size=0))])∧ah w.heap.size w w':=by
 obtain⟨dQ,qR⟩:∃q,((bC:Int)==0)=q:=⟨_,rfl⟩;obtain⟨e1,sJ⟩:∃q,((c:Int)==70)=q:=⟨_,rfl⟩;obtain⟨js,wM⟩:∃q,(n==0)=q:=⟨_,rfl⟩;obtain⟨yz,GY⟩:∃q,t.toList.isEmpty=q:=⟨_,rfl⟩;have bS:au (bC=0∧c=70∧n=0∧t.size=0)=(dQ&&(e1&&(js&&yz))):=by
  rw[mg,ij];rw[←qR];rw[←sJ];rw[←wM];rw[←GY];try rw[AK]
  simp only[s6,ij,gy];try unfold cJ
  omega
 rw[bS];clear bS;have bF:=I (j6.new w 6 n b t (.slice bM bC bN));obtain⟨gd,iv⟩:∃gd,(((w.alloc (.cells #[.int .u8 6,.int .i64 n,.int .u64 b,.string t,.slice bM bC bN] 28)).alloc (.cells #[.int .u8 0,.int .i64 0,.int .u64 0,.string ⟨#[]⟩,.slice J 0 0,.bool ab,.string ⟨#[]⟩] 48)).alloc (.cells #[.int .u8 6,.int .i64 n,.int .u64 b,.string t,.slice bM bC bN,.bool ab,.string ⟨#[]⟩] 48)).alloc (.cells #[.int .u8 6,.int .i64 n,.int .u64 b,.string t,.slice bM bC bN] 28)=gd:=⟨_,rfl⟩;rw[iv] at bF;unfold bw hA;obtain⟨a0,b1,a2,a3,a4,_,_,_,_,_⟩:=bF.out.l.cells;have key:((dQ=ab)∨(dQ=ai∧e1=ab)∨(dQ=ai∧e1=ai∧js=ab)∨(dQ=ai∧e1=ai∧js=ai)):=by
  cases dQ<;>cases e1<;>cases js<;>simp
 rcases key with rfl | ⟨rfl,rfl⟩ | ⟨rfl,rfl,rfl⟩ | ⟨rfl,rfl,rfl⟩;all_goals
  simp only[ri,sg];have yA:=I (bF.out.u.other (j:=w.heap.size+3) (i:=2) (x:=.int .u64 0) (by omega));have wN:=I (bF.out.r.other (j:=w.heap.size+3) (i:=2) (x:=.int .u64 0) (by omega));have AL:=I (bF.out.q.alh (.int .u64 0));have GZ:=I (bF.out.low.setCell (p:=⟨w.heap.size+3,2,J⟩) (by show w.heap.size≤w.heap.size+3;omega) (.int .u64 0));obtain⟨fm,l3⟩:∃fm,gd.setCell ⟨w.heap.size+3,2,J⟩ (.int .u64 0)=fm:=⟨_,rfl⟩;rw[l3] at yA wN AL GZ;obtain⟨b0,bD,cX,dU,e9,hj,kp,l4,kq,iZ⟩:=bF.out.q.cells;go_enter sj,sh;obtain⟨dO,dV,dS,kr,j8,k7,k8,_,_,_,_,_,_,_⟩:=yA.out.cells;obtain⟨jW,s1,s2,jk,h',_,_,_,_,_⟩:=AL.out.cells;obtain⟨cl,bH,cN,fV,ie,k9,la,f0,f1,f2,f3,f4,f5,f6⟩:=wN.out.cells;go_wp2;go_region;go_wp2_with fail;have aA:=(wN.out.set (.int .u8 6) (.int .i64 n) (.int .u64 b) (.string t) (.slice bM bC bN) (.bool ab) (.string ⟨#[]⟩)).drew.cells;have az:=(pd GZ.out (show w.heap.size≤w.heap.size+1 by omega) (.int .u8 6) (.int .i64 n) (.int .u64 b) (.string t) (.slice bM bC bN) (.bool ab) (.string ⟨#[]⟩)).drew;clear dO dV dS kr j8 k7 k8 jW s1 s2 jk h' cl bH cN fV ie k9 la f0 f1 f2 f3 f4 f5 f6 a0 b1 a2 a3 a4 b0 bD cX dU e9 hj kp l4 kq iZ;generalize l5:(iY fm (w.heap.size+1) (.int .u8 6) (.int .i64 n) (.int .u64 b) (.string t) (.slice bM bC bN) (.bool ab) (.string ⟨#[]⟩)).drew=vc at aA az;clear l5;obtain⟨aM,aG,bj,bq,bA,i',ja,_,_,_,_,_,_,_⟩:=aA;first
  | exact bI (v:=.tuple #[.agg #[.int .u8 6,.int .i64 n,.int .u64 b,.string t,.slice bM bC bN,.bool ab,.string ⟨#[]⟩],.bool ab]) (by simp[bK,mN,go_sem,aM,aG,bj,bq,bA,i',ja]) rfl ⟨rfl,az⟩
  | exact bI (v:=.tuple #[.agg #[.int .u8 6,.int .i64 n,.int .u64 b,.string t,.slice bM bC bN,.bool ab,.string ⟨#[]⟩],.bool yz]) (by simp[bK,mN,go_sem,aM,aG,bj,bq,bA,i',ja]) rfl ⟨rfl,az⟩
theorem alk (n b:Int) (t:ByteArray) (bM:Option Addr) (bC bN c:Nat) (w:af) :
 aq ak 14 #[bw 7 n b t (.slice bM bC bN),.int .u8 c] w fun e w'=>e=.returned (.tuple #[hA 7 n b t (.slice bM bC bN) ab ⟨#[]⟩,.bool (au (bC=0∧c=67∧0≤n∧n≤2097151∧b=0∧t.size=0))])∧ah w.heap.size w w':=by
 obtain⟨dQ,qR⟩:∃q,((bC:Int)==0)=q:=⟨_,rfl⟩;obtain⟨e1,sJ⟩:∃q,((c:Int)==67)=q:=⟨_,rfl⟩;obtain⟨Da,alm⟩:∃q,au ((0:Int)≤n)=q:=⟨_,rfl⟩;obtain⟨G0,aln⟩:∃q,au (n≤2097151)=q:=⟨_,rfl⟩;obtain⟨iR,tV⟩:∃q,(b==0)=q:=⟨_,rfl⟩;obtain⟨yz,GY⟩:∃q,t.toList.isEmpty=q:=⟨_,rfl⟩;have bS:au (bC=0∧c=67∧0≤n∧n≤2097151∧b=0∧t.size=0)=(dQ&&(e1&&(Da&&(G0&&(iR&&yz))))):=by
  rw[mg,ij];rw[←qR];rw[←sJ];rw[←alm];rw[←aln];rw[←tV];rw[←GY];try rw[AK]
  simp only[s6,ij,gy];try unfold cJ
  omega
 rw[bS];clear bS;have bF:=I (j6.new w 7 n b t (.slice bM bC bN));obtain⟨gd,iv⟩:∃gd,(((w.alloc (.cells #[.int .u8 7,.int .i64 n,.int .u64 b,.string t,.slice bM bC bN] 28)).alloc (.cells #[.int .u8 0,.int .i64 0,.int .u64 0,.string ⟨#[]⟩,.slice J 0 0,.bool ab,.string ⟨#[]⟩] 48)).alloc (.cells #[.int .u8 7,.int .i64 n,.int .u64 b,.string t,.slice bM bC bN,.bool ab,.string ⟨#[]⟩] 48)).alloc (.cells #[.int .u8 7,.int .i64 n,.int .u64 b,.string t,.slice bM bC bN] 28)=gd:=⟨_,rfl⟩;rw[iv] at bF;unfold bw hA;obtain⟨a0,b1,a2,a3,a4,_,_,_,_,_⟩:=bF.out.l.cells;have key:((dQ=ab)∨(dQ=ai∧e1=ab)∨(dQ=ai∧e1=ai∧Da=ab)∨(dQ=ai∧e1=ai∧Da=ai∧G0=ab)∨(dQ=ai∧e1=ai∧Da=ai∧G0=ai∧iR=ab)∨(dQ=ai∧e1=ai∧Da=ai∧G0=ai∧iR=ai)):=by
  cases dQ<;>cases e1<;>cases Da<;>cases G0<;>cases iR<;>simp
 rcases key with rfl | ⟨rfl,rfl⟩ | ⟨rfl,rfl,rfl⟩ | ⟨rfl,rfl,rfl,rfl⟩ | ⟨rfl,rfl,rfl,rfl,rfl⟩ | ⟨rfl,rfl,rfl,rfl,rfl⟩;all_goals
  simp only[ri,sg];have yA:=I (bF.out.u.other (j:=w.heap.size+3) (i:=1) (x:=.int .i64 0) (by omega));have wN:=I (bF.out.r.other (j:=w.heap.size+3) (i:=1) (x:=.int .i64 0) (by omega));have AL:=I (bF.out.q.KH (.int .i64 0));have GZ:=I (bF.out.low.setCell (p:=⟨w.heap.size+3,1,J⟩) (by show w.heap.size≤w.heap.size+3;omega) (.int .i64 0));obtain⟨fm,l3⟩:∃fm,gd.setCell ⟨w.heap.size+3,1,J⟩ (.int .i64 0)=fm:=⟨_,rfl⟩;rw[l3] at yA wN AL GZ;obtain⟨b0,bD,cX,dU,e9,hj,kp,l4,kq,iZ⟩:=bF.out.q.cells;go_enter sj,sh;obtain⟨dO,dV,dS,kr,j8,k7,k8,_,_,_,_,_,_,_⟩:=yA.out.cells;obtain⟨jW,s1,s2,jk,h',_,_,_,_,_⟩:=AL.out.cells;obtain⟨cl,bH,cN,fV,ie,k9,la,f0,f1,f2,f3,f4,f5,f6⟩:=wN.out.cells;go_wp2;go_region;go_wp2_with fail;have aA:=(wN.out.set (.int .u8 7) (.int .i64 n) (.int .u64 b) (.string t) (.slice bM bC bN) (.bool ab) (.string ⟨#[]⟩)).drew.cells;have az:=(pd GZ.out (show w.heap.size≤w.heap.size+1 by omega) (.int .u8 7) (.int .i64 n) (.int .u64 b) (.string t) (.slice bM bC bN) (.bool ab) (.string ⟨#[]⟩)).drew;clear dO dV dS kr j8 k7 k8 jW s1 s2 jk h' cl bH cN fV ie k9 la f0 f1 f2 f3 f4 f5 f6 a0 b1 a2 a3 a4 b0 bD cX dU e9 hj kp l4 kq iZ;generalize l5:(iY fm (w.heap.size+1) (.int .u8 7) (.int .i64 n) (.int .u64 b) (.string t) (.slice bM bC bN) (.bool ab) (.string ⟨#[]⟩)).drew=vc at aA az;clear l5;obtain⟨aM,aG,bj,bq,bA,i',ja,_,_,_,_,_,_,_⟩:=aA;first
  | exact bI (v:=.tuple #[.agg #[.int .u8 7,.int .i64 n,.int .u64 b,.string t,.slice bM bC bN,.bool ab,.string ⟨#[]⟩],.bool ab]) (by simp[bK,mN,go_sem,aM,aG,bj,bq,bA,i',ja]) rfl ⟨rfl,az⟩
  | exact bI (v:=.tuple #[.agg #[.int .u8 7,.int .i64 n,.int .u64 b,.string t,.slice bM bC bN,.bool ab,.string ⟨#[]⟩],.bool yz]) (by simp[bK,mN,go_sem,aM,aG,bj,bq,bA,i',ja]) rfl ⟨rfl,az⟩
theorem alo (k n b:Int) (t:ByteArray) (bM:Option Addr) (bC bN c:Nat) (w:af) (bQ:(k==4)=ab) (dm:(k==5)=ab) (ga:(k==6)=ab) (iL:(k==7)=ab) (jn:(k==8)=ab) (fe:(k==9)=ab) :
 aq ak 14 #[bw k n b t (.slice bM bC bN),.int .u8 c] w fun e w'=>e=.returned (.tuple #[hA 0 0 0 ⟨#[]⟩ (.slice J 0 0) ab ⟨#[]⟩,.bool ab])∧ah w.heap.size w w':=by
 have bF:=I (j6.new w k n b t (.slice bM bC bN));obtain⟨gd,iv⟩:∃gd,(((w.alloc (.cells #[.int .u8 k,.int .i64 n,.int .u64 b,.string t,.slice bM bC bN] 28)).alloc (.cells #[.int .u8 0,.int .i64 0,.int .u64 0,.string ⟨#[]⟩,.slice J 0 0,.bool ab,.string ⟨#[]⟩] 48)).alloc (.cells #[.int .u8 k,.int .i64 n,.int .u64 b,.string t,.slice bM bC bN,.bool ab,.string ⟨#[]⟩] 48)).alloc (.cells #[.int .u8 k,.int .i64 n,.int .u64 b,.string t,.slice bM bC bN] 28)=gd:=⟨_,rfl⟩;rw[iv] at bF;unfold bw hA;obtain⟨a0,b1,a2,a3,a4,_,_,_,_,_⟩:=bF.out.l.cells;obtain⟨cl,bH,cN,fV,ie,k9,la,f0,f1,f2,f3,f4,f5,f6⟩:=bF.out.r.cells;go_enter sj,sh;go_wp2_with fail;have aA:=(bF.out.r.set (.int .u8 0) (.int .i64 0) (.int .u64 0) (.string ⟨#[]⟩) (.slice J 0 0) (.bool ab) (.string ⟨#[]⟩)).cells;have az:=pd bF.out.low (show w.heap.size≤w.heap.size+1 by omega) (.int .u8 0) (.int .i64 0) (.int .u64 0) (.string ⟨#[]⟩) (.slice J 0 0) (.bool ab) (.string ⟨#[]⟩);clear cl bH cN fV ie k9 la f0 f1 f2 f3 f4 f5 f6 a0 b1 a2 a3 a4;obtain⟨aM,aG,bj,bq,bA,i',ja,_,_,_,_,_,_,_⟩:=aA;exact bI (v:=.tuple #[.agg #[.int .u8 0,.int .i64 0,.int .u64 0,.string ⟨#[]⟩,.slice J 0 0,.bool ab,.string ⟨#[]⟩],.bool ab]) (by simp[bK,mN,go_sem,aM,aG,bj,bq,bA,i',ja]) rfl ⟨rfl,az⟩
end Go.Proofs.YtkhphoonnkoipaaGreatDoor
namespace Go.Proofs.YtkhphoonnkoipaaGreatDoor
open Go Go.RowKit Go.Lib
open Go.Maps (Keyed)
def pe (v:aw):Option (DataW aw×List MemPlace):=U (.held v,[])
def sE:List (Int×aw)→DataW aw
 | []=>.map []
 | p::L=>(sE L).put (.int .i64 p.1) (.held p.2)
def db:List (Int×aw)→Int→Option aw
 | [],_=>J
 | p::L,k=>if p.1=k then U p.2 else db L k
theorem Yt:∀L,Go.Maps.IsMap (sE L)
 | []=>⟨_,rfl⟩
 | p::L=>by
   obtain⟨es,h⟩:=Yt L;unfold sE;rw[h];exact⟨_,rfl⟩
theorem AE:∀(L:List (Int×aw)) (k:Int) (z:DataW aw),(sE L).atKey (.int .i64 k) z=match db L k with | some v=>.held v | none=>z
 | [],_,_=>rfl
 | p::L,k,z=>by
   unfold sE db;by_cases h:p.1=k
   ·rw[ba h,h];exact Go.Maps.atKey_put_same (Yt L) (by simp[WideAt.IsKeyLit]) _ _
   ·rw[aU h,Go.Maps.atKey_put_other (by intro e;injection e with _ e;exact h e.symm)];exact AE L k z
def eR (w:af) (b:Nat) (L:List (Int×aw)):Prop:=w.ownsMap ak 3 pe b L.length (sE L)
theorem eR.kept {w w':af} {b:Nat} {L:List (Int×aw)} {row:Option Nat} (h:eR w b L) (aY:w.grownBy w' row) (dT:U b≠row):eR w' b L:=World.ownsMap.kept h aY dT
theorem eR.lt {w:af} {b:Nat} {L:List (Int×aw)} (h:eR w b L):b<w.heap.size:=World.ownsMap.lt h
theorem eR.new (w:af):eR (w.alloc (.map #[] 0)) w.heap.size []:=World.ownsMap_made w ak 3 pe
theorem eR.below {w w':af} {b B:Nat} {L:List (Int×aw)} (h:eR w b L) (ad:ah B w w') (az:b<B):eR w' b L:=by
 obtain⟨es,clock,aa,r⟩:=h;exact⟨es,clock,by rw[ad.block _ az];exact aa,r⟩
theorem eR.setCell {w:af} {b:Nat} {L:List (Int×aw)} (h:eR w b L) {a:Addr} (aS:b≠a.block) (u:aw):eR (w.setCell a u) b L:=World.ownsMap.setCell h aS u
theorem Yu {k:Int} (h:-1000000≤k∧k≤1000000):(Lit.int .i64 k).wf=ai:=by
 have aa:IntKind.i64.min = -9223372036854775808:=rfl;have ae:IntKind.i64.max=9223372036854775807:=rfl;simp[Lit.wf,aa,ae];omega
theorem hO (w:af) {ops:Array Oper} {rest:List Oper} {a7:Oper} {a:Act} {Q:Exit→Act→af→Prop}
 (aY:a7.guard=J) (m x v:Operand) (t e:TypeId) (GG:a7.op=Op.mapUpdate t m x v∨a7.op=Op.insert t m x v) (bn:prog.underlying t=U (.map 3 e)) (b:Nat) (L:List (Int×aw))
 (hm:a.eval m=.map (U b)) (dq:eR w b L) (aB:L.length<1000) (k:Int) (val:aw) (hx:a.eval x=.int .i64 k) (aD:a.eval v=val) (aA:-1000000≤k∧k≤1000000)
 (hK:∀w',eR w' b ((k,val)::L)→w.grownBy w' (U b)→wpList ak ops Q rest (a.put a7.dst undef) w'):wpList ak ops Q (a7::rest) a w:=by
 refine wpList_plain aY fun aw2 Yv=>?_;obtain⟨w',oi,bH,cN⟩:=World.ownsMap.update dq (zn hG) bn (cv aB (by unfold maxLen;decide)) (NC hG (Yu aA)) (show pe val=U (.held val,[]) from rfl);unfold Oper.wp;rcases GG with GG | GG
 ·simp[execOp,GG,hm,hx,aD,oi,Result.andThen];exact Yv _ _ (hK w' bH cN)
 ·simp[execOp,GG,hm,hx,aD,oi,Result.andThen];exact Yv _ _ (hK w' bH cN)
theorem look_ok {w:af} {b:Nat} {L:List (Int×aw)} (h:eR w b L) {t e:TypeId} (bn:prog.underlying t=U (.map 3 e)) {z:aw} (aX:(zeroValue e).run ak w=.ok z w) (k:Int) (aA:-1000000≤k∧k≤1000000) :
 (Instr.lookup t (.map (U b)) (.int .i64 k) ai).run ak w=.ok (match db L k with | some v=>.tuple #[v,.bool ai] | none=>.tuple #[z,.bool ab]) w:=by
 obtain⟨es,clock,ad,F,_,dz⟩:=h;rcases Maps.fit_look ai (zn hG) bn aX ad F (NC hG (Yu aA))with ⟨oi,_,gM⟩ | ⟨ck,y,_,_,oi,wG,gM,_⟩
 ·rw[oi];rw[←dz] at gM;have aa:=gM (.lit (.bool ai));rw[AE] at aa;cases ao:db L k with
  | none=>rfl
  | some v=>rw[ao] at aa;cases aa
 ·rw[oi];rw[←dz] at gM;have aa:=gM (.lit (.bool ai));rw[AE] at aa;have ae:y.1=.held ck.val:=by
   unfold pe at wG;injection wG with wG;rw[←wG]
  cases ao:db L k with
  | none=>rw[ao,ae] at aa;cases aa
  | some v=>
    rw[ao,ae] at aa;injection aa with aa;rw[aa];rfl
end Go.Proofs.YtkhphoonnkoipaaGreatDoor
namespace Go.Proofs.YtkhphoonnkoipaaGreatDoor
def cS (s:ByteArray) (f:aw):aw:=.agg #[.string s,f]
def yo:List (Int×aw):=[(84,cS ⟨#[67]⟩ (.func (.func 120) #[] #[])),(83,cS ⟨#[67,67]⟩ (.func (.func 119) #[] #[])),(82,cS ⟨#[76]⟩ (.func (.func 118) #[] #[])),(81,cS ⟨#[67]⟩ (.func (.func 117) #[] #[])),(72,cS ⟨#[83]⟩ (.func (.func 115) #[] #[])),(71,cS ⟨#[83]⟩ (.func (.func 113) #[] #[])),(70,cS ⟨#[83]⟩ (.func (.func 111) #[] #[])),(69,cS ⟨#[83,67]⟩ (.func (.func 109) #[] #[])),(68,cS ⟨#[83,76,76]⟩ (.func (.func 108) #[] #[])),(67,cS ⟨#[89]⟩ (.func (.func 107) #[] #[])),(66,cS ⟨#[83]⟩ (.func (.func 106) #[] #[])),(65,cS ⟨#[83,83]⟩ (.func (.func 104) #[] #[])),(64,cS ⟨#[83,83]⟩ (.func (.func 103) #[] #[])),(63,cS ⟨#[83,83]⟩ (.func (.func 102) #[] #[])),(62,cS ⟨#[83]⟩ (.func (.func 101) #[] #[])),(61,cS ⟨#[83,76]⟩ (.func (.func 100) #[] #[]))]
theorem akc (b:Nat) (L:List (Int×aw)) (w:af) (h:eR w b L) (hH:L.length≤500) :
 aq ak 49 #[.map (U b)] w fun e w'=>e=.returned (.tuple #[])∧eR w' b (yo++L)∧w.grownBy w' (U b):=by
 have iu:=h;have br:=World.grownBy.refl w (U b);clear h;go_enter func49,ntmps49;go_wp2_with (at_mapUpdate;refine hO _ rfl (.tmp 2) (.const (.int .i64 61)) (.tmp 3) 42 40 (.inl rfl) hl b _ rfl iu (by first | omega | (simp only[ch];omega)) 61 (cS ⟨#[83,76]⟩ (.func (.func 100) #[] #[])) rfl rfl (by omega) ?_);intro cq jl b4;have gm:=br.andThen b4 (fun _ e=>.inr e);clear b4 iu br;go_wp2_with (at_mapUpdate;refine hO _ rfl (.tmp 4) (.const (.int .i64 62)) (.tmp 5) 42 40 (.inl rfl) hl b _ rfl jl (by first | omega | (simp only[ch];omega)) 62 (cS ⟨#[83]⟩ (.func (.func 101) #[] #[])) rfl rfl (by omega) ?_);intro aP hd b4;have gJ:=gm.andThen b4 (fun _ e=>.inr e);clear b4 jl gm;go_wp2_with (at_mapUpdate;refine hO _ rfl (.tmp 6) (.const (.int .i64 63)) (.tmp 7) 42 40 (.inl rfl) hl b _ rfl hd (by first | omega | (simp only[ch];omega)) 63 (cS ⟨#[83,83]⟩ (.func (.func 102) #[] #[])) rfl rfl (by omega) ?_);intro cc pU b4;have tP:=gJ.andThen b4 (fun _ e=>.inr e);clear b4 hd gJ;go_wp2_with (at_mapUpdate;refine hO _ rfl (.tmp 8) (.const (.int .i64 64)) (.tmp 9) 42 40 (.inl rfl) hl b _ rfl pU (by first | omega | (simp only[ch];omega)) 64 (cS ⟨#[83,83]⟩ (.func (.func 103) #[] #[])) rfl rfl (by omega) ?_);intro aQ yp b4;have v7:=tP.andThen b4 (fun _ e=>.inr e);clear b4 pU tP;go_wp2_with (at_mapUpdate;refine hO _ rfl (.tmp 10) (.const (.int .i64 65)) (.tmp 11) 42 40 (.inl rfl) hl b _ rfl yp (by first | omega | (simp only[ch];omega)) 65 (cS ⟨#[83,83]⟩ (.func (.func 104) #[] #[])) rfl rfl (by omega) ?_);intro cf CT b4;have Yw:=v7.andThen b4 (fun _ e=>.inr e);clear b4 yp v7;go_wp2_with (at_mapUpdate;refine hO _ rfl (.tmp 12) (.const (.int .i64 66)) (.tmp 13) 42 40 (.inl rfl) hl b _ rfl CT (by first | omega | (simp only[ch];omega)) 66 (cS ⟨#[83]⟩ (.func (.func 106) #[] #[])) rfl rfl (by omega) ?_);intro cw u9 b4;have qH:=Yw.andThen b4 (fun _ e=>.inr e);clear b4 CT Yw;go_wp2_with (at_mapUpdate;refine hO _ rfl (.tmp 14) (.const (.int .i64 67)) (.tmp 15) 42 40 (.inl rfl) hl b _ rfl u9 (by first | omega | (simp only[ch];omega)) 67 (cS ⟨#[89]⟩ (.func (.func 107) #[] #[])) rfl rfl (by omega) ?_);intro fb yq b4;have oe:=qH.andThen b4 (fun _ e=>.inr e);clear b4 u9 qH;go_wp2_with (at_mapUpdate;refine hO _ rfl (.tmp 16) (.const (.int .i64 68)) (.tmp 17) 42 40 (.inl rfl) hl b _ rfl yq (by first | omega | (simp only[ch];omega)) 68 (cS ⟨#[83,76,76]⟩ (.func (.func 108) #[] #[])) rfl rfl (by omega) ?_);intro hM qI b4;have oj:=oe.andThen b4 (fun _ e=>.inr e);clear b4 yq oe;go_wp2_with (at_mapUpdate;refine hO _ rfl (.tmp 18) (.const (.int .i64 69)) (.tmp 19) 42 40 (.inl rfl) hl b _ rfl qI (by first | omega | (simp only[ch];omega)) 69 (cS ⟨#[83,67]⟩ (.func (.func 109) #[] #[])) rfl rfl (by omega) ?_);intro yr C1 b4;have C2:=oj.andThen b4 (fun _ e=>.inr e);clear b4 qI oj;go_wp2_with (at_mapUpdate;refine hO _ rfl (.tmp 20) (.const (.int .i64 70)) (.tmp 21) 42 40 (.inl rfl) hl b _ rfl C1 (by first | omega | (simp only[ch];omega)) 70 (cS ⟨#[83]⟩ (.func (.func 111) #[] #[])) rfl rfl (by omega) ?_);intro qJ Yx b4;have Yy:=C2.andThen b4 (fun _ e=>.inr e);clear b4 C1 C2;go_wp2_with (at_mapUpdate;refine hO _ rfl (.tmp 22) (.const (.int .i64 71)) (.tmp 23) 42 40 (.inl rfl) hl b _ rfl Yx (by first | omega | (simp only[ch];omega)) 71 (cS ⟨#[83]⟩ (.func (.func 113) #[] #[])) rfl rfl (by omega) ?_);intro C3 Yz b4;have YA:=Yy.andThen b4 (fun _ e=>.inr e);clear b4 Yx Yy;go_wp2_with (at_mapUpdate;refine hO _ rfl (.tmp 24) (.const (.int .i64 72)) (.tmp 25) 42 40 (.inl rfl) hl b _ rfl Yz (by first | omega | (simp only[ch];omega)) 72 (cS ⟨#[83]⟩ (.func (.func 115) #[] #[])) rfl rfl (by omega) ?_);intro GH YB b4;have YC:=YA.andThen b4 (fun _ e=>.inr e);clear b4 Yz YA;go_wp2_with (at_mapUpdate;refine hO _ rfl (.tmp 26) (.const (.int .i64 81)) (.tmp 27) 42 40 (.inl rfl) hl b _ rfl YB (by first | omega | (simp only[ch];omega)) 81 (cS ⟨#[67]⟩ (.func (.func 117) #[] #[])) rfl rfl (by omega) ?_);intro YD YE b4;have YF:=YC.andThen b4 (fun _ e=>.inr e);clear b4 YB YC;go_wp2_with (at_mapUpdate;refine hO _ rfl (.tmp 28) (.const (.int .i64 82)) (.tmp 29) 42 40 (.inl rfl) hl b _ rfl YE (by first | omega | (simp only[ch];omega)) 82 (cS ⟨#[76]⟩ (.func (.func 118) #[] #[])) rfl rfl (by omega) ?_);intro RQ YG b4;have YH:=YF.andThen b4 (fun _ e=>.inr e);clear b4 YE YF;go_wp2_with (at_mapUpdate;refine hO _ rfl (.tmp 30) (.const (.int .i64 83)) (.tmp 31) 42 40 (.inl rfl) hl b _ rfl YG (by first | omega | (simp only[ch];omega)) 83 (cS ⟨#[67,67]⟩ (.func (.func 119) #[] #[])) rfl rfl (by omega) ?_);intro aw3 YI b4;have YJ:=YH.andThen b4 (fun _ e=>.inr e);clear b4 YG YH;go_wp2_with (at_mapUpdate;refine hO _ rfl (.tmp 32) (.const (.int .i64 84)) (.tmp 33) 42 40 (.inl rfl) hl b _ rfl YI (by first | omega | (simp only[ch];omega)) 84 (cS ⟨#[67]⟩ (.func (.func 120) #[] #[])) rfl rfl (by omega) ?_);intro aw4 akd b4;have ake:=YJ.andThen b4 (fun _ e=>.inr e);clear b4 YI YJ;go_wp2;go_end0;exact⟨rfl,akd,ake⟩
def C4 (w:af) (b:Nat) (S:List (Nat×Nat)):Prop:=∀x ∈ S,w.cell? ⟨x.2,0,J⟩=U (.func (.func x.1) #[] #[])∧x.2<w.heap.size∧x.2≠b
theorem C4.kept {w w':af} {b:Nat} {S:List (Nat×Nat)} (h:C4 w b S) (aY:w.grownBy w' (U b)):C4 w' b S:=fun x hx=>by
 obtain⟨aa,ae,aJ⟩:=h x hx;refine⟨?_,cv ae aY.size,aJ⟩;rw[uy (w:=w) (aY.block x.2 ae (by intro e;injection e with e;exact aJ e))];exact aa
def pV (p:Nat):aw:=cS ⟨#[73,73]⟩ (.func (.func 17) #[] #[.pointer (U ⟨p,0,J⟩)])
theorem sF (n:Int) (f b gl:Nat) (L:List (Int×aw)) (S:List (Nat×Nat)) (w:af) (h:eR w b L) (hH:L.length≤500) (cP:C4 w b S) (aB:-1000≤n∧n≤1000) (an:w.cell? ⟨gl,0,J⟩=U (.map (U b))) (yh:gl<w.heap.size) (dT:gl≠b) :
 aq ak 16 #[.int .i64 n,.func (.func f) #[] #[],.pointer (U ⟨gl,0,J⟩)] w fun e w'=>e=.returned (.tuple #[])∧∃p,eR w' b ((n,pV p)::L)∧C4 w' b ((f,p)::S)∧w.grownBy w' (U b)∧w'.cell? ⟨gl,0,J⟩=U (.map (U b))∧gl<w'.heap.size:=by
 obtain⟨T,ag,a6,YK,dH,gm⟩:∃(T:TypeId) (ag:af),w.alloc (.cells #[.func (.func f) #[] #[]] 52)=ag∧ag.cell? ⟨w.heap.size,0,J⟩=U (.func (.func f) #[] #[])∧ag.heap.size=w.heap.size+1∧w.grownBy ag (U b):=
  ⟨0,_,rfl,by simp,by simp,h1 w _ _⟩
 have k1:=h.lt;have aa:eR ag b L:=h.kept (h1 w _ J |> fun q=>a6 ▸ q) (by simp);have YL:=cP.kept gm;have iN:ag.cell? ⟨gl,0,J⟩=U (.map (U b)):=by
  rw[uy (w:=w) (gm.block gl yh (by intro e;injection e with e;exact dT e))];exact an
 have rG:=I YL;have akf:=I gm;have akg:=I YK;have zZ:=I iN;clear h cP YL gm YK;go_enter func16,ntmps16;go_wp2_with (at_mapUpdate;refine hO _ rfl (.tmp 5) (.tmp 6) (.tmp 8) 42 40 (.inl rfl) hl b _ rfl aa (by omega) n (pV w.heap.size) rfl rfl (by omega) ?_);intro aP hd gJ;have aY:=akf.out.andThen gJ (fun _ e=>.inr e);have om:=rG.out.kept gJ;have RR:aP.cell? ⟨w.heap.size,0,J⟩=U (.func (.func f) #[] #[]):=by
  rw[uy (w:=ag) (gJ.block w.heap.size (by omega) (by intro e;injection e with e;omega))];exact akg.out
 have mu:aP.cell? ⟨gl,0,J⟩=U (.map (U b)):=by
  rw[uy (w:=ag) (gJ.block gl (by omega) (by intro e;injection e with e;exact dT e))];exact zZ.out
 have dY:=gJ.size;go_wp2;go_end0;refine⟨rfl,w.heap.size,hd,fun x hx=>?_,aY,mu,by omega⟩;rcases List.mem_cons.1 hx with rfl | hx
 ·exact⟨RR,by show w.heap.size<_;omega,by show w.heap.size≠b;omega⟩
 ·exact om x hx
structure bB where
 k:Int
 n:Int
 b:Int
 t:ByteArray
 v:aw
 g:Bool
 s:ByteArray
def bB.cells (x:bB):List aw:=[.int .u8 x.k,.int .i64 x.n,.int .u64 x.b,.string x.t,x.v,.bool x.g,.string x.s]
def e2 (w:af) (v:aw) (l:List bB):Prop:=∃g cap,v=.slice (U ⟨g,0,J⟩) l.length cap∧g<w.heap.size∧∀(i:Nat) (x:bB),l[i]? = U x→∀(j:Nat) (u:aw),x.cells[j]? = U u→w.cell? ⟨g,i*7+j,J⟩=U u
theorem e2.below {w w':af} {v:aw} {l:List bB} (h:e2 w v l) (ad:ah w.heap.size w w'):e2 w' v l:=by
 obtain⟨g,cap,aa,ae,aJ⟩:=h;exact⟨g,cap,aa,cv ae ad.size,fun i x hx j u hu=>by rw[ad.cell (p:=⟨g,i*7+j,J⟩) ae];exact aJ i x hx j u hu⟩
def ek (w:af) (l:aw) (is:Bool) (e:Ending) (w':af):Prop:=e=.returned (.tuple #[l,.bool is])∧ah w.heap.size w w'
theorem aj8 (x:bB) (v:aw) (w:af) (h:e2 w v [x])  :
 aq ak 101 #[v] w (ek w (bw 4 x.t.size 0 ⟨#[]⟩ (.slice J 0 0)) ai):=by
 obtain⟨ag,a6⟩:∃ag,w.alloc (.cells #[.int .u8 0,.int .i64 0,.int .u64 0,.string ⟨#[]⟩,.slice J 0 0] 28)=ag:=⟨_,rfl⟩;have aO:aj (bk ag w.heap.size (.int .u8 0) (.int .i64 0) (.int .u64 0) (.string ⟨#[]⟩) (.slice J 0 0)):=I (by rw[←a6];exact bk.new _ _ _ _ _ _);have ay:aj (ah w.heap.size w ag):=I (by rw[←a6];exact (aK _ _).alloc (aC _) _);obtain⟨al,gL,rfl,br,bT⟩:=h;have an:∀(i:Nat) (q:bB),[x][i]? = U q→∀(j:Nat) (u:aw),q.cells[j]? = U u→ag.cell? ⟨al,i*7+j,J⟩=U u:=fun i q aE j u hu=>by rw[ay.out.cell (p:=⟨al,i*7+j,J⟩) br];exact bT i q aE j u hu
 have aY:=cv br ay.out.size;obtain⟨c0,c1,c2,c3,c4,f0,f1,f2,f3,f4⟩:=aO.out.cells;have oh:ag.cell? ⟨al,1,J⟩=_:=an 0 _ rfl 1 _ rfl;have jT:ag.cell? ⟨al,3,J⟩=_:=an 0 _ rfl 3 _ rfl;clear an bT;simp only[ch,du] at *;have cR:=I (fun W=>CZ (x.t.size:Int) W);unfold bw at cR;go_enter func101,ntmps101;go_wp2_with fail;refine (cR.out _).mono ?_;rintro e aP ⟨rfl,bg⟩;have c8:=I (aO.out.below bg);have bL:=I (ay.out.trans (bg.mono (by have:=aO.out.lt;omega)));clear c0 c1 c2 c3 c4 f0 f1 f2 f3 f4;obtain⟨c0,c1,c2,c3,c4,f0,f1,f2,f3,f4⟩:=c8.out.cells;go_wp2_with fail;obtain⟨aM,aG,bj,bq,bA,_,_,_,_,_⟩:=(c8.out.set (.int .u8 4) (.int .i64 x.t.size) (.int .u64 0) (.string ⟨#[]⟩) (.slice J 0 0)).cells;exact bI (v:=.tuple #[.agg #[.int .u8 4,.int .i64 x.t.size,.int .u64 0,.string ⟨#[]⟩,.slice J 0 0],.bool ai]) (by simp[bK,results101,go_sem,aM,aG,bj,bq,bA]) rfl ⟨rfl,dG bL.out (aC _) _ _ _ _ _⟩
theorem aj9 (x:bB) (v:aw) (w:af) (h:e2 w v [x])  :
 aq ak 106 #[v] w (ek w (bw 9 0 0 x.t (.slice J 0 0)) ai):=by
 obtain⟨ag,a6⟩:∃ag,w.alloc (.cells #[.int .u8 0,.int .i64 0,.int .u64 0,.string ⟨#[]⟩,.slice J 0 0] 28)=ag:=⟨_,rfl⟩;have aO:aj (bk ag w.heap.size (.int .u8 0) (.int .i64 0) (.int .u64 0) (.string ⟨#[]⟩) (.slice J 0 0)):=I (by rw[←a6];exact bk.new _ _ _ _ _ _);have ay:aj (ah w.heap.size w ag):=I (by rw[←a6];exact (aK _ _).alloc (aC _) _);obtain⟨al,gL,rfl,br,bT⟩:=h;have an:∀(i:Nat) (q:bB),[x][i]? = U q→∀(j:Nat) (u:aw),q.cells[j]? = U u→ag.cell? ⟨al,i*7+j,J⟩=U u:=fun i q aE j u hu=>by rw[ay.out.cell (p:=⟨al,i*7+j,J⟩) br];exact bT i q aE j u hu
 have aY:=cv br ay.out.size;obtain⟨c0,c1,c2,c3,c4,f0,f1,f2,f3,f4⟩:=aO.out.cells;have oh:ag.cell? ⟨al,1,J⟩=_:=an 0 _ rfl 1 _ rfl;have jT:ag.cell? ⟨al,3,J⟩=_:=an 0 _ rfl 3 _ rfl;clear an bT;simp only[ch,du] at *;go_enter func106,ntmps106;go_wp2_with fail;obtain⟨aM,aG,bj,bq,bA,_,_,_,_,_⟩:=(aO.out.set (.int .u8 9) (.int .i64 0) (.int .u64 0) (.string x.t) (.slice J 0 0)).cells;exact bI (v:=.tuple #[.agg #[.int .u8 9,.int .i64 0,.int .u64 0,.string x.t,.slice J 0 0],.bool ai]) (by simp[bK,results106,go_sem,aM,aG,bj,bq,bA]) rfl ⟨rfl,dG ay.out (aC _) _ _ _ _ _⟩
theorem aj' (x:bB) (v:aw) (w:af) (h:e2 w v [x]) (a1:x.t.size≤65536) :
 aq ak 107 #[v] w (ek w (bw 8 0 0 x.t (.slice J 0 0)) ai):=by
 obtain⟨ag,a6⟩:∃ag,w.alloc (.cells #[.int .u8 0,.int .i64 0,.int .u64 0,.string ⟨#[]⟩,.slice J 0 0] 28)=ag:=⟨_,rfl⟩;have aO:aj (bk ag w.heap.size (.int .u8 0) (.int .i64 0) (.int .u64 0) (.string ⟨#[]⟩) (.slice J 0 0)):=I (by rw[←a6];exact bk.new _ _ _ _ _ _);have ay:aj (ah w.heap.size w ag):=I (by rw[←a6];exact (aK _ _).alloc (aC _) _);obtain⟨al,gL,rfl,br,bT⟩:=h;have an:∀(i:Nat) (q:bB),[x][i]? = U q→∀(j:Nat) (u:aw),q.cells[j]? = U u→ag.cell? ⟨al,i*7+j,J⟩=U u:=fun i q aE j u hu=>by rw[ay.out.cell (p:=⟨al,i*7+j,J⟩) br];exact bT i q aE j u hu
 have aY:=cv br ay.out.size;obtain⟨c0,c1,c2,c3,c4,f0,f1,f2,f3,f4⟩:=aO.out.cells;have oh:ag.cell? ⟨al,1,J⟩=_:=an 0 _ rfl 1 _ rfl;have jT:ag.cell? ⟨al,3,J⟩=_:=an 0 _ rfl 3 _ rfl;clear an bT;simp only[ch,du] at *;have cR:=I (fun W=>C0 x.t W a1);unfold bw at cR;go_enter func107,ntmps107;go_wp2_with fail;refine (cR.out _).mono ?_;rintro e aP ⟨rfl,bg⟩;have c8:=I (aO.out.below bg);have bL:=I (ay.out.trans (bg.mono (by have:=aO.out.lt;omega)));clear c0 c1 c2 c3 c4 f0 f1 f2 f3 f4;obtain⟨c0,c1,c2,c3,c4,f0,f1,f2,f3,f4⟩:=c8.out.cells;go_wp2_with fail;obtain⟨aM,aG,bj,bq,bA,_,_,_,_,_⟩:=(c8.out.set (.int .u8 8) (.int .i64 0) (.int .u64 0) (.string x.t) (.slice J 0 0)).cells;exact bI (v:=.tuple #[.agg #[.int .u8 8,.int .i64 0,.int .u64 0,.string x.t,.slice J 0 0],.bool ai]) (by simp[bK,results107,go_sem,aM,aG,bj,bq,bA]) rfl ⟨rfl,dG bL.out (aC _) _ _ _ _ _⟩
theorem aka (x y:bB) (v:aw) (w:af) (h:e2 w v [x,y]) (a1:(x.t++y.t).size≤65536) :
 aq ak 102 #[v] w (ek w (bw 8 0 0 (x.t++y.t) (.slice J 0 0)) ai):=by
 obtain⟨ag,a6⟩:∃ag,w.alloc (.cells #[.int .u8 0,.int .i64 0,.int .u64 0,.string ⟨#[]⟩,.slice J 0 0] 28)=ag:=⟨_,rfl⟩;have aO:aj (bk ag w.heap.size (.int .u8 0) (.int .i64 0) (.int .u64 0) (.string ⟨#[]⟩) (.slice J 0 0)):=I (by rw[←a6];exact bk.new _ _ _ _ _ _);have ay:aj (ah w.heap.size w ag):=I (by rw[←a6];exact (aK _ _).alloc (aC _) _);obtain⟨al,gL,rfl,br,bT⟩:=h;have an:∀(i:Nat) (q:bB),[x,y][i]? = U q→∀(j:Nat) (u:aw),q.cells[j]? = U u→ag.cell? ⟨al,i*7+j,J⟩=U u:=fun i q aE j u hu=>by rw[ay.out.cell (p:=⟨al,i*7+j,J⟩) br];exact bT i q aE j u hu
 have aY:=cv br ay.out.size;obtain⟨c0,c1,c2,c3,c4,f0,f1,f2,f3,f4⟩:=aO.out.cells;have oh:ag.cell? ⟨al,1,J⟩=_:=an 0 _ rfl 1 _ rfl;have jT:ag.cell? ⟨al,3,J⟩=_:=an 0 _ rfl 3 _ rfl;have km:ag.cell? ⟨al,8,J⟩=_:=an 1 _ rfl 1 _ rfl;have qF:ag.cell? ⟨al,10,J⟩=_:=an 1 _ rfl 3 _ rfl;clear an bT;simp only[ch,du] at *;have cR:=I (fun W=>C0 (x.t++y.t) W a1);unfold bw at cR;have qn:Op.stringOp .add x.t y.t=pure (.string (x.t++y.t)):=by
  rw[Ny] at a1;have yn:IntKind.i64.max=9223372036854775807:=rfl;unfold Op.stringOp;simp only;rw[aU (by rw[yn];omega)]
 go_enter Py,ntmps102;go_wp2_with fail;have dh:∀(W:af) (i:Nat) (u a b c d e:aw),W.cell? ⟨al,i,J⟩=U u→(cC W w.heap.size a b c d e).cell? ⟨al,i,J⟩=U u:=fun W i u a b c d e hu=>by
  unfold cC;rw[b7 _ _ _ _ (by intro q;injection q with q;omega),b7 _ _ _ _ (by intro q;injection q with q;omega),b7 _ _ _ _ (by intro q;injection q with q;omega),b7 _ _ _ _ (by intro q;injection q with q;omega),b7 _ _ _ _ (by intro q;injection q with q;omega)];exact hu
 have aN:aj (∀W,ah ag.heap.size ag W→W.cell? ⟨al,3,J⟩=U (.string x.t)∧W.cell? ⟨al,10,J⟩=U (.string y.t)):=I (fun W ad=>⟨by rw[ad.cell (p:=⟨al,3,J⟩) aY];exact jT,by rw[ad.cell (p:=⟨al,10,J⟩) aY];exact qF⟩);have e3:aj (∀W,ah ag.heap.size ag W→∀a b c d e,(cC W w.heap.size a b c d e).cell? ⟨al,3,J⟩=U (.string x.t)∧(cC W w.heap.size a b c d e).cell? ⟨al,10,J⟩=U (.string y.t)):=I (fun W ad a b c d e=>⟨dh W 3 _ a b c d e (aN.out W ad).1,dh W 10 _ a b c d e (aN.out W ad).2⟩);have cU:=I (show ah ag.heap.size ag ag.drew from (aK _ ag).drew);clear dh;unfold cC at e3;go_region_held3 (fun W=>W.cell? ⟨al,3,J⟩=U (.string x.t)∧W.cell? ⟨al,10,J⟩=U (.string y.t)) (first | with_reducible exact⟨jT,qF⟩ | with_reducible exact aN.out _ cU.out | with_reducible exact aN.out _ bg | with_reducible exact e3.out _ bg _ _ _ _ _) ((go_at_call 44;(with_reducible refine (cR.out _).mono ?_);rintro e aP ⟨rfl,j7⟩;have bg:ah ag.heap.size ag aP:=(cU.out).trans j7;clear j7;have c8:=I (aO.out.below bg);have bL:=I (ay.out.trans (bg.mono (by have:=aO.out.lt;omega)));obtain⟨d0,d1,d2,d3,d4,ck,aH,aT,b8,eb⟩:=c8.out.cells));all_goals
  go_wp2_with fail;obtain⟨aM,aG,bj,bq,bA,_,_,_,_,_⟩:=(c8.out.set (.int .u8 8) (.int .i64 0) (.int .u64 0) (.string (x.t++y.t)) (.slice J 0 0)).cells;exact bI (v:=.tuple #[.agg #[.int .u8 8,.int .i64 0,.int .u64 0,.string (x.t++y.t),.slice J 0 0],.bool ai]) (by simp[bK,results102,go_sem,aM,aG,bj,bq,bA]) rfl ⟨rfl,dG bL.out (aC _) _ _ _ _ _⟩
end Go.Proofs.YtkhphoonnkoipaaGreatDoor
