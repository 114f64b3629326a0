/- How many values a primitive has: the contract of Arity. The law's own literals; what comes out of Do (printed by gen_lsm.py). The primitives of strings done: Do at 61, 62, 63, 66, 67, 68. Sums and differences of large numbers: the contracts of Add, Sub (printed by gen_nas.py). Whole numbers done: Do at 1, 2, 10; Arity at 68, 0. What the primitives 20, 56, 70, 71 do, given what they call (printed by gen_cle.py). -/
import Derived.Test.YtlodbibagmblkaaGreatDoorTaar
import Derived.Test.YtlodbibagmblkaaGreatDoorTaak
import Derived.Test.YtlodbibagmblkaaGreatDoorTaaq
import Derived.Test.YtlodbibagmblkaaGreatDoorTaan
namespace Go.Proofs.YtlodbibagmblkaaGreatDoor
open Go Go.RowKit Go.Lib
set_option maxRecDepth 4000 in
set_option maxHeartbeats 2000000 in
theorem arity_has (n : Int) (ks : ByteArray) (f : Value) (w : World) (hn : -1000000 ≤ n ∧ n ≤ 1000000) (hf : ∃ fn caps, f = .func (.func fn) #[] caps)
    (hT : ∀ W, Calls Tryz.prog 18 #[] W fun e W' => ∃ b L, e = .returned (.map (some b)) ∧ MapAt W' b L ∧ Below W.heap.size W W' ∧ lk L n = some (primv ks f)) :
    Calls Tryz.prog 13 #[.int .i64 n] w fun e w' => e = .returned (.int .i64 ks.size) ∧ Below w.heap.size w w' := by
  obtain ⟨fn, caps, rfl⟩ := hf
  have hzp := zero_prim
  go_enter Tryz.func13, Tryz.ntmps13
  go_wp2_with fail
  refine (hT _).mono ?_
  rintro e w2 ⟨b, L, rfl, hmap, hb2, hlk⟩
  have hlook := look_ok hmap (t := 50) Tryz.underlying50 (hzp w2) n hn
  rw [hlk] at hlook
  simp only [primv] at hlook
  have HB2 := Lib.hid hb2
  have hs2 := hb2.size
  clear hmap hlk hb2 hT
  have HK := P2.new w2 48 (.string ks) (.func (.func fn) #[] caps)
  obtain ⟨k0, k1, _, _⟩ := HK.cells
  clear HK
  go_wp2_with fail
  go_ret
  exact ⟨rfl, HB2.out.alloc hs2 _⟩
set_option maxRecDepth 4000 in
set_option maxHeartbeats 2000000 in
theorem arity_none (n : Int) (w : World) (hn : -1000000 ≤ n ∧ n ≤ 1000000)
    (hT : ∀ W, Calls Tryz.prog 18 #[] W fun e W' => ∃ b L, e = .returned (.map (some b)) ∧ MapAt W' b L ∧ Below W.heap.size W W' ∧ lk L n = none) :
    Calls Tryz.prog 13 #[.int .i64 n] w fun e w' => e = .returned (.int .i64 (-1)) ∧ Below w.heap.size w w' := by
  have hzp := zero_prim
  go_enter Tryz.func13, Tryz.ntmps13
  go_wp2_with fail
  refine (hT _).mono ?_
  rintro e w2 ⟨b, L, rfl, hmap, hb2, hlk⟩
  have hlook := look_ok hmap (t := 50) Tryz.underlying50 (hzp w2) n hn
  rw [hlk] at hlook
  simp only at hlook
  have HB2 := Lib.hid hb2
  have hs2 := hb2.size
  clear hmap hlk hb2 hT
  have HK := P2.new w2 48 (.string ⟨#[]⟩) .nilFunc
  obtain ⟨k0, k1, _, _⟩ := HK.cells
  clear HK
  go_wp2_with fail
  go_ret
  exact ⟨rfl, HB2.out.alloc hs2 _⟩
end Go.Proofs.YtlodbibagmblkaaGreatDoor
namespace Go.Proofs.YtlodbibagmblkaaGreatDoor
open Go Go.RowKit Go.Lib
/-- what comes out in the end: nothing where it fails -/
def Fin (P : Int → Int → Int → ByteArray → Bool → Prop) (k n b : Int) (t : ByteArray) (is : Bool) : Prop := (is = true ∧ P k n b t true) ∨ (is = false ∧ (∃ k' n' b' t', P k' n' b' t' false) ∧ k = 0 ∧ n = 0 ∧ b = 0 ∧ t = ⟨#[]⟩)
theorem done_came {w w' : World} {P : Int → Int → Int → ByteArray → Bool → Prop} {e : Ending} (h : Done w P e w') : Came w (Fin P) e w' := by
  obtain ⟨k, n, b, t, is, hP, rfl, hb⟩ := h
  cases is
  · exact ⟨0, 0, 0, ⟨#[]⟩, false, .inr ⟨rfl, ⟨_, _, _, _, hP⟩, rfl, rfl, rfl, rfl⟩, rfl, hb⟩
  · exact ⟨k, n, b, t, true, .inl ⟨rfl, hP⟩, rfl, hb⟩
theorem bad_came {w w' : World} {e : Ending} (h : e = .returned (.tuple #[nolit, .bool false]) ∧ Below w.heap.size w w') : Came w (Just 0 0 ⟨#[]⟩ false) e w' := ⟨0, 0, 0, ⟨#[]⟩, false, ⟨rfl, rfl, rfl, rfl, rfl⟩, h.1, h.2⟩
theorem trow_get {l : List PT} {i : Nat} {x : PT} (h : l[i]? = some x) {j : Nat} {u : Value} (hu : x.cells[j]? = some u) : (l.flatMap PT.cells)[i * 5 + j]? = some u := by
  induction l generalizing i with
  | nil => simp at h
  | cons y l ih =>
    rw [List.flatMap_cons]
    have hl : y.cells.length = 5 := rfl
    cases i with
    | zero =>
      simp at h; subst h
      have hj : j < y.cells.length := (List.getElem?_eq_some_iff.1 hu).1
      rw [Nat.zero_mul, Nat.zero_add, List.getElem?_append_left hj]
      exact hu
    | succ i =>
      rw [List.getElem?_append_right (by rw [hl]; omega), hl, show (i + 1) * 5 + j - 5 = i * 5 + j by omega]
      exact ih (by simpa using h)
theorem trow_new (W : World) (l : List PT) (cs : Array Value) (T : TypeId) (h : cs.toList = l.flatMap PT.cells) (m : Nat) (hm : m = l.length) : TRow (W.alloc (.cells cs T)) (.slice (some ⟨W.heap.size, 0, none⟩) m m) l := by
  subst hm
  refine ⟨W.heap.size, l.length, rfl, by simp, fun i x hx j u hu => ?_⟩
  rw [World.cell?_alloc_new, ← Array.getElem?_toList, h]
  exact trow_get hx hu
set_option maxHeartbeats 1000000 in
theorem lsm_any (n : Int) (w : World) : Calls Tryz.prog 12 #[.int .i64 n] w fun e w' => e = .returned (litv 4 n 0 ⟨#[]⟩ (.slice none 0 0)) ∧ Below w.heap.size w w' := by
  obtain ⟨W1, hW1⟩ : ∃ W1, w.alloc (.cells #[.int .u8 0, .int .i64 0, .int .u64 0, .string ⟨#[]⟩, .slice none 0 0] 26) = W1 := ⟨_, rfl⟩
  have HP : Hid (P5 W1 w.heap.size (.int .u8 0) (.int .i64 0) (.int .u64 0) (.string ⟨#[]⟩) (.slice none 0 0)) := Lib.hid (by rw [← hW1]; exact P5.new _ _ _ _ _ _)
  have HB : Hid (Below w.heap.size w W1) := Lib.hid (by rw [← hW1]; exact (Below.refl _ _).alloc (Nat.le_refl _) _)
  obtain ⟨c0, c1, c2, c3, c4, f0, f1, f2, f3, f4⟩ := HP.out.cells
  go_enter Tryz.func12, Tryz.ntmps12
  go_wp2_with fail
  obtain ⟨k0, k1, k2, k3, k4, _, _, _, _, _⟩ := (HP.out.set (.int .u8 4) (.int .i64 n) (.int .u64 0) (.string ⟨#[]⟩) (.slice none 0 0)).cells
  exact bodyPost_ret (v := litv 4 n 0 ⟨#[]⟩ (.slice none 0 0)) (by simp [results, Tryz.results12, go_sem, litv, k0, k1, k2, k3, k4]) rfl ⟨rfl, below_set5 HB.out (Nat.le_refl _) _ _ _ _ _⟩
set_option maxHeartbeats 1000000 in
theorem ltx_any (s : ByteArray) (w : World) : Calls Tryz.prog 15 #[.string s] w fun e w' => e = .returned (litv 8 0 0 s (.slice none 0 0)) ∧ Below w.heap.size w w' := by
  obtain ⟨W1, hW1⟩ : ∃ W1, w.alloc (.cells #[.int .u8 0, .int .i64 0, .int .u64 0, .string ⟨#[]⟩, .slice none 0 0] 26) = W1 := ⟨_, rfl⟩
  have HP : Hid (P5 W1 w.heap.size (.int .u8 0) (.int .i64 0) (.int .u64 0) (.string ⟨#[]⟩) (.slice none 0 0)) := Lib.hid (by rw [← hW1]; exact P5.new _ _ _ _ _ _)
  have HB : Hid (Below w.heap.size w W1) := Lib.hid (by rw [← hW1]; exact (Below.refl _ _).alloc (Nat.le_refl _) _)
  obtain ⟨c0, c1, c2, c3, c4, f0, f1, f2, f3, f4⟩ := HP.out.cells
  go_enter Tryz.func15, Tryz.ntmps15
  go_wp2_with fail
  obtain ⟨k0, k1, k2, k3, k4, _, _, _, _, _⟩ := (HP.out.set (.int .u8 8) (.int .i64 0) (.int .u64 0) (.string s) (.slice none 0 0)).cells
  exact bodyPost_ret (v := litv 8 0 0 s (.slice none 0 0)) (by simp [results, Tryz.results15, go_sem, litv, k0, k1, k2, k3, k4]) rfl ⟨rfl, below_set5 HB.out (Nat.le_refl _) _ _ _ _ _⟩
set_option maxHeartbeats 4000000 in
theorem ldo_any (n : Int) (x y : PT) (xa ya : Option Addr) (xl yl xc yc : Nat) (P : Int → Int → Int → ByteArray → Bool → Prop) (w : World) (hx : x.v = .slice xa xl xc) (hy : y.v = .slice ya yl yc)
    (hd : ∀ W av, TRow W av [x, y] → Calls Tryz.prog 11 #[.int .i64 n, av] W (Came W P)) :
    Calls Tryz.prog 9 #[.int .i64 n, x.lit, y.lit] w (Came w P) := by
  obtain ⟨xk, xn, xb, xt, xv⟩ := x
  obtain ⟨yk, yn, yb, yt, yv⟩ := y
  simp only at hx hy
  subst hx hy
  have HD := Lib.hid hd
  clear hd
  unfold PT.lit litv
  simp only
  obtain ⟨W3, hW3⟩ : ∃ W3, ((w.alloc (.cells #[.int .u8 xk, .int .i64 xn, .int .u64 xb, .string xt, .slice xa xl xc] 26)).alloc (.cells #[.int .u8 yk, .int .i64 yn, .int .u64 yb, .string yt, .slice ya yl yc] 26)).alloc (.cells #[.int .u8 0, .int .i64 0, .int .u64 0, .string ⟨#[]⟩, .slice none 0 0] 26) = W3 := ⟨_, rfl⟩
  have HX : Hid (P5 W3 w.heap.size (.int .u8 xk) (.int .i64 xn) (.int .u64 xb) (.string xt) (.slice xa xl xc)) := Lib.hid (by rw [← hW3]; exact ((P5.new _ _ _ _ _ _).alloc _).alloc _)
  have HY : Hid (P5 W3 (w.heap.size + 1) (.int .u8 yk) (.int .i64 yn) (.int .u64 yb) (.string yt) (.slice ya yl yc)) := Lib.hid (by
    rw [← hW3]
    have := (P5.new (w.alloc (.cells #[.int .u8 xk, .int .i64 xn, .int .u64 xb, .string xt, .slice xa xl xc] 26)) (.int .u8 yk) (.int .i64 yn) (.int .u64 yb) (.string yt) (.slice ya yl yc)).alloc (.cells #[.int .u8 0, .int .i64 0, .int .u64 0, .string ⟨#[]⟩, .slice none 0 0] 26)
    simpa using this)
  have HR : Hid (P5 W3 (w.heap.size + 2) (.int .u8 0) (.int .i64 0) (.int .u64 0) (.string ⟨#[]⟩) (.slice none 0 0)) := Lib.hid (by
    rw [← hW3]
    have := P5.new ((w.alloc (.cells #[.int .u8 xk, .int .i64 xn, .int .u64 xb, .string xt, .slice xa xl xc] 26)).alloc (.cells #[.int .u8 yk, .int .i64 yn, .int .u64 yb, .string yt, .slice ya yl yc] 26)) (.int .u8 0) (.int .i64 0) (.int .u64 0) (.string ⟨#[]⟩) (.slice none 0 0)
    simpa using this)
  have HB : Hid (Below w.heap.size w W3) := Lib.hid (by rw [← hW3]; exact (((Below.refl _ _).alloc (Nat.le_refl _) _).alloc (by simp) _).alloc (by simp; omega) _)
  have hs : w.heap.size + 3 ≤ W3.heap.size := by rw [← hW3]; simp
  obtain ⟨x0, x1, x2, x3, x4, _, _, _, _, _⟩ := HX.out.cells
  obtain ⟨y0, y1, y2, y3, y4, _, _, _, _, _⟩ := HY.out.cells
  go_enter Tryz.func9, Tryz.ntmps9
  go_wp2_with fail
  have HTR := trow_new W3 [⟨xk, xn, xb, xt, .slice xa xl xc⟩, ⟨yk, yn, yb, yt, .slice ya yl yc⟩] #[.int .u8 xk, .int .i64 xn, .int .u64 xb, .string xt, .slice xa xl xc, .int .u8 yk, .int .i64 yn, .int .u64 yb, .string yt, .slice ya yl yc] 26 rfl 2 rfl
  refine (HD.out _ _ HTR).mono ?_
  rintro e w5 ⟨k5, n5, b5, t5, is5, hP5, rfl, hb5⟩
  have HPP := Lib.hid hP5
  have HR5 := Lib.hid ((HR.out.alloc (.cells #[.int .u8 xk, .int .i64 xn, .int .u64 xb, .string xt, .slice xa xl xc, .int .u8 yk, .int .i64 yn, .int .u64 yb, .string yt, .slice ya yl yc] 26)).below hb5)
  have HB5 := Lib.hid ((HB.out.alloc (by omega) (.cells #[.int .u8 xk, .int .i64 xn, .int .u64 xb, .string xt, .slice xa xl xc, .int .u8 yk, .int .i64 yn, .int .u64 yb, .string yt, .slice ya yl yc] 26)).trans (hb5.mono (by simp; omega)))
  clear hb5 hP5 HTR x0 x1 x2 x3 x4 y0 y1 y2 y3 y4 HX HY HR HB hW3
  obtain ⟨c0, c1, c2, c3, c4, f0, f1, f2, f3, f4⟩ := HR5.out.cells
  unfold litv
  go_wp2_with fail
  obtain ⟨k0, k1, k2, k3, k4, _, _, _, _, _⟩ := (HR5.out.set (.int .u8 k5) (.int .i64 n5) (.int .u64 b5) (.string t5) (.slice none 0 0)).cells
  exact bodyPost_ret (v := .tuple #[.agg #[.int .u8 k5, .int .i64 n5, .int .u64 b5, .string t5, .slice none 0 0], .bool is5]) (by simp [results, Tryz.results9, go_sem, k0, k1, k2, k3, k4]) rfl ⟨k5, n5, b5, t5, is5, HPP.out, rfl, below_set5 HB5.out (by omega) _ _ _ _ _⟩
end Go.Proofs.YtlodbibagmblkaaGreatDoor
namespace Go.Proofs.YtlodbibagmblkaaGreatDoor
open Go Go.RowKit Go.Lib
/-- literals and their values -/
def tsm (n : Int) : PT := ⟨4, n, 0, ⟨#[]⟩, .slice none 0 0⟩
def tst (s : ByteArray) : PT := ⟨8, 0, 0, s, .slice none 0 0⟩
def tsy (s : ByteArray) : PT := ⟨9, 0, 0, s, .slice none 0 0⟩
def vsm (n : Int) : PV := ⟨4, n, 0, ⟨#[]⟩, .slice none 0 0, decide (n < 0), bs (Pl.dgs n.natAbs)⟩
def vst (s : ByteArray) : PV := ⟨8, 0, 0, s, .slice none 0 0, false, ⟨#[]⟩⟩
def vsy (s : ByteArray) : PV := ⟨9, 0, 0, s, .slice none 0 0, false, ⟨#[]⟩⟩
def OfV (x : PT) (c : Nat) (y : PV) (is : Bool) : Prop := ∀ W, Calls Tryz.prog 19 #[x.lit, .int .u8 c] W fun e W' => e = .returned (.tuple #[valv y.k y.n y.b y.t y.v y.g y.s, .bool is]) ∧ Below W.heap.size W W'
theorem of_tst (s : ByteArray) (hs : s.size ≤ 65536) : OfV (tst s) 83 (vst s) true := fun W => of_str s none 0 W hs
theorem of_tsm (n : Int) (c : Nat) (hc : c = 73 ∨ c = 76) (h1 : -9223372036854775808 ≤ n) (h2 : n ≤ 9223372036854775807) : OfV (tsm n) c (vsm n) (decide (FitsI n)) := fun W => of_small n c none 0 W h1 h2 hc
theorem of_tsmF (n : Int) (c : Nat) (hc : c = 73 ∨ c = 76) (h : FitsI n) : OfV (tsm n) c (vsm n) true := by
  have := of_tsm n c hc (by unfold FitsI at h; omega) (by unfold FitsI at h; omega)
  rwa [decide_eq_true h] at this
theorem vs_slice {l : List PV} (h : ∀ y ∈ l, y.v = .slice none 0 0) : ∀ y ∈ l, ∃ a n c, y.v = .slice a n c := fun y hy => ⟨_, _, _, h y hy⟩
theorem ts_slice {l : List PT} (h : ∀ y ∈ l, y.v = .slice none 0 0) : ∀ y ∈ l, ∃ a n c, y.v = .slice a n c := fun y hy => ⟨_, _, _, h y hy⟩

/-- what of answers of each argument -/
def Hof (ks : ByteArray) (ls : List PT) (vs : List PV) (B : Nat → Bool) : Prop := ∀ (i : Nat) (x : PT) (y : PV) (h : i < ks.size), ls[i]? = some x → vs[i]? = some y → ∀ W, Calls Tryz.prog 19 #[x.lit, .int .u8 (ks[i]'h).toNat] W fun e W' => e = .returned (.tuple #[valv y.k y.n y.b y.t y.v y.g y.s, .bool (B i)]) ∧ Below W.heap.size W W'
theorem hof1 {c : UInt8} {x : PT} {y : PV} {B : Nat → Bool} (h0 : OfV x c.toNat y (B 0)) : Hof ⟨#[c]⟩ [x] [y] B := fun i x' y' hi hx hy W => by
  have hi' : i < 1 := hi
  obtain rfl : i = 0 := by omega
  obtain rfl : x = x' := by simpa using hx
  obtain rfl : y = y' := by simpa using hy
  exact h0 W
theorem hof2 {c d : UInt8} {x x2 : PT} {y y2 : PV} {B : Nat → Bool} (h0 : OfV x c.toNat y (B 0)) (h1 : OfV x2 d.toNat y2 (B 1)) : Hof ⟨#[c, d]⟩ [x, x2] [y, y2] B := fun i x' y' hi hx hy W => by
  have hi' : i < 2 := hi
  obtain rfl | rfl : i = 0 ∨ i = 1 := by omega
  · obtain rfl : x = x' := by simpa using hx
    obtain rfl : y = y' := by simpa using hy
    exact h0 W
  · obtain rfl : x2 = x' := by simpa using hx
    obtain rfl : y2 = y' := by simpa using hy
    exact h1 W
theorem hof3 {c d f : UInt8} {x x2 x3 : PT} {y y2 y3 : PV} {B : Nat → Bool} (h0 : OfV x c.toNat y (B 0)) (h1 : OfV x2 d.toNat y2 (B 1)) (h2 : OfV x3 f.toNat y3 (B 2)) : Hof ⟨#[c, d, f]⟩ [x, x2, x3] [y, y2, y3] B := fun i x' y' hi hx hy W => by
  have hi' : i < 3 := hi
  obtain rfl | rfl | rfl : i = 0 ∨ i = 1 ∨ i = 2 := by omega
  · obtain rfl : x = x' := by simpa using hx
    obtain rfl : y = y' := by simpa using hy
    exact h0 W
  · obtain rfl : x2 = x' := by simpa using hx
    obtain rfl : y2 = y' := by simpa using hy
    exact h1 W
  · obtain rfl : x3 = x' := by simpa using hx
    obtain rfl : y3 = y' := by simpa using hy
    exact h2 W
/-- Do where all arguments are values, told short -/
theorem do_ok (n : Int) (ks : ByteArray) (fn : Nat) (vs : List PV) (ls : List PT) (P : Int → Int → Int → ByteArray → Bool → Prop) (av : Value) (w : World) (hn : -1000000 ≤ n ∧ n ≤ 1000000) (hl : TRow w av ls) (hks : ks.size = ls.length) (hvl : vs.length = ls.length) (h0 : 0 < ls.length) (h10 : ls.length ≤ 100)
    (hcf : ∀ args W, (callFunc fn args).run Tryz.prog W = .ok (.enter fn args) W) (hT : HasP w n ks fn vs P) (hov : ∀ y ∈ vs, y.v = .slice none 0 0) (hxv : ∀ x ∈ ls, x.v = .slice none 0 0) (hof : Hof ks ls vs fun _ => true) :
    Calls Tryz.prog 11 #[.int .i64 n, av] w (Came w (Fin P)) :=
  (do_all n ks fn vs ls P av w hn hl hks hvl h0 h10 hcf hT (vs_slice hov) (ts_slice hxv) hof).mono fun e w' h => done_came h
theorem do_no (n : Int) (ks : ByteArray) (i0 : Nat) (vs : List PV) (ls : List PT) (av : Value) (w : World) (hn : -1000000 ≤ n ∧ n ≤ 1000000) (hl : TRow w av ls) (hks : ks.size = ls.length) (hvl : vs.length = ls.length) (h0 : 0 < ls.length) (h10 : ls.length ≤ 100)
    (hi0 : i0 < ls.length) (hT : ∀ W, Calls Tryz.prog 18 #[] W fun e W' => ∃ b L fn caps, e = .returned (.map (some b)) ∧ MapAt W' b L ∧ Below W.heap.size W W' ∧ lk L n = some (primv ks (.func (.func fn) #[] caps))) (hov : ∀ y ∈ vs, y.v = .slice none 0 0) (hxv : ∀ x ∈ ls, x.v = .slice none 0 0) (hof : Hof ks ls vs fun i => decide (i ≠ i0)) :
    Calls Tryz.prog 11 #[.int .i64 n, av] w (Came w (Just 0 0 ⟨#[]⟩ false)) :=
  (do_bad n ks i0 vs ls av w hn hl hks hvl h0 h10 hi0 hT (vs_slice hov) (ts_slice hxv) hof).mono fun e w' h => bad_came h
theorem just_ok {k n : Int} {t : ByteArray} {is : Bool} {w w' : World} {e : Ending} (h : Came w (Fin (Just k n t is)) e w') (his : is = true) : Came w (Just k n t true) e w' := by
  subst his
  obtain ⟨a, b, c, d, f, h1, h2, h3⟩ := h
  refine ⟨a, b, c, d, f, ?_, h2, h3⟩
  rcases h1 with ⟨rfl, h⟩ | ⟨rfl, ⟨_, _, _, _, h⟩, _⟩
  · exact h
  · exact absurd h.2.2.2.2 (by simp)
theorem just_no {k n : Int} {t : ByteArray} {is : Bool} {w w' : World} {e : Ending} (h : Came w (Fin (Just k n t is)) e w') (his : is = false) : Came w (Just 0 0 ⟨#[]⟩ false) e w' := by
  subst his
  obtain ⟨a, b, c, d, f, h1, h2, h3⟩ := h
  refine ⟨a, b, c, d, f, ?_, h2, h3⟩
  rcases h1 with ⟨rfl, h⟩ | ⟨rfl, _, rfl, rfl, rfl, rfl⟩
  · exact absurd h.2.2.2.2 (by simp)
  · exact ⟨rfl, rfl, rfl, rfl, rfl⟩
theorem do68 (s : ByteArray) (y z : Int) (a b : Nat) (av : Value) (w : World) (hs : s.size ≤ 65536) (hy : y = (a : Int) + 1) (hz : z = (b : Int)) (hab : a ≤ b) (hb : b ≤ s.size) (h : TRow w av [tst s, tsm y, tsm z]) : Calls Tryz.prog 11 #[.int .i64 68, av] w (Came w (Just 8 0 (s.extract a b) true)) :=
  (do_ok 68 ⟨#[83, 76, 76]⟩ 117 [vst s, vsm y, vsm z] [tst s, tsm y, tsm z] (Just 8 0 (s.extract a b) true) av w (by omega) h rfl rfl (by simp) (by simp) (fun args W => callFunc_go Tryz.func117 rfl rfl args W)
    (has_text rfl (fun W v hv => (cl68 (vst s) (vsm y) (vsm z) a b v W hv hy hz hab hb hs).mono fun e w' h => came_just h)) (by simp [vst, vsm, vsy]) (by simp [tst, tsm, tsy]) (hof3 (of_tst s hs) (of_tsmF y 76 (.inr rfl) (by unfold FitsI; omega)) (of_tsmF z 76 (.inr rfl) (by unfold FitsI; omega)))).mono fun e w' h => just_ok h rfl
end Go.Proofs.YtlodbibagmblkaaGreatDoor
namespace Go.Proofs.YtlodbibagmblkaaGreatDoor
open Go.RowKit Go.Lib
theorem sg_not (n : Int) : sg (!decide (n < 0)) n.natAbs = -n := by
  unfold sg
  by_cases h : n < 0
  · rw [decide_eq_true h]; simp; omega
  · rw [decide_eq_false h]; simp; omega
theorem sum_len {A B : Int} (hA : Pl.Big A) (hB : Pl.Big B) {V : Nat} {neg : Bool} (h : sg neg V = A + B) : (Pl.wd V).length ≤ 10000 := by
  have hV := sg_abs h
  have h1 : V < 256 ^ 4096 + 256 ^ 4096 := by
    unfold Pl.Big at hA hB
    generalize 256 ^ 4096 = P at *
    omega
  refine Nat.le_trans (Pl.wd_len_pow (k := 1025) (Nat.lt_of_lt_of_le h1 ?_)) (by decide)
  rw [← Pl.p32 1025, show 4 * 1025 = 4096 + 4 by decide, Nat.pow_add 256 4096 4]
  generalize 256 ^ 4096 = P
  omega
theorem Pl.Big.neg {n : Int} (h : Pl.Big n) : Pl.Big (-n) := by unfold Pl.Big at *; rwa [Int.natAbs_neg]
theorem wd_small {n : Int} (h : Pl.Big n) : (Pl.wd n.natAbs).length ≤ 2500 := Nat.le_trans (Pl.wd_len _ h) (by decide)
set_option maxRecDepth 4000 in
set_option maxHeartbeats 2000000 in
theorem ladd_any (A B : Int) (w : World) (hA : Pl.Big A) (hB : Pl.Big B) :
    Calls Tryz.prog 26 #[lof A, lof B] w (ToldV w (A + B)) := by
  have HTW := Lib.hid (fun W => ltwo_any A B W hA hB)
  have HNA : Hid (∀ W va vb, Rd W va (Pl.wd A.natAbs) → Rd W vb (Pl.wd B.natAbs) → Calls Tryz.prog 67 #[.agg #[va, .bool (decide (A < 0))], .agg #[vb, .bool (decide (B < 0))]] W (NumOk W (A + B))) := Lib.hid (fun W va vb h1 h2 => by
    have := numadd_any va vb (decide (A < 0)) (decide (B < 0)) _ _ W h1 h2 (wd_small hA) (wd_small hB)
    rw [sg_of, sg_of] at this
    exact this)
  have HTD : Hid (∀ W v neg V, sg neg V = A + B → Rd W v (Pl.wd V) → Calls Tryz.prog 66 #[.agg #[v, .bool neg]] W (ToldV W (A + B))) := Lib.hid (fun W v neg V h1 h2 => ltold2_any v neg V _ W h1 h2 (sum_len hA hB h1))
  obtain ⟨na, hna⟩ : ∃ na, decide (A < 0) = na := ⟨_, rfl⟩
  obtain ⟨nb, hnb⟩ : ∃ nb, decide (B < 0) = nb := ⟨_, rfl⟩
  have ha : lof A = .agg #[.bool na, .string (bs (Pl.dgs A.natAbs))] := by unfold lof lv; rw [hna]
  have hb : lof B = .agg #[.bool nb, .string (bs (Pl.dgs B.natAbs))] := by unfold lof lv; rw [hnb]
  rw [ha] at HTW ⊢
  rw [hb] at HTW ⊢
  rw [hna] at HTW HNA
  rw [hnb] at HTW HNA
  generalize bs (Pl.dgs A.natAbs) = sa at *
  generalize bs (Pl.dgs B.natAbs) = sb at *
  generalize A.natAbs = U at *
  generalize B.natAbs = V at *
  obtain ⟨tf, ts, te, htv⟩ : ∃ f s e, toldv (A + B) = .tuple #[.agg #[.bool f, .string s], .int .i64 e] := by
    unfold toldv; split
    · exact ⟨_, _, _, rfl⟩
    · exact ⟨_, _, _, rfl⟩
  unfold ToldV at *
  rw [htv] at HTD ⊢
  generalize A + B = S at *
  clear ha hb hna hnb hA hB htv
  obtain ⟨W3, hW3⟩ : ∃ W3, ((w.alloc (.cells #[.bool na, .string sa] 43)).alloc (.cells #[.bool nb, .string sb] 43)).alloc (.cells #[.bool false, .string ⟨#[]⟩] 43) = W3 := ⟨_, rfl⟩
  have P0 : Hid (P2 W3 w.heap.size 43 (.bool na) (.string sa)) := Lib.hid (by rw [← hW3]; exact ((P2.new _ _ _ _).alloc _).alloc _)
  have P1 : Hid (P2 W3 (w.heap.size + 1) 43 (.bool nb) (.string sb)) := Lib.hid (by
    rw [← hW3]
    have := (P2.new (w.alloc (.cells #[.bool na, .string sa] 43)) 43 (.bool nb) (.string sb)).alloc (.cells #[.bool false, .string ⟨#[]⟩] 43)
    simpa using this)
  have R0 : Hid (P2 W3 (w.heap.size + 2) 43 (.bool false) (.string ⟨#[]⟩)) := Lib.hid (by
    rw [← hW3]
    have := P2.new ((w.alloc (.cells #[.bool na, .string sa] 43)).alloc (.cells #[.bool nb, .string sb] 43)) 43 (.bool false) (.string ⟨#[]⟩)
    simpa using this)
  have HB3 : Hid (Below w.heap.size w W3) := Lib.hid (by rw [← hW3]; exact (((Below.refl _ _).alloc (Nat.le_refl _) _).alloc (by simp) _).alloc (by simp; omega) _)
  have hs3 : w.heap.size + 3 ≤ W3.heap.size := by rw [← hW3]; simp
  obtain ⟨p0, p1, _, _⟩ := P0.out.cells
  obtain ⟨q0, q1, _, _⟩ := P1.out.cells
  go_enter Tryz.func26, Tryz.ntmps26
  go_wp2_with fail
  refine (HTW.out _).mono ?_
  rintro e w4 ⟨va, vb, rfl, hra, hrb, hb4⟩
  obtain ⟨aa, ac, rfl⟩ := hra.form
  obtain ⟨ba, bc, rfl⟩ := hrb.form
  generalize (Pl.wd U).length = lu at *
  generalize (Pl.wd V).length = lv' at *
  obtain ⟨W5, hW5⟩ : ∃ W5, (w4.alloc (.cells #[.slice aa lu ac, .bool na] 92)).alloc (.cells #[.slice ba lv' bc, .bool nb] 92) = W5 := ⟨_, rfl⟩
  have hb5 : Below w4.heap.size w4 W5 := by rw [← hW5]; exact ((Below.refl _ _).alloc (Nat.le_refl _) _).alloc (by simp) _
  have hs4 : w.heap.size + 3 ≤ w4.heap.size := Nat.le_trans hs3 hb4.size
  have HB5 := Lib.hid (chain (chain HB3.out hb4 (by omega)) hb5 (by omega))
  have R5 := Lib.hid ((R0.out.below hb4).below hb5)
  have RA := Lib.hid (hra.below hb5)
  have RB := Lib.hid (hrb.below hb5)
  have PA : Hid (P2 W5 w4.heap.size 92 (.slice aa lu ac) (.bool na)) := Lib.hid (by rw [← hW5]; exact (P2.new _ _ _ _).alloc _)
  have PB : Hid (P2 W5 (w4.heap.size + 1) 92 (.slice ba lv' bc) (.bool nb)) := Lib.hid (by
    rw [← hW5]
    have := P2.new (w4.alloc (.cells #[.slice aa lu ac, .bool na] 92)) 92 (.slice ba lv' bc) (.bool nb)
    simpa using this)
  have hs5 : w.heap.size + 3 ≤ W5.heap.size := Nat.le_trans hs4 hb5.size
  clear p0 p1 q0 q1 P0 P1 R0 HB3 hs3 hb4 hra hrb hW3 hb5
  obtain ⟨p0, p1, _, _⟩ := PA.out.cells
  obtain ⟨q0, q1, _, _⟩ := PB.out.cells
  go_wp2_with fail
  refine (HNA.out _ _ _ (by exact RA.out) (by exact RB.out)).mono ?_
  rintro e w7 ⟨v7, n7, V7, rfl, hr7, hsg, hb7⟩
  obtain ⟨a7, c7, rfl⟩ := hr7.form
  have HB7 := Lib.hid (chain HB5.out hb7 (by omega))
  have R7 := Lib.hid (R5.out.below hb7)
  have hs7 : w.heap.size + 3 ≤ w7.heap.size := Nat.le_trans hs5 hb7.size
  clear p0 p1 q0 q1 hb7 hW5
  go_wp2_with fail
  refine (HTD.out _ _ _ _ hsg hr7).mono ?_
  rintro e w8 ⟨rfl, hb8⟩
  have HB8 := Lib.hid (chain HB7.out hb8 (by omega))
  have R8 := Lib.hid (R7.out.below hb8)
  obtain ⟨r0, r1, f0, f1⟩ := R8.out.cells
  clear hb8
  go_wp2_with fail
  have hfin := R8.out.set (.bool tf) (.string ts)
  obtain ⟨k0, k1, _, _⟩ := hfin.cells
  refine bodyPost_ret (v := .tuple #[.agg #[.bool tf, .string ts], .int .i64 te]) (by simp [results, Tryz.results26, go_sem, k0, k1]) rfl ⟨rfl, below_set2 HB8.out (by omega) _ _⟩
set_option maxRecDepth 4000 in
set_option maxHeartbeats 2000000 in
theorem lsub_any (A B : Int) (w : World) (hA : Pl.Big A) (hB : Pl.Big B) :
    Calls Tryz.prog 27 #[lof A, lof B] w (ToldV w (A - B)) := by
  have HTW := Lib.hid (fun W => ltwo_any A B W hA hB)
  have HNA : Hid (∀ W va vb, Rd W va (Pl.wd A.natAbs) → Rd W vb (Pl.wd B.natAbs) → Calls Tryz.prog 67 #[.agg #[va, .bool (decide (A < 0))], .agg #[vb, .bool (!decide (B < 0))]] W (NumOk W (A - B))) := Lib.hid (fun W va vb h1 h2 => by
    have := numadd_any va vb (decide (A < 0)) (!decide (B < 0)) _ _ W h1 h2 (wd_small hA) (wd_small hB)
    rw [sg_of, sg_not] at this
    rw [Int.sub_eq_add_neg]; exact this)
  have HTD : Hid (∀ W v neg V, sg neg V = A - B → Rd W v (Pl.wd V) → Calls Tryz.prog 66 #[.agg #[v, .bool neg]] W (ToldV W (A - B))) := Lib.hid (fun W v neg V h1 h2 => ltold2_any v neg V _ W h1 h2 (sum_len hA hB.neg (by rw [h1, Int.sub_eq_add_neg])))
  obtain ⟨na, hna⟩ : ∃ na, decide (A < 0) = na := ⟨_, rfl⟩
  obtain ⟨nb, hnb⟩ : ∃ nb, decide (B < 0) = nb := ⟨_, rfl⟩
  have ha : lof A = .agg #[.bool na, .string (bs (Pl.dgs A.natAbs))] := by unfold lof lv; rw [hna]
  have hb : lof B = .agg #[.bool nb, .string (bs (Pl.dgs B.natAbs))] := by unfold lof lv; rw [hnb]
  rw [ha] at HTW ⊢
  rw [hb] at HTW ⊢
  rw [hna] at HTW HNA
  rw [hnb] at HTW HNA
  generalize bs (Pl.dgs A.natAbs) = sa at *
  generalize bs (Pl.dgs B.natAbs) = sb at *
  generalize A.natAbs = U at *
  generalize B.natAbs = V at *
  obtain ⟨tf, ts, te, htv⟩ : ∃ f s e, toldv (A - B) = .tuple #[.agg #[.bool f, .string s], .int .i64 e] := by
    unfold toldv; split
    · exact ⟨_, _, _, rfl⟩
    · exact ⟨_, _, _, rfl⟩
  unfold ToldV at *
  rw [htv] at HTD ⊢
  generalize A - B = S at *
  clear ha hb hna hnb hA hB htv
  obtain ⟨W3, hW3⟩ : ∃ W3, ((w.alloc (.cells #[.bool na, .string sa] 43)).alloc (.cells #[.bool nb, .string sb] 43)).alloc (.cells #[.bool false, .string ⟨#[]⟩] 43) = W3 := ⟨_, rfl⟩
  have P0 : Hid (P2 W3 w.heap.size 43 (.bool na) (.string sa)) := Lib.hid (by rw [← hW3]; exact ((P2.new _ _ _ _).alloc _).alloc _)
  have P1 : Hid (P2 W3 (w.heap.size + 1) 43 (.bool nb) (.string sb)) := Lib.hid (by
    rw [← hW3]
    have := (P2.new (w.alloc (.cells #[.bool na, .string sa] 43)) 43 (.bool nb) (.string sb)).alloc (.cells #[.bool false, .string ⟨#[]⟩] 43)
    simpa using this)
  have R0 : Hid (P2 W3 (w.heap.size + 2) 43 (.bool false) (.string ⟨#[]⟩)) := Lib.hid (by
    rw [← hW3]
    have := P2.new ((w.alloc (.cells #[.bool na, .string sa] 43)).alloc (.cells #[.bool nb, .string sb] 43)) 43 (.bool false) (.string ⟨#[]⟩)
    simpa using this)
  have HB3 : Hid (Below w.heap.size w W3) := Lib.hid (by rw [← hW3]; exact (((Below.refl _ _).alloc (Nat.le_refl _) _).alloc (by simp) _).alloc (by simp; omega) _)
  have hs3 : w.heap.size + 3 ≤ W3.heap.size := by rw [← hW3]; simp
  obtain ⟨p0, p1, _, _⟩ := P0.out.cells
  obtain ⟨q0, q1, _, _⟩ := P1.out.cells
  go_enter Tryz.func27, Tryz.ntmps27
  go_wp2_with fail
  refine (HTW.out _).mono ?_
  rintro e w4 ⟨va, vb, rfl, hra, hrb, hb4⟩
  obtain ⟨aa, ac, rfl⟩ := hra.form
  obtain ⟨ba, bc, rfl⟩ := hrb.form
  generalize (Pl.wd U).length = lu at *
  generalize (Pl.wd V).length = lv' at *
  obtain ⟨W5, hW5⟩ : ∃ W5, (w4.alloc (.cells #[.slice aa lu ac, .bool na] 92)).alloc (.cells #[.slice ba lv' bc, .bool nb] 92) = W5 := ⟨_, rfl⟩
  have hb5 : Below w4.heap.size w4 W5 := by rw [← hW5]; exact ((Below.refl _ _).alloc (Nat.le_refl _) _).alloc (by simp) _
  have hs4 : w.heap.size + 3 ≤ w4.heap.size := Nat.le_trans hs3 hb4.size
  have HB5 := Lib.hid (chain (chain HB3.out hb4 (by omega)) hb5 (by omega))
  have R5 := Lib.hid ((R0.out.below hb4).below hb5)
  have RA := Lib.hid (hra.below hb5)
  have RB := Lib.hid (hrb.below hb5)
  have PA : Hid (P2 W5 w4.heap.size 92 (.slice aa lu ac) (.bool na)) := Lib.hid (by rw [← hW5]; exact (P2.new _ _ _ _).alloc _)
  have PB : Hid (P2 W5 (w4.heap.size + 1) 92 (.slice ba lv' bc) (.bool nb)) := Lib.hid (by
    rw [← hW5]
    have := P2.new (w4.alloc (.cells #[.slice aa lu ac, .bool na] 92)) 92 (.slice ba lv' bc) (.bool nb)
    simpa using this)
  have hs5 : w.heap.size + 3 ≤ W5.heap.size := Nat.le_trans hs4 hb5.size
  clear p0 p1 q0 q1 P0 P1 R0 HB3 hs3 hb4 hra hrb hW3 hb5
  obtain ⟨W6, hW6⟩ : ∃ W6, W5.setCell ⟨w4.heap.size + 1, 1, none⟩ (.bool (!nb)) = W6 := ⟨_, rfl⟩
  obtain ⟨p0, p1, _, _⟩ := PA.out.cells
  obtain ⟨q0, q1, g0, g1⟩ := PB.out.cells
  have PA6 : Hid (P2 W6 w4.heap.size 92 (.slice aa lu ac) (.bool na)) := Lib.hid (by rw [← hW6]; exact PA.out.other (by omega))
  have PB6 : Hid (P2 W6 (w4.heap.size + 1) 92 (.slice ba lv' bc) (.bool (!nb))) := Lib.hid (by rw [← hW6]; exact PB.out.set1 _)
  have RA6 : Hid (Rd W6 (.slice aa lu ac) (Pl.wd U)) := Lib.hid (by rw [← hW6]; exact RA.out.clear PB.out (by simp))
  have RB6 : Hid (Rd W6 (.slice ba lv' bc) (Pl.wd V)) := Lib.hid (by rw [← hW6]; exact RB.out.clear PB.out (by simp))
  have R6 : Hid (P2 W6 (w.heap.size + 2) 43 (.bool false) (.string ⟨#[]⟩)) := Lib.hid (by rw [← hW6]; exact R5.out.other (by omega))
  have HB6 : Hid (Below w.heap.size w W6) := Lib.hid (by rw [← hW6]; exact HB5.out.setCell (p := ⟨w4.heap.size + 1, 1, none⟩) (by show w.heap.size ≤ w4.heap.size + 1; omega) _)
  have hs6 : w.heap.size + 3 ≤ W6.heap.size := by rw [← hW6]; simpa [World.setCell] using hs5
  obtain ⟨p60, p61, _, _⟩ := PA6.out.cells
  obtain ⟨q60, q61, _, _⟩ := PB6.out.cells
  go_wp2_with fail
  refine (HNA.out _ _ _ (by exact RA6.out) (by exact RB6.out)).mono ?_
  rintro e w7 ⟨v7, n7, V7, rfl, hr7, hsg, hb7⟩
  obtain ⟨a7, c7, rfl⟩ := hr7.form
  have HB7 := Lib.hid (chain HB6.out hb7 (by omega))
  have R7 := Lib.hid (R6.out.below hb7)
  have hs7 : w.heap.size + 3 ≤ w7.heap.size := Nat.le_trans hs6 hb7.size
  clear p0 p1 q0 q1 p60 p61 q60 q61 hb7 hW5 hW6
  go_wp2_with fail
  refine (HTD.out _ _ _ _ hsg hr7).mono ?_
  rintro e w8 ⟨rfl, hb8⟩
  have HB8 := Lib.hid (chain HB7.out hb8 (by omega))
  have R8 := Lib.hid (R7.out.below hb8)
  obtain ⟨r0, r1, f0, f1⟩ := R8.out.cells
  clear hb8
  go_wp2_with fail
  have hfin := R8.out.set (.bool tf) (.string ts)
  obtain ⟨k0, k1, _, _⟩ := hfin.cells
  refine bodyPost_ret (v := .tuple #[.agg #[.bool tf, .string ts], .int .i64 te]) (by simp [results, Tryz.results27, go_sem, k0, k1]) rfl ⟨rfl, below_set2 HB8.out (by omega) _ _⟩
end Go.Proofs.YtlodbibagmblkaaGreatDoor
namespace Go.Proofs.YtlodbibagmblkaaGreatDoor
open Go Go.RowKit Go.Lib
theorem Pl.intT_five : Pl.IntT 10 [53] 5 := by
  unfold Pl.IntT
  rw [if_neg (by omega)]
  exact ⟨by decide, by decide, by decide, by decide⟩
theorem Pl.wd_two : (Pl.wd 2).length = 1 := by
  rw [← Pl.wd_eq (xs := [2]) (V := 2) (by intro d hd; simp at hd; omega) (.inr ⟨[], 2, rfl, by omega⟩) (by decide)]
  rfl
theorem Pl.dgs_one : (bs (Pl.dgs 1)).toList.isEmpty = false := by
  simp [bs, ByteArray.toList_eq, Pl.dgs_empty]
/-- the literal of a whole number comes out -/
def IntP (R : Int) (k n b : Int) (t : ByteArray) (is : Bool) : Prop := ∃ s, IntLit R k n s ∧ b = 0 ∧ t = bs s ∧ is = true
theorem who_came {w w' : World} {R : Int} {e : Ending} (h : WhoOk w R e w') : Came w (IntP R) e w' := by
  obtain ⟨k, n, s, h1, h2, h3⟩ := h
  exact ⟨k, n, 0, bs s, true, ⟨s, h1, rfl, rfl, rfl⟩, h2, h3⟩
theorem fin_int {w w' : World} {R : Int} {e : Ending} (h : Came w (Fin (IntP R)) e w') : Came w (IntP R) e w' := by
  obtain ⟨a, b, c, d, f, h1, h2, h3⟩ := h
  refine ⟨a, b, c, d, f, ?_, h2, h3⟩
  rcases h1 with ⟨rfl, h⟩ | ⟨_, ⟨_, _, _, _, _, _, _, _, h⟩, _⟩
  · exact h
  · cases h
/-- a literal is a whole number -/
def ArgI (x : PT) (y : PV) (A : Int) : Prop := OfV x 73 y true ∧ Value.agg #[.bool y.g, .string y.s] = lof A ∧ Pl.Big A ∧ (∃ a n c, x.v = .slice a n c) ∧ ∃ a n c, y.v = .slice a n c
theorem small_big {n : Int} (h1 : -9223372036854775808 ≤ n) (h2 : n ≤ 9223372036854775808) : Pl.Big n := by
  unfold Pl.Big
  refine Nat.lt_of_le_of_lt (m := 9223372036854775808) (by omega) ?_
  exact Pl.lt_p (a := 8) (b := 4096) (by decide) (by decide)
theorem arg_small {n : Int} (h : FitsI n) : ArgI (tsm n) (vsm n) n := ⟨of_tsmF n 73 (.inl rfl) h, rfl, small_big (by unfold FitsI at h; omega) (by unfold FitsI at h; omega), ⟨_, _, _, rfl⟩, ⟨_, _, _, rfl⟩⟩
def tlg (l : List UInt8) : PT := ⟨5, 0, 0, bs l, .slice none 0 0⟩
def vlg (l : List UInt8) (n : Int) : PV := ⟨5, 0, 0, bs l, .slice none 0 0, decide (n < 0), bs (Pl.dgs n.natAbs)⟩
theorem of_tlg (l : List UInt8) (n : Int) (hl : l.length ≤ 300000) (hn : Pl.Big n) (ht : Pl.IntT 10 l n) : OfV (tlg l) 73 (vlg l n) (!decide (FitsI n)) := fun W => of_large l n none 0 W hl hn ht
theorem arg_large {l : List UInt8} {n : Int} (hl : l.length ≤ 300000) (hn : Pl.Big n) (ht : Pl.IntT 10 l n) (hf : ¬ FitsI n) : ArgI (tlg l) (vlg l n) n :=
  ⟨by have := of_tlg l n hl hn ht; rwa [decide_eq_false hf] at this, rfl, hn, ⟨_, _, _, rfl⟩, ⟨_, _, _, rfl⟩⟩
theorem two_all {α : Type} {p : α → Prop} {x y : α} (hx : p x) (hy : p y) : ∀ z ∈ [x, y], p z := by
  intro z hz
  simp only [List.mem_cons, List.not_mem_nil, or_false] at hz
  rcases hz with rfl | rfl
  · exact hx
  · exact hy
theorem toldv_big {n : Int} (h : Pl.Big n) : toldv n = .tuple #[lof n, .int .i64 0] := by unfold toldv; exact if_pos h
theorem do_two (n : Int) (f : Nat) (P : Int → Int → Int → ByteArray → Bool → Prop) (x x2 : PT) (y y2 : PV) (A B : Int) (av : Value) (w : World) (hn : -1000000 ≤ n ∧ n ≤ 1000000) (hi : ∀ w L, TabOk w L → InsAt w L n f) (h1 : ArgI x y A) (h2 : ArgI x2 y2 B) (h : TRow w av [x, x2])
    (hc : ∀ W v p, VRow W v [y, y2] → W.cell? ⟨p, 0, none⟩ = some (.func (.func f) #[] #[]) → p < W.heap.size → Calls Tryz.prog 24 #[v, .pointer (some ⟨p, 0, none⟩)] W (Came W P)) :
    Calls Tryz.prog 11 #[.int .i64 n, av] w (Came w (Fin P)) :=
  (do_all n ⟨#[73, 73]⟩ 24 [y, y2] [x, x2] P av w hn h rfl rfl (by simp) (by simp) (fun args W => callFunc_go Tryz.func24 rfl rfl args W)
    (has_ints hi hc) (two_all h1.2.2.2.2 h2.2.2.2.2) (two_all h1.2.2.2.1 h2.2.2.2.1) (hof2 h1.1 h2.1)).mono fun e w' h => done_came h
theorem do1 (x x2 : PT) (y y2 : PV) (A B : Int) (av : Value) (w : World) (h1 : ArgI x y A) (h2 : ArgI x2 y2 B) (hR : Pl.Big (A + B)) (h : TRow w av [x, x2]) : Calls Tryz.prog 11 #[.int .i64 1, av] w (Came w (IntP (A + B))) :=
  (do_two 1 26 (IntP (A + B)) x x2 y y2 A B av w (by omega) (fun w L h => h.i1) h1 h2 h (fun W v p hv hp hpl => (cl_add p (A + B) y y2 v W hv hp hpl (fun W => by
    rw [h1.2.1, h2.2.1]
    refine (ladd_any A B W h1.2.2.1 h2.2.2.1).mono ?_
    rintro e w' ⟨rfl, hb⟩
    exact ⟨by rw [toldv_big hR], hb⟩) hR).mono fun e w' h => who_came h)).mono fun e w' h => fin_int h
theorem do2 (x x2 : PT) (y y2 : PV) (A B : Int) (av : Value) (w : World) (h1 : ArgI x y A) (h2 : ArgI x2 y2 B) (hR : Pl.Big (A - B)) (h : TRow w av [x, x2]) : Calls Tryz.prog 11 #[.int .i64 2, av] w (Came w (IntP (A - B))) :=
  (do_two 2 27 (IntP (A - B)) x x2 y y2 A B av w (by omega) (fun w L h => h.i2) h1 h2 h (fun W v p hv hp hpl => (cl_sub p (A - B) y y2 v W hv hp hpl (fun W => by
    rw [h1.2.1, h2.2.1]
    refine (lsub_any A B W h1.2.2.1 h2.2.2.1).mono ?_
    rintro e w' ⟨rfl, hb⟩
    exact ⟨by rw [toldv_big hR], hb⟩) hR).mono fun e w' h => who_came h)).mono fun e w' h => fin_int h
/-- 7 / 2 is no whole number -/
theorem do10_72 (av : Value) (w : World) (h : TRow w av [tsm 7, tsm 2]) : Calls Tryz.prog 11 #[.int .i64 10, av] w (Came w (Just 0 0 ⟨#[]⟩ false)) :=
  (do_two 10 29 (Just 0 0 ⟨#[]⟩ false) (tsm 7) (tsm 2) (vsm 7) (vsm 2) 7 2 av w (by omega) (fun w L h => h.i10) (arg_small (by unfold FitsI; omega)) (arg_small (by unfold FitsI; omega)) h (fun W v p hv hp hpl =>
    (cl_quo_err p (decide ((3 : Int) < 0)) (bs (Pl.dgs 3)) 1 (vsm 7) (vsm 2) v W hv hp hpl (fun W => whole_only _ _ _ (decide ((1 : Int) < 0)) _ _ _ (bs (Pl.dgs 1)) W (fun W => ldiv_same _ _ _ _ _ _ _ _ W (fun W => lquo_any 7 2 W (small_big (by omega) (by omega)) (small_big (by omega) (by omega)) (by omega) (divHyp_one (Pl.lt_p (a := 1) (b := 4096) (by decide) (by decide)) (Pl.wd_two)) ) (.inr rfl)) (Pl.dgs_one)) (by omega)).mono fun e w' h => came_just h)).mono fun e w' h => just_no h rfl
theorem has_int_tab {n : Int} {f : Nat} (hi : ∀ w L, TabOk w L → InsAt w L n f) : ∀ W, Calls Tryz.prog 18 #[] W fun e W' => ∃ b L fn caps, e = .returned (.map (some b)) ∧ MapAt W' b L ∧ Below W.heap.size W W' ∧ lk L n = some (primv ⟨#[73, 73]⟩ (.func (.func fn) #[] caps)) := fun W =>
  (table_any W).mono fun e W' ⟨b, L, h1, h2, h3, h4⟩ => by
    obtain ⟨p, q1, q2, q3⟩ := hi W' L h3
    exact ⟨b, L, _, _, h1, h2, h4, q1⟩
/-- a large 5 is no value -/
theorem do1_bad (av : Value) (w : World) (h : TRow w av [tlg [53], tsm 1]) : Calls Tryz.prog 11 #[.int .i64 1, av] w (Came w (Just 0 0 ⟨#[]⟩ false)) :=
  do_no 1 ⟨#[73, 73]⟩ 0 [vlg [53] 5, vsm 1] [tlg [53], tsm 1] av w (by omega) h rfl rfl (by simp) (by simp) (by simp) (has_int_tab fun w L h => h.i1) (by simp [vlg, vsm]) (by simp [tlg, tsm])
    (hof2 (by have := of_tlg [53] 5 (by simp) (small_big (by omega) (by omega)) Pl.intT_five; rwa [decide_eq_true (show FitsI 5 by unfold FitsI; omega)] at this) (of_tsmF 1 73 (.inl rfl) (by unfold FitsI; omega)))
theorem arity68 (w : World) : Calls Tryz.prog 13 #[.int .i64 68] w fun e w' => e = .returned (.int .i64 3) ∧ Below w.heap.size w w' :=
  arity_has 68 ⟨#[83, 76, 76]⟩ (.func (.func 117) #[] #[]) w (by omega) ⟨_, _, rfl⟩ fun W => (table_any W).mono fun e W' ⟨b, L, h1, h2, h3, h4⟩ => ⟨b, L, h1, h2, h4, h3.tx 68 _ rfl⟩
theorem arity0 (w : World) : Calls Tryz.prog 13 #[.int .i64 0] w fun e w' => e = .returned (.int .i64 (-1)) ∧ Below w.heap.size w w' :=
  arity_none 0 w (by omega) fun W => (table_any W).mono fun e W' ⟨b, L, h1, h2, h3, h4⟩ => ⟨b, L, h1, h2, h4, h3.no⟩
end Go.Proofs.YtlodbibagmblkaaGreatDoor
namespace Go.Proofs.YtlodbibagmblkaaGreatDoor
open Go Go.RowKit Go.Lib
set_option maxRecDepth 4000 in
set_option maxHeartbeats 4000000 in
theorem cl56 (x : PV) (s : ByteArray) (v : Value) (w : World) (h : VRow w v [x]) (hs : s.size ≤ 65536) (hq : ∀ W, Below w.heap.size w W → Calls Tryz.prog 108 #[.int .u64 x.b] W fun e w' => e = .returned (.string s) ∧ Below W.heap.size W w') :
    Calls Tryz.prog 107 #[v] w (LitOk w (litv 8 0 0 s (.slice none 0 0)) true) := by
  obtain ⟨W1, hW1⟩ : ∃ W1, w.alloc (.cells #[.int .u8 0, .int .i64 0, .int .u64 0, .string ⟨#[]⟩, .slice none 0 0] 26) = W1 := ⟨_, rfl⟩
  have HP : Hid (P5 W1 w.heap.size (.int .u8 0) (.int .i64 0) (.int .u64 0) (.string ⟨#[]⟩) (.slice none 0 0)) := Lib.hid (by rw [← hW1]; exact P5.new _ _ _ _ _ _)
  have HB : Hid (Below w.heap.size w W1) := Lib.hid (by rw [← hW1]; exact (Below.refl _ _).alloc (Nat.le_refl _) _)
  obtain ⟨gv, cv, rfl, hg0, hc0⟩ := h
  have hc : ∀ (i : Nat) (q : PV), [x][i]? = some q → ∀ (j : Nat) (u : Value), q.cells[j]? = some u → W1.cell? ⟨gv, i * 7 + j, none⟩ = some u := fun i q hq j u hu => by rw [HB.out.cell (p := ⟨gv, i * 7 + j, none⟩) hg0]; exact hc0 i q hq j u hu
  have hg := Nat.lt_of_lt_of_le hg0 HB.out.size
  obtain ⟨c0, c1, c2, c3, c4, f0, f1, f2, f3, f4⟩ := HP.out.cells
  have v0b : W1.cell? ⟨gv, 2, none⟩ = _ := hc 0 _ rfl 2 _ rfl
  clear hc hc0
  simp only [List.length_cons, List.length_nil] at *
  have HSM := Lib.hid (fun W => ptext_any s W hs)
  unfold litv at HSM
  have HQ := Lib.hid (hq W1 HB.out)
  clear hq
  go_enter Tryz.func107, Tryz.ntmps107
  go_wp2_with fail
  refine (HQ.out).mono ?_
  rintro e w2 ⟨rfl, hb2⟩
  replace HP := Lib.hid (HP.out.below hb2)
  replace HB := Lib.hid (HB.out.trans (hb2.mono HB.out.size))
  clear v0b hg hb2
  go_wp2_with fail
  refine (HSM.out _).mono ?_
  rintro e w3 ⟨rfl, hb3⟩
  have HP2 := Lib.hid (HP.out.below hb3)
  have HB2 := Lib.hid (HB.out.trans (hb3.mono (by have := HP.out.lt; omega)))
  clear c0 c1 c2 c3 c4 f0 f1 f2 f3 f4
  obtain ⟨c0, c1, c2, c3, c4, f0, f1, f2, f3, f4⟩ := HP2.out.cells
  go_wp2_with fail
  obtain ⟨k0, k1, k2, k3, k4, _, _, _, _, _⟩ := (HP2.out.set (.int .u8 8) (.int .i64 0) (.int .u64 0) (.string s) (.slice none 0 0)).cells
  exact bodyPost_ret (v := .tuple #[.agg #[.int .u8 8, .int .i64 0, .int .u64 0, .string s, .slice none 0 0], .bool true]) (by simp [results, Tryz.results107, go_sem, k0, k1, k2, k3, k4]) rfl ⟨rfl, below_set5 HB2.out (Nat.le_refl _) _ _ _ _ _⟩
set_option maxRecDepth 4000 in
set_option maxHeartbeats 4000000 in
theorem cl70 (x : PV) (R : Int → Int → ByteArray → Int → Prop) (v : Value) (w : World) (h : VRow w v [x]) (hq : ∀ W, Below w.heap.size w W → Calls Tryz.prog 121 #[.string x.t] W fun e w' => ∃ k n t en, R k n t en ∧ e = .returned (.tuple #[litv k n 0 t (.slice none 0 0), .int .i64 en]) ∧ Below W.heap.size W w') :
    Calls Tryz.prog 120 #[v] w fun e w' => ∃ k n t en, R k n t en ∧ LitOk w (litv k n 0 t (.slice none 0 0)) (en == 0) e w' := by
  obtain ⟨W1, hW1⟩ : ∃ W1, w.alloc (.cells #[.int .u8 0, .int .i64 0, .int .u64 0, .string ⟨#[]⟩, .slice none 0 0] 26) = W1 := ⟨_, rfl⟩
  have HP : Hid (P5 W1 w.heap.size (.int .u8 0) (.int .i64 0) (.int .u64 0) (.string ⟨#[]⟩) (.slice none 0 0)) := Lib.hid (by rw [← hW1]; exact P5.new _ _ _ _ _ _)
  have HB : Hid (Below w.heap.size w W1) := Lib.hid (by rw [← hW1]; exact (Below.refl _ _).alloc (Nat.le_refl _) _)
  obtain ⟨gv, cv, rfl, hg0, hc0⟩ := h
  have hc : ∀ (i : Nat) (q : PV), [x][i]? = some q → ∀ (j : Nat) (u : Value), q.cells[j]? = some u → W1.cell? ⟨gv, i * 7 + j, none⟩ = some u := fun i q hq j u hu => by rw [HB.out.cell (p := ⟨gv, i * 7 + j, none⟩) hg0]; exact hc0 i q hq j u hu
  have hg := Nat.lt_of_lt_of_le hg0 HB.out.size
  obtain ⟨c0, c1, c2, c3, c4, f0, f1, f2, f3, f4⟩ := HP.out.cells
  have v0t : W1.cell? ⟨gv, 3, none⟩ = _ := hc 0 _ rfl 3 _ rfl
  clear hc hc0
  simp only [List.length_cons, List.length_nil] at *
  have HQ := Lib.hid (hq W1 HB.out)
  unfold litv at HQ
  clear hq
  unfold litv LitOk
  go_enter Tryz.func120, Tryz.ntmps120
  go_wp2_with fail
  refine (HQ.out).mono ?_
  rintro e w2 ⟨k, n, t, en, hR, rfl, hb2⟩
  have HR := Lib.hid hR
  clear hR
  have hpl := HP.out.lt
  have hbl := HB.out.size
  have HPA := Lib.hid (HP.out.below hb2)
  replace HP := Lib.hid ((HP.out.below hb2).alloc (.cells #[.int .u8 k, .int .i64 n, .int .u64 0, .string t, .slice none 0 0] 26))
  replace HB := Lib.hid (HB.out.trans (hb2.mono hbl))
  have hsz2 := HB.out.size
  have HN := Lib.hid (P5.new w2 (.int .u8 k) (.int .i64 n) (.int .u64 0) (.string t) (.slice none 0 0))
  have hlt : w.heap.size < w2.heap.size := Nat.lt_of_lt_of_le hpl hb2.size
  clear c0 c1 c2 c3 c4 f0 f1 f2 f3 f4 v0t hg hb2 hpl hbl
  obtain ⟨c0, c1, c2, c3, c4, f0, f1, f2, f3, f4⟩ := HPA.out.cells
  obtain ⟨d0, d1, d2, d3, d4, e0, e1, e2, e3, e4⟩ := HN.out.cells
  go_wp2_with fail
  obtain ⟨k0, k1, k2, k3, k4, _, _, _, _, _⟩ := ((HPA.out.set (.int .u8 k) (.int .i64 n) (.int .u64 0) (.string t) (.slice none 0 0)).alloc (.cells #[.int .u8 k, .int .i64 n, .int .u64 0, .string t, .slice none 0 0] 26)).cells
  exact bodyPost_ret (v := .tuple #[.agg #[.int .u8 k, .int .i64 n, .int .u64 0, .string t, .slice none 0 0], .bool (en == 0)]) (by simp [results, Tryz.results120, go_sem, k0, k1, k2, k3, k4]) rfl ⟨k, n, t, en, HR.out, rfl, (below_set5 HB.out (Nat.le_refl _) _ _ _ _ _).alloc (by unfold set5; simpa [World.setCell] using hsz2) _⟩
set_option maxHeartbeats 1000000 in
theorem bits_any (n en : Int) (w : World) : Calls Tryz.prog 53 #[.int .u64 n, .int .i64 en] w fun e w' => e = .returned (.tuple #[litv 6 0 n ⟨#[]⟩ (.slice none 0 0), .bool (en == 0)]) ∧ Below w.heap.size w w' := by
  unfold litv
  obtain ⟨W1, hW1⟩ : ∃ W1, w.alloc (.cells #[.int .u8 0, .int .i64 0, .int .u64 0, .string ⟨#[]⟩, .slice none 0 0] 26) = W1 := ⟨_, rfl⟩
  have HP : Hid (P5 W1 w.heap.size (.int .u8 0) (.int .i64 0) (.int .u64 0) (.string ⟨#[]⟩) (.slice none 0 0)) := Lib.hid (by rw [← hW1]; exact P5.new _ _ _ _ _ _)
  have HB : Hid (Below w.heap.size w W1) := Lib.hid (by rw [← hW1]; exact (Below.refl _ _).alloc (Nat.le_refl _) _)
  obtain ⟨c0, c1, c2, c3, c4, f0, f1, f2, f3, f4⟩ := HP.out.cells
  go_enter Tryz.func53, Tryz.ntmps53
  go_wp2_with fail
  obtain ⟨k0, k1, k2, k3, k4, _, _, _, _, _⟩ := (HP.out.set (.int .u8 6) (.int .i64 0) (.int .u64 n) (.string ⟨#[]⟩) (.slice none 0 0)).cells
  exact bodyPost_ret (v := .tuple #[.agg #[.int .u8 6, .int .i64 0, .int .u64 n, .string ⟨#[]⟩, .slice none 0 0], .bool (en == 0)]) (by simp [results, Tryz.results53, go_sem, k0, k1, k2, k3, k4]) rfl ⟨rfl, below_set5 HB.out (Nat.le_refl _) _ _ _ _ _⟩
set_option maxRecDepth 4000 in
set_option maxHeartbeats 4000000 in
theorem cl71 (x : PV) (r en : Int) (v : Value) (w : World) (h : VRow w v [x]) (hq : ∀ W, Below w.heap.size w W → Calls Tryz.prog 123 #[.string x.t] W fun e w' => e = .returned (.tuple #[.int .u64 r, .int .i64 en]) ∧ Below W.heap.size W w') :
    Calls Tryz.prog 122 #[v] w (LitOk w (litv 6 0 r ⟨#[]⟩ (.slice none 0 0)) (en == 0)) := by
  obtain ⟨W1, hW1⟩ : ∃ W1, w.alloc (.cells #[.int .u8 0, .int .i64 0, .int .u64 0, .string ⟨#[]⟩, .slice none 0 0] 26) = W1 := ⟨_, rfl⟩
  have HP : Hid (P5 W1 w.heap.size (.int .u8 0) (.int .i64 0) (.int .u64 0) (.string ⟨#[]⟩) (.slice none 0 0)) := Lib.hid (by rw [← hW1]; exact P5.new _ _ _ _ _ _)
  have HB : Hid (Below w.heap.size w W1) := Lib.hid (by rw [← hW1]; exact (Below.refl _ _).alloc (Nat.le_refl _) _)
  obtain ⟨gv, cv, rfl, hg0, hc0⟩ := h
  have hc : ∀ (i : Nat) (q : PV), [x][i]? = some q → ∀ (j : Nat) (u : Value), q.cells[j]? = some u → W1.cell? ⟨gv, i * 7 + j, none⟩ = some u := fun i q hq j u hu => by rw [HB.out.cell (p := ⟨gv, i * 7 + j, none⟩) hg0]; exact hc0 i q hq j u hu
  have hg := Nat.lt_of_lt_of_le hg0 HB.out.size
  obtain ⟨c0, c1, c2, c3, c4, f0, f1, f2, f3, f4⟩ := HP.out.cells
  have v0t : W1.cell? ⟨gv, 3, none⟩ = _ := hc 0 _ rfl 3 _ rfl
  clear hc hc0
  simp only [List.length_cons, List.length_nil] at *
  have HSM := Lib.hid (fun W => bits_any r en W)
  unfold litv at HSM
  have HQ := Lib.hid (hq W1 HB.out)
  clear hq
  go_enter Tryz.func122, Tryz.ntmps122
  go_wp2_with fail
  refine (HQ.out).mono ?_
  rintro e w2 ⟨rfl, hb2⟩
  replace HP := Lib.hid (HP.out.below hb2)
  replace HB := Lib.hid (HB.out.trans (hb2.mono HB.out.size))
  clear v0t hg hb2
  go_wp2_with fail
  refine (HSM.out _).mono ?_
  rintro e w3 ⟨rfl, hb3⟩
  have HP2 := Lib.hid (HP.out.below hb3)
  have HB2 := Lib.hid (HB.out.trans (hb3.mono (by have := HP.out.lt; omega)))
  clear c0 c1 c2 c3 c4 f0 f1 f2 f3 f4
  obtain ⟨c0, c1, c2, c3, c4, f0, f1, f2, f3, f4⟩ := HP2.out.cells
  go_wp2_with fail
  obtain ⟨k0, k1, k2, k3, k4, _, _, _, _, _⟩ := (HP2.out.set (.int .u8 6) (.int .i64 0) (.int .u64 r) (.string ⟨#[]⟩) (.slice none 0 0)).cells
  exact bodyPost_ret (v := .tuple #[.agg #[.int .u8 6, .int .i64 0, .int .u64 r, .string ⟨#[]⟩, .slice none 0 0], .bool (en == 0)]) (by simp [results, Tryz.results122, go_sem, k0, k1, k2, k3, k4]) rfl ⟨rfl, below_set5 HB2.out (Nat.le_refl _) _ _ _ _ _⟩
set_option maxRecDepth 4000 in
set_option maxHeartbeats 4000000 in
theorem cl20 (x y : PV) (R : ByteArray → Prop) (v : Value) (w : World) (h : VRow w v [x, y]) (hy1 : 2 ≤ y.n) (hy2 : y.n ≤ 36) (hq : ∀ W, Calls Tryz.prog 50 #[.agg #[.bool x.g, .string x.s], .int .i64 y.n] W fun e w' => ∃ s, (R s ∧ s.size ≤ 65536) ∧ e = .returned (.tuple #[.string s, .int .i64 0]) ∧ Below W.heap.size W w') :
    Calls Tryz.prog 49 #[v] w fun e w' => ∃ s, R s ∧ LitOk w (litv 8 0 0 s (.slice none 0 0)) true e w' := by
  obtain ⟨W1, hW1⟩ : ∃ W1, w.alloc (.cells #[.int .u8 0, .int .i64 0, .int .u64 0, .string ⟨#[]⟩, .slice none 0 0] 26) = W1 := ⟨_, rfl⟩
  have HP : Hid (P5 W1 w.heap.size (.int .u8 0) (.int .i64 0) (.int .u64 0) (.string ⟨#[]⟩) (.slice none 0 0)) := Lib.hid (by rw [← hW1]; exact P5.new _ _ _ _ _ _)
  have HB : Hid (Below w.heap.size w W1) := Lib.hid (by rw [← hW1]; exact (Below.refl _ _).alloc (Nat.le_refl _) _)
  obtain ⟨gv, cv, rfl, hg0, hc0⟩ := h
  have hc : ∀ (i : Nat) (q : PV), [x, y][i]? = some q → ∀ (j : Nat) (u : Value), q.cells[j]? = some u → W1.cell? ⟨gv, i * 7 + j, none⟩ = some u := fun i q hq j u hu => by rw [HB.out.cell (p := ⟨gv, i * 7 + j, none⟩) hg0]; exact hc0 i q hq j u hu
  have hg := Nat.lt_of_lt_of_le hg0 HB.out.size
  obtain ⟨c0, c1, c2, c3, c4, f0, f1, f2, f3, f4⟩ := HP.out.cells
  have v0g : W1.cell? ⟨gv, 5, none⟩ = _ := hc 0 _ rfl 5 _ rfl
  have v0s : W1.cell? ⟨gv, 6, none⟩ = _ := hc 0 _ rfl 6 _ rfl
  have v1n : W1.cell? ⟨gv, 8, none⟩ = _ := hc 1 _ rfl 1 _ rfl
  clear hc hc0
  simp only [List.length_cons, List.length_nil] at *
  have HSM := Lib.hid (fun W s hs => ptext_any s W hs)
  unfold litv at HSM
  have HQ := Lib.hid hq
  clear hq
  have d1 : decide (y.n < 2) = false := decide_eq_false (by omega)
  have d2 : decide (36 < y.n) = false := decide_eq_false (by omega)
  unfold litv LitOk
  go_enter Tryz.func49, Tryz.ntmps49
  go_wp2_with fail
  have BD := Lib.hid (show Below W1.heap.size W1 W1.drew from (Below.refl _ W1).drew)
  have HQD := Lib.hid (HQ.out W1.drew)
  have HS : Hid (∀ W, Below W1.heap.size W1 W → W.cell? ⟨gv, 5, none⟩ = some (.bool x.g) ∧ W.cell? ⟨gv, 6, none⟩ = some (.string x.s) ∧ W.cell? ⟨gv, 8, none⟩ = some (.int .i64 y.n)) := Lib.hid (fun W hb => ⟨by rw [hb.cell (p := ⟨gv, 5, none⟩) hg]; exact v0g, by rw [hb.cell (p := ⟨gv, 6, none⟩) hg]; exact v0s, by rw [hb.cell (p := ⟨gv, 8, none⟩) hg]; exact v1n⟩)
  go_region_held3 (fun W => W.cell? ⟨gv, 5, none⟩ = some (.bool x.g) ∧ W.cell? ⟨gv, 6, none⟩ = some (.string x.s) ∧ W.cell? ⟨gv, 8, none⟩ = some (.int .i64 y.n)) (first | with_reducible exact ⟨v0g, v0s, v1n⟩ | with_reducible exact HS.out _ BD.out | with_reducible exact HS.out _ hb2) ((go_at_call 50; (with_reducible refine (HQD.out).mono ?_); rintro e w2 ⟨s, ⟨hR, hs⟩, rfl, hb2d⟩; have hb2 : Below W1.heap.size W1 w2 := (BD.out).trans hb2d; clear hb2d))
  all_goals
    have HR := Lib.hid hR
    have HSM2 := Lib.hid (fun W => HSM.out W s hs)
    replace HP := Lib.hid (HP.out.below hb2)
    replace HB := Lib.hid (HB.out.trans (hb2.mono HB.out.size))
    clear v0g v0s v1n hg hb2 hR hs
    go_wp2_with fail
    refine (HSM2.out _).mono ?_
    rintro e w3 ⟨rfl, hb3⟩
    have HP2 := Lib.hid (HP.out.below hb3)
    have HB2 := Lib.hid (HB.out.trans (hb3.mono (by have := HP.out.lt; omega)))
    clear c0 c1 c2 c3 c4 f0 f1 f2 f3 f4
    obtain ⟨c0, c1, c2, c3, c4, f0, f1, f2, f3, f4⟩ := HP2.out.cells
    go_wp2_with fail
    obtain ⟨k0, k1, k2, k3, k4, _, _, _, _, _⟩ := (HP2.out.set (.int .u8 8) (.int .i64 0) (.int .u64 0) (.string s) (.slice none 0 0)).cells
    exact bodyPost_ret (v := .tuple #[.agg #[.int .u8 8, .int .i64 0, .int .u64 0, .string s, .slice none 0 0], .bool true]) (by simp [results, Tryz.results49, go_sem, k0, k1, k2, k3, k4]) rfl ⟨s, HR.out, rfl, below_set5 HB2.out (Nat.le_refl _) _ _ _ _ _⟩
end Go.Proofs.YtlodbibagmblkaaGreatDoor
