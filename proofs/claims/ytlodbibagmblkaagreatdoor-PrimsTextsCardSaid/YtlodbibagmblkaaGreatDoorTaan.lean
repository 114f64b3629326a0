/- Literals that come out: the contracts of fits, small, truth, text, whole. A literal as a value: the contract of of. What the primitives of strings do: the closures 61, 62, 63, 66, 67, 68 (printed by gen_cls.py). An integer as a literal: the contract of whole (printed by gen_who.py). Maps from integers to whatever values: what is laid in, what is found. The table of strings, symbols and characters: the contract of texts. The table's integers: what lays a primitive of two integers; the orders. -/
import Derived.Test.YtlodbibagmblkaaGreatDoorTaam
import Derived.Maps.RangeWalk
namespace Go.Proofs.YtlodbibagmblkaaGreatDoor
open Go.RowKit Go.Lib
/-- a block of five cells: a literal -/
def P5 (W : World) (k : Nat) (a b c d e : Value) : Prop := W.heap[k]? = some (.cells #[a, b, c, d, e] 26)
theorem P5.new (w : World) (a b c d e : Value) : P5 (w.alloc (.cells #[a, b, c, d, e] 26)) w.heap.size a b c d e := heap_alloc_at _ _
theorem P5.lt {W : World} {k : Nat} {a b c d e : Value} (h : P5 W k a b c d e) : k < W.heap.size := (Array.getElem?_eq_some_iff.1 h).1
theorem P5.under {W W' : World} {k B : Nat} {a b c d e : Value} (h : P5 W k a b c d e) (hb : Below B W W') (hk : k < B) : P5 W' k a b c d e := by
  unfold P5; rw [hb.block _ hk]; exact h
theorem P5.below {W W' : World} {k : Nat} {a b c d e : Value} (h : P5 W k a b c d e) (hb : Below W.heap.size W W') : P5 W' k a b c d e := h.under hb h.lt
theorem P5.alloc {W : World} {k : Nat} {a b c d e : Value} (h : P5 W k a b c d e) (o : Obj) : P5 (W.alloc o) k a b c d e := h.below ((Below.refl _ _).alloc (Nat.le_refl _) _)
structure P5.Cells (W : World) (k : Nat) (a b c d e : Value) : Prop where
  c0 : W.cell? ⟨k, 0, none⟩ = some a
  c1 : W.cell? ⟨k, 1, none⟩ = some b
  c2 : W.cell? ⟨k, 2, none⟩ = some c
  c3 : W.cell? ⟨k, 3, none⟩ = some d
  c4 : W.cell? ⟨k, 4, none⟩ = some e
  f0 : W.frozen? ⟨k, 0, none⟩ = false
  f1 : W.frozen? ⟨k, 1, none⟩ = false
  f2 : W.frozen? ⟨k, 2, none⟩ = false
  f3 : W.frozen? ⟨k, 3, none⟩ = false
  f4 : W.frozen? ⟨k, 4, none⟩ = false
theorem P5.cells {W : World} {k : Nat} {a b c d e : Value} (h : P5 W k a b c d e) : P5.Cells W k a b c d e := by
  unfold P5 at h
  constructor <;> simp [World.cell?, World.frozen?, h]
abbrev set5 (W : World) (k : Nat) (a b c d e : Value) : World := ((((W.setCell ⟨k, 0, none⟩ a).setCell ⟨k, 1, none⟩ b).setCell ⟨k, 2, none⟩ c).setCell ⟨k, 3, none⟩ d).setCell ⟨k, 4, none⟩ e
theorem P5.set {W : World} {k : Nat} {a b c d e : Value} (h : P5 W k a b c d e) (a' b' c' d' e' : Value) : P5 (set5 W k a' b' c' d' e') k a' b' c' d' e' := by
  unfold P5 set5 at *
  simp only [World.setCell, Array.getElem?_modify, if_pos, h]
  rfl
theorem below_set5 {w W : World} {k B : Nat} (hb : Below B w W) (hk : B ≤ k) (a b c d e : Value) : Below B w (set5 W k a b c d e) :=
  ((((hb.setCell (p := ⟨k, 0, none⟩) hk _).setCell (p := ⟨k, 1, none⟩) hk _).setCell (p := ⟨k, 2, none⟩) hk _).setCell (p := ⟨k, 3, none⟩) hk _).setCell (p := ⟨k, 4, none⟩) hk _
theorem P2.set5 {W : World} {k j : Nat} {T : TypeId} {a b : Value} (h : P2 W k T a b) (hne : j ≠ k) (x0 x1 x2 x3 x4 : Value) : P2 (set5 W j x0 x1 x2 x3 x4) k T a b := ((((h.other hne).other hne).other hne).other hne).other hne
/-- a literal as a value -/
def litv (k n b : Int) (t : ByteArray) (v : Value) : Value := .agg #[.int .u8 k, .int .i64 n, .int .u64 b, .string t, v]
def nolit : Value := litv 0 0 0 ⟨#[]⟩ (.slice none 0 0)
def FitsI (n : Int) : Prop := -1152921504606846976 ≤ n ∧ n ≤ 1152921504606846975
instance (n : Int) : Decidable (FitsI n) := by unfold FitsI; infer_instance
set_option maxHeartbeats 1000000 in
theorem fits_any (n : Int) (w : World) : Calls Tryz.prog 58 #[.int .i64 n] w fun e w' => e = .returned (.bool (decide (FitsI n))) ∧ w = w' := by
  by_cases h1 : -1152921504606846976 ≤ n
  · have d1 : decide (-1152921504606846976 ≤ n) = true := decide_eq_true h1
    by_cases h2 : n ≤ 1152921504606846975
    · have d2 : decide (n ≤ 1152921504606846975) = true := decide_eq_true h2
      have HR := Lib.hid (show decide (FitsI n) = true from decide_eq_true ⟨h1, h2⟩)
      go_enter Tryz.func58, Tryz.ntmps58
      go_wp2_with fail
      go_ret
      exact ⟨by rw [HR.out]; rfl, rfl⟩
    · have d2 : decide (n ≤ 1152921504606846975) = false := decide_eq_false h2
      have HR := Lib.hid (show decide (FitsI n) = false from decide_eq_false (fun h => h2 h.2))
      go_enter Tryz.func58, Tryz.ntmps58
      go_wp2_with fail
      go_ret
      exact ⟨by rw [HR.out]; rfl, rfl⟩
  · have d1 : decide (-1152921504606846976 ≤ n) = false := decide_eq_false h1
    have HR := Lib.hid (show decide (FitsI n) = false from decide_eq_false (fun h => h1 h.1))
    go_enter Tryz.func58, Tryz.ntmps58
    go_wp2_with fail
    go_ret
    exact ⟨by rw [HR.out]; rfl, rfl⟩
set_option maxHeartbeats 1000000 in
theorem psmall_any (n : Int) (w : World) : Calls Tryz.prog 64 #[.int .i64 n] w fun e w' => e = .returned (litv 4 n 0 ⟨#[]⟩ (.slice none 0 0)) ∧ Below w.heap.size w w' := by
  obtain ⟨W1, hW1⟩ : ∃ W1, w.alloc (.cells #[.int .u8 0, .int .i64 0, .int .u64 0, .string ⟨#[]⟩, .slice none 0 0] 26) = W1 := ⟨_, rfl⟩
  have HP : Hid (P5 W1 w.heap.size (.int .u8 0) (.int .i64 0) (.int .u64 0) (.string ⟨#[]⟩) (.slice none 0 0)) := Lib.hid (by rw [← hW1]; exact P5.new _ _ _ _ _ _)
  have HB : Hid (Below w.heap.size w W1) := Lib.hid (by rw [← hW1]; exact (Below.refl _ _).alloc (Nat.le_refl _) _)
  obtain ⟨c0, c1, c2, c3, c4, f0, f1, f2, f3, f4⟩ := HP.out.cells
  go_enter Tryz.func64, Tryz.ntmps64
  go_wp2_with fail
  obtain ⟨k0, k1, k2, k3, k4, _, _, _, _, _⟩ := (HP.out.set (.int .u8 4) (.int .i64 n) (.int .u64 0) (.string ⟨#[]⟩) (.slice none 0 0)).cells
  exact bodyPost_ret (v := litv 4 n 0 ⟨#[]⟩ (.slice none 0 0)) (by simp [results, Tryz.results64, go_sem, litv, k0, k1, k2, k3, k4]) rfl ⟨rfl, below_set5 HB.out (Nat.le_refl _) _ _ _ _ _⟩
set_option maxHeartbeats 1000000 in
theorem ptext_any (s : ByteArray) (w : World) (hs : s.size ≤ 65536) : Calls Tryz.prog 51 #[.string s] w fun e w' => e = .returned (.tuple #[litv 8 0 0 s (.slice none 0 0), .bool true]) ∧ Below w.heap.size w w' := by
  obtain ⟨W1, hW1⟩ : ∃ W1, w.alloc (.cells #[.int .u8 0, .int .i64 0, .int .u64 0, .string ⟨#[]⟩, .slice none 0 0] 26) = W1 := ⟨_, rfl⟩
  have HP : Hid (P5 W1 w.heap.size (.int .u8 0) (.int .i64 0) (.int .u64 0) (.string ⟨#[]⟩) (.slice none 0 0)) := Lib.hid (by rw [← hW1]; exact P5.new _ _ _ _ _ _)
  have HB : Hid (Below w.heap.size w W1) := Lib.hid (by rw [← hW1]; exact (Below.refl _ _).alloc (Nat.le_refl _) _)
  obtain ⟨c0, c1, c2, c3, c4, f0, f1, f2, f3, f4⟩ := HP.out.cells
  have hd : decide ((s.size : Int) ≤ 65536) = true := decide_eq_true (by omega)
  go_enter Tryz.func51, Tryz.ntmps51
  go_wp2_with fail
  obtain ⟨k0, k1, k2, k3, k4, _, _, _, _, _⟩ := (HP.out.set (.int .u8 8) (.int .i64 0) (.int .u64 0) (.string s) (.slice none 0 0)).cells
  exact bodyPost_ret (v := .tuple #[litv 8 0 0 s (.slice none 0 0), .bool true]) (by simp [results, Tryz.results51, go_sem, litv, k0, k1, k2, k3, k4]) rfl ⟨rfl, below_set5 HB.out (Nat.le_refl _) _ _ _ _ _⟩
end Go.Proofs.YtlodbibagmblkaaGreatDoor
namespace Go.Proofs.YtlodbibagmblkaaGreatDoor
open Go.RowKit Go.Lib
/-- a block of seven cells: a value -/
def P7 (W : World) (k : Nat) (a b c d e f g : Value) : Prop := W.heap[k]? = some (.cells #[a, b, c, d, e, f, g] 54)
theorem P7.new (w : World) (a b c d e f g : Value) : P7 (w.alloc (.cells #[a, b, c, d, e, f, g] 54)) w.heap.size a b c d e f g := heap_alloc_at _ _
theorem P7.lt {W : World} {k : Nat} {a b c d e f g : Value} (h : P7 W k a b c d e f g) : k < W.heap.size := (Array.getElem?_eq_some_iff.1 h).1
theorem P7.under {W W' : World} {k B : Nat} {a b c d e f g : Value} (h : P7 W k a b c d e f g) (hb : Below B W W') (hk : k < B) : P7 W' k a b c d e f g := by
  unfold P7; rw [hb.block _ hk]; exact h
theorem P7.below {W W' : World} {k : Nat} {a b c d e f g : Value} (h : P7 W k a b c d e f g) (hb : Below W.heap.size W W') : P7 W' k a b c d e f g := h.under hb h.lt
theorem P7.alloc {W : World} {k : Nat} {a b c d e f g : Value} (h : P7 W k a b c d e f g) (o : Obj) : P7 (W.alloc o) k a b c d e f g := h.below ((Below.refl _ _).alloc (Nat.le_refl _) _)
structure P7.Cells (W : World) (k : Nat) (a b c d e f g : Value) : Prop where
  c0 : W.cell? ⟨k, 0, none⟩ = some a
  c1 : W.cell? ⟨k, 1, none⟩ = some b
  c2 : W.cell? ⟨k, 2, none⟩ = some c
  c3 : W.cell? ⟨k, 3, none⟩ = some d
  c4 : W.cell? ⟨k, 4, none⟩ = some e
  c5 : W.cell? ⟨k, 5, none⟩ = some f
  c6 : W.cell? ⟨k, 6, none⟩ = some g
  f0 : W.frozen? ⟨k, 0, none⟩ = false
  f1 : W.frozen? ⟨k, 1, none⟩ = false
  f2 : W.frozen? ⟨k, 2, none⟩ = false
  f3 : W.frozen? ⟨k, 3, none⟩ = false
  f4 : W.frozen? ⟨k, 4, none⟩ = false
  f5 : W.frozen? ⟨k, 5, none⟩ = false
  f6 : W.frozen? ⟨k, 6, none⟩ = false
theorem P7.cells {W : World} {k : Nat} {a b c d e f g : Value} (h : P7 W k a b c d e f g) : P7.Cells W k a b c d e f g := by
  unfold P7 at h
  constructor <;> simp [World.cell?, World.frozen?, h]
theorem P7.drew {W : World} {k : Nat} {a b c d e f g : Value} (h : P7 W k a b c d e f g) : P7 W.drew k a b c d e f g := h
theorem P7.set56 {W : World} {k : Nat} {a b c d e f g : Value} (h : P7 W k a b c d e f g) (x y : Value) : P7 ((W.setCell ⟨k, 5, none⟩ x).setCell ⟨k, 6, none⟩ y) k a b c d e x y := by
  unfold P7 at *
  simp only [World.setCell, Array.getElem?_modify, if_pos, h]
  rfl
abbrev set7 (W : World) (k : Nat) (a b c d e f g : Value) : World := ((((((W.setCell ⟨k, 0, none⟩ a).setCell ⟨k, 1, none⟩ b).setCell ⟨k, 2, none⟩ c).setCell ⟨k, 3, none⟩ d).setCell ⟨k, 4, none⟩ e).setCell ⟨k, 5, none⟩ f).setCell ⟨k, 6, none⟩ g
theorem P7.set {W : World} {k : Nat} {a b c d e f g : Value} (h : P7 W k a b c d e f g) (a' b' c' d' e' f' g' : Value) : P7 (set7 W k a' b' c' d' e' f' g') k a' b' c' d' e' f' g' := by
  unfold P7 set7 at *
  simp only [World.setCell, Array.getElem?_modify, if_pos, h]
  rfl
theorem P7.other {W : World} {k j i : Nat} {a b c d e f g x : Value} (h : P7 W k a b c d e f g) (hne : j ≠ k) : P7 (W.setCell ⟨j, i, none⟩ x) k a b c d e f g := by
  unfold P7 at *
  simp only [World.setCell, Array.getElem?_modify, if_neg hne]
  exact h
theorem P5.other {W : World} {k j i : Nat} {a b c d e x : Value} (h : P5 W k a b c d e) (hne : j ≠ k) : P5 (W.setCell ⟨j, i, none⟩ x) k a b c d e := by
  unfold P5 at *
  simp only [World.setCell, Array.getElem?_modify, if_neg hne]
  exact h
theorem P5.set1 {W : World} {k : Nat} {a b c d e : Value} (h : P5 W k a b c d e) (x : Value) : P5 (W.setCell ⟨k, 1, none⟩ x) k a x c d e := by
  unfold P5 at *
  simp only [World.setCell, Array.getElem?_modify, if_pos, h]
  rfl
theorem P5.set3 {W : World} {k : Nat} {a b c d e : Value} (h : P5 W k a b c d e) (x : Value) : P5 (W.setCell ⟨k, 3, none⟩ x) k a b c x e := by
  unfold P5 at *
  simp only [World.setCell, Array.getElem?_modify, if_pos, h]
  rfl
theorem below_set7 {w W : World} {k B : Nat} (hb : Below B w W) (hk : B ≤ k) (a b c d e f g : Value) : Below B w (set7 W k a b c d e f g) :=
  ((((((hb.setCell (p := ⟨k, 0, none⟩) hk _).setCell (p := ⟨k, 1, none⟩) hk _).setCell (p := ⟨k, 2, none⟩) hk _).setCell (p := ⟨k, 3, none⟩) hk _).setCell (p := ⟨k, 4, none⟩) hk _).setCell (p := ⟨k, 5, none⟩) hk _).setCell (p := ⟨k, 6, none⟩) hk _
/-- a value -/
def valv (k n b : Int) (t : ByteArray) (v : Value) (g : Bool) (s : ByteArray) : Value := .agg #[.int .u8 k, .int .i64 n, .int .u64 b, .string t, v, .bool g, .string s]
/-- the blocks of of, as it begins to look -/
structure OfW (w W : World) (k n b : Int) (t : ByteArray) (v : Value) (g : Bool) (S : ByteArray) (n' : Int) (t' : ByteArray) : Prop where
  l : P5 W w.heap.size (.int .u8 k) (.int .i64 n) (.int .u64 b) (.string t) v
  r : P7 W (w.heap.size + 1) (.int .u8 0) (.int .i64 0) (.int .u64 0) (.string ⟨#[]⟩) (.slice none 0 0) (.bool false) (.string ⟨#[]⟩)
  u : P7 W (w.heap.size + 2) (.int .u8 k) (.int .i64 n) (.int .u64 b) (.string t) v (.bool g) (.string S)
  q : P5 W (w.heap.size + 3) (.int .u8 k) (.int .i64 n') (.int .u64 b) (.string t') v
  low : Below w.heap.size w W
  size : w.heap.size + 4 ≤ W.heap.size
theorem OfW.new (w : World) (k n b : Int) (t : ByteArray) (v : Value) : OfW w ((((w.alloc (.cells #[.int .u8 k, .int .i64 n, .int .u64 b, .string t, v] 26)).alloc (.cells #[.int .u8 0, .int .i64 0, .int .u64 0, .string ⟨#[]⟩, .slice none 0 0, .bool false, .string ⟨#[]⟩] 54)).alloc (.cells #[.int .u8 k, .int .i64 n, .int .u64 b, .string t, v, .bool false, .string ⟨#[]⟩] 54)).alloc (.cells #[.int .u8 k, .int .i64 n, .int .u64 b, .string t, v] 26)) k n b t v false ⟨#[]⟩ n t := by
  obtain ⟨W1, h1⟩ : ∃ W1, w.alloc (.cells #[.int .u8 k, .int .i64 n, .int .u64 b, .string t, v] 26) = W1 := ⟨_, rfl⟩
  have l1 : P5 W1 w.heap.size (.int .u8 k) (.int .i64 n) (.int .u64 b) (.string t) v := by rw [← h1]; exact P5.new _ _ _ _ _ _
  have s1 : W1.heap.size = w.heap.size + 1 := by rw [← h1]; simp
  have b1 : Below w.heap.size w W1 := by rw [← h1]; exact (Below.refl _ _).alloc (Nat.le_refl _) _
  rw [h1]
  have r2 := P7.new W1 (.int .u8 0) (.int .i64 0) (.int .u64 0) (.string ⟨#[]⟩) (.slice none 0 0) (.bool false) (.string ⟨#[]⟩)
  obtain ⟨W2, h2⟩ : ∃ W2, W1.alloc (.cells #[.int .u8 0, .int .i64 0, .int .u64 0, .string ⟨#[]⟩, .slice none 0 0, .bool false, .string ⟨#[]⟩] 54) = W2 := ⟨_, rfl⟩
  have l2 := l1.alloc (.cells #[.int .u8 0, .int .i64 0, .int .u64 0, .string ⟨#[]⟩, .slice none 0 0, .bool false, .string ⟨#[]⟩] 54)
  have b2 := b1.alloc (by omega) (.cells #[.int .u8 0, .int .i64 0, .int .u64 0, .string ⟨#[]⟩, .slice none 0 0, .bool false, .string ⟨#[]⟩] 54)
  rw [h2] at r2 l2 b2 ⊢
  have s2 : W2.heap.size = w.heap.size + 2 := by rw [← h2]; simp; omega
  rw [s1] at r2
  have v3 := P7.new W2 (.int .u8 k) (.int .i64 n) (.int .u64 b) (.string t) v (.bool false) (.string ⟨#[]⟩)
  obtain ⟨W3, h3⟩ : ∃ W3, W2.alloc (.cells #[.int .u8 k, .int .i64 n, .int .u64 b, .string t, v, .bool false, .string ⟨#[]⟩] 54) = W3 := ⟨_, rfl⟩
  have l3 := l2.alloc (.cells #[.int .u8 k, .int .i64 n, .int .u64 b, .string t, v, .bool false, .string ⟨#[]⟩] 54)
  have r3 := r2.alloc (.cells #[.int .u8 k, .int .i64 n, .int .u64 b, .string t, v, .bool false, .string ⟨#[]⟩] 54)
  have b3 := b2.alloc (by omega) (.cells #[.int .u8 k, .int .i64 n, .int .u64 b, .string t, v, .bool false, .string ⟨#[]⟩] 54)
  rw [h3] at v3 l3 r3 b3 ⊢
  have s3 : W3.heap.size = w.heap.size + 3 := by rw [← h3]; simp; omega
  rw [s2] at v3
  have q4 := P5.new W3 (.int .u8 k) (.int .i64 n) (.int .u64 b) (.string t) v
  rw [s3] at q4
  exact ⟨l3.alloc _, r3.alloc _, v3.alloc _, q4, b3.alloc (by omega) _, by simp; omega⟩
theorem OfW.below {w W W' : World} {k n b : Int} {t : ByteArray} {v : Value} {g : Bool} {S : ByteArray} {n' : Int} {t' : ByteArray} (h : OfW w W k n b t v g S n' t') (hb : Below W.heap.size W W') : OfW w W' k n b t v g S n' t' :=
  ⟨h.l.below hb, h.r.below hb, h.u.below hb, h.q.below hb, h.low.trans (hb.mono (by have := h.size; omega)), Nat.le_trans h.size hb.size⟩
theorem OfW.drew {w W : World} {k n b : Int} {t : ByteArray} {v : Value} {g : Bool} {S : ByteArray} {n' : Int} {t' : ByteArray} (h : OfW w W k n b t v g S n' t') : OfW w W.drew k n b t v g S n' t' := ⟨h.l, h.r, h.u, h.q, h.low.drew, h.size⟩
theorem OfW.large {w W : World} {k n b : Int} {t : ByteArray} {v : Value} {g : Bool} {S : ByteArray} {n' : Int} {t' : ByteArray} (h : OfW w W k n b t v g S n' t') (g2 : Bool) (S2 : ByteArray) :
    OfW w ((W.setCell ⟨w.heap.size + 2, 5, none⟩ (.bool g2)).setCell ⟨w.heap.size + 2, 6, none⟩ (.string S2)) k n b t v g2 S2 n' t' :=
  ⟨(h.l.other (by omega)).other (by omega), (h.r.other (by omega)).other (by omega), h.u.set56 _ _, (h.q.other (by omega)).other (by omega), (h.low.setCell (p := ⟨w.heap.size + 2, 5, none⟩) (by show w.heap.size ≤ w.heap.size + 2; omega) _).setCell (p := ⟨w.heap.size + 2, 6, none⟩) (by show w.heap.size ≤ w.heap.size + 2; omega) _, by simpa [World.setCell] using h.size⟩
theorem OfW.nought {w W : World} {k n b : Int} {t : ByteArray} {v : Value} {g : Bool} {S : ByteArray} {n' : Int} {t' : ByteArray} (h : OfW w W k n b t v g S n' t') :
    OfW w (W.setCell ⟨w.heap.size + 3, 1, none⟩ (.int .i64 0)) k n b t v g S 0 t' :=
  ⟨h.l.other (by omega), h.r.other (by omega), h.u.other (by omega), h.q.set1 _, h.low.setCell (p := ⟨w.heap.size + 3, 1, none⟩) (by show w.heap.size ≤ w.heap.size + 3; omega) _, by simpa [World.setCell] using h.size⟩
theorem OfW.empty {w W : World} {k n b : Int} {t : ByteArray} {v : Value} {g : Bool} {S : ByteArray} {n' : Int} {t' : ByteArray} (h : OfW w W k n b t v g S n' t') :
    OfW w (W.setCell ⟨w.heap.size + 3, 3, none⟩ (.string ⟨#[]⟩)) k n b t v g S n' ⟨#[]⟩ :=
  ⟨h.l.other (by omega), h.r.other (by omega), h.u.other (by omega), h.q.set3 _, h.low.setCell (p := ⟨w.heap.size + 3, 3, none⟩) (by show w.heap.size ≤ w.heap.size + 3; omega) _, by simpa [World.setCell] using h.size⟩
set_option maxRecDepth 4000 in
set_option maxHeartbeats 4000000 in
theorem of_small (n : Int) (c : Nat) (ia : Option Addr) (ic : Nat) (w : World) (h1 : -9223372036854775808 ≤ n) (h2 : n ≤ 9223372036854775807) (hc : c = 73 ∨ c = 76) :
    Calls Tryz.prog 19 #[litv 4 n 0 ⟨#[]⟩ (.slice ia 0 ic), .int .u8 c] w fun e w' => e = .returned (.tuple #[valv 4 n 0 ⟨#[]⟩ (.slice ia 0 ic) (decide (n < 0)) (bs (Pl.dgs n.natAbs)), .bool (decide (FitsI n))]) ∧ Below w.heap.size w w' := by
  have HOF : Hid (∀ W, Calls Tryz.prog 57 #[.int .i64 n] W fun e w' => e = .returned (.agg #[.bool (decide (n < 0)), .string (bs (Pl.dgs n.natAbs))]) ∧ Below W.heap.size W w') := Lib.hid (fun W => by
    have := ofn_any n W h1 h2
    rw [ofv_is h1 h2] at this
    exact this)
  have HFT := Lib.hid (fun W => fits_any n W)
  generalize decide (n < 0) = g at *
  generalize bs (Pl.dgs n.natAbs) = S at *
  have HO := Lib.hid (OfW.new w 4 n 0 ⟨#[]⟩ (.slice ia 0 ic))
  obtain ⟨W4, hW4⟩ : ∃ W4, (((w.alloc (.cells #[.int .u8 4, .int .i64 n, .int .u64 0, .string ⟨#[]⟩, .slice ia 0 ic] 26)).alloc (.cells #[.int .u8 0, .int .i64 0, .int .u64 0, .string ⟨#[]⟩, .slice none 0 0, .bool false, .string ⟨#[]⟩] 54)).alloc (.cells #[.int .u8 4, .int .i64 n, .int .u64 0, .string ⟨#[]⟩, .slice ia 0 ic, .bool false, .string ⟨#[]⟩] 54)).alloc (.cells #[.int .u8 4, .int .i64 n, .int .u64 0, .string ⟨#[]⟩, .slice ia 0 ic] 26) = W4 := ⟨_, rfl⟩
  rw [hW4] at HO
  unfold litv valv
  have HF0 : Hid (∀ W : World, OfW w W 4 n 0 ⟨#[]⟩ (.slice ia 0 ic) g S 0 ⟨#[]⟩ → P7 (set7 W (w.heap.size + 1) (.int .u8 4) (.int .i64 n) (.int .u64 0) (.string ⟨#[]⟩) (.slice ia 0 ic) (.bool g) (.string S)) (w.heap.size + 1) (.int .u8 4) (.int .i64 n) (.int .u64 0) (.string ⟨#[]⟩) (.slice ia 0 ic) (.bool g) (.string S)) := Lib.hid (fun W h => h.r.set _ _ _ _ _ _ _)
  obtain ⟨a0, a1, a2, a3, a4, _, _, _, _, _⟩ := HO.out.l.cells
  by_cases hf : FitsI n
  case' pos => rw [decide_eq_true hf] at HFT ⊢
  case' neg => rw [decide_eq_false hf] at HFT ⊢
  all_goals
    rcases hc with rfl | rfl
  all_goals
    go_enter Tryz.func19, Tryz.ntmps19
    go_wp2_with fail
    refine (HOF.out _).mono ?_
    rintro e w5 ⟨rfl, hb5⟩
    have H5 := Lib.hid (HO.out.below hb5)
    have H6 := Lib.hid (H5.out.large g S)
    clear hb5 a0 a1 a2 a3 a4
    obtain ⟨u0, u1, u2, u3, u4, u5, u6, _, _, _, _, _, u15, u16⟩ := H5.out.u.cells
    obtain ⟨W6, hW6⟩ : ∃ W6, (w5.setCell ⟨w.heap.size + 2, 5, none⟩ (.bool g)).setCell ⟨w.heap.size + 2, 6, none⟩ (.string S) = W6 := ⟨_, rfl⟩
    rw [hW6] at H6
    obtain ⟨a0, a1, a2, a3, a4, _, _, _, _, _⟩ := H6.out.l.cells
    go_wp2_with fail
    refine (HFT.out _).mono ?_
    rintro e w7 ⟨rfl, rfl⟩
    obtain ⟨q0, q1, q2, q3, q4, q5, q6, q7, q8, q9⟩ := H6.out.q.cells
    have H8 := Lib.hid (H6.out.nought)
    obtain ⟨W8, hW8⟩ : ∃ W8, W6.setCell ⟨w.heap.size + 3, 1, none⟩ (.int .i64 0) = W8 := ⟨_, rfl⟩
    rw [hW8] at H8
    clear u0 u1 u2 u3 u4 u5 u6 u15 u16 hW6
    obtain ⟨u0, u1, u2, u3, u4, u5, u6, _, _, _, _, _, _, _⟩ := H8.out.u.cells
    obtain ⟨s0, s1, s2, s3, s4, _, _, _, _, _⟩ := H8.out.q.cells
    obtain ⟨r0, r1, r2, r3, r4, r5, r6, f0, f1, f2, f3, f4, f5, f6⟩ := H8.out.r.cells
    go_wp2_with fail
    go_region
    go_wp2_with fail
    have hk := (HF0.out W8 H8.out).drew.cells
    have hB := (below_set7 H8.out.low (show w.heap.size ≤ w.heap.size + 1 by omega) (.int .u8 4) (.int .i64 n) (.int .u64 0) (.string ⟨#[]⟩) (.slice ia 0 ic) (.bool g) (.string S)).drew
    clear u0 u1 u2 u3 u4 u5 u6 s0 s1 s2 s3 s4 r0 r1 r2 r3 r4 r5 r6 f0 f1 f2 f3 f4 f5 f6 a0 a1 a2 a3 a4 q0 q1 q2 q3 q4 q5 q6 q7 q8 q9
    generalize hWf : (set7 W8 (w.heap.size + 1) (.int .u8 4) (.int .i64 n) (.int .u64 0) (.string ⟨#[]⟩) (.slice ia 0 ic) (.bool g) (.string S)).drew = Wf at hk hB
    clear hWf
    obtain ⟨k0, k1, k2, k3, k4, k5, k6, _, _, _, _, _, _, _⟩ := hk
    first
    | exact bodyPost_ret (v := .tuple #[.agg #[.int .u8 4, .int .i64 n, .int .u64 0, .string ⟨#[]⟩, .slice ia 0 ic, .bool g, .string S], .bool true]) (by simp [results, Tryz.results19, go_sem, k0, k1, k2, k3, k4, k5, k6]) rfl ⟨rfl, hB⟩
    | exact bodyPost_ret (v := .tuple #[.agg #[.int .u8 4, .int .i64 n, .int .u64 0, .string ⟨#[]⟩, .slice ia 0 ic, .bool g, .string S], .bool false]) (by simp [results, Tryz.results19, go_sem, k0, k1, k2, k3, k4, k5, k6]) rfl ⟨rfl, hB⟩
end Go.Proofs.YtlodbibagmblkaaGreatDoor
namespace Go.Proofs.YtlodbibagmblkaaGreatDoor
open Go Go.RowKit Go.Lib
/-- a value's cells -/
structure PV where
  k : Int
  n : Int
  b : Int
  t : ByteArray
  v : Value
  g : Bool
  s : ByteArray
def PV.cells (x : PV) : List Value := [.int .u8 x.k, .int .i64 x.n, .int .u64 x.b, .string x.t, x.v, .bool x.g, .string x.s]
/-- a slice value that reads as values -/
def VRow (w : World) (v : Value) (l : List PV) : Prop := ∃ g cap, v = .slice (some ⟨g, 0, none⟩) l.length cap ∧ g < w.heap.size ∧ ∀ (i : Nat) (x : PV), l[i]? = some x → ∀ (j : Nat) (u : Value), x.cells[j]? = some u → w.cell? ⟨g, i * 7 + j, none⟩ = some u
theorem VRow.below {w w' : World} {v : Value} {l : List PV} (h : VRow w v l) (hb : Below w.heap.size w w') : VRow w' v l := by
  obtain ⟨g, cap, h1, h2, h3⟩ := h
  exact ⟨g, cap, h1, Nat.lt_of_lt_of_le h2 hb.size, fun i x hx j u hu => by rw [hb.cell (p := ⟨g, i * 7 + j, none⟩) h2]; exact h3 i x hx j u hu⟩
/-- a literal and whether it is one come out -/
def LitOk (w : World) (l : Value) (is : Bool) (e : Ending) (w' : World) : Prop := e = .returned (.tuple #[l, .bool is]) ∧ Below w.heap.size w w'
end Go.Proofs.YtlodbibagmblkaaGreatDoor
namespace Go.Proofs.YtlodbibagmblkaaGreatDoor
open Go Go.RowKit Go.Lib
/-- the literal of an integer: its kind, its number, its text -/
def IntLit (A k n : Int) (s : List UInt8) : Prop := (FitsI A ∧ k = 4 ∧ n = A ∧ s = []) ∨ (¬ FitsI A ∧ k = 5 ∧ n = 0 ∧ Pl.IntT 10 s A ∧ s.length ≤ 40000)
def WhoOk (w : World) (A : Int) (e : Ending) (w' : World) : Prop := ∃ k n s, IntLit A k n s ∧ LitOk w (litv k n 0 (bs s) (.slice none 0 0)) true e w'
theorem fitsI_in {A : Int} (h : FitsI A) : In64 A := by unfold FitsI at h; unfold In64; omega
set_option maxRecDepth 4000 in
set_option maxHeartbeats 4000000 in
theorem whole_err (g : Bool) (S : ByteArray) (e : Int) (w : World) (he : e ≠ 0) :
    Calls Tryz.prog 25 #[.agg #[.bool g, .string S], .int .i64 e] w (LitOk w nolit false) := by
  obtain ⟨W2, hW2⟩ : ∃ W2, (w.alloc (.cells #[.bool g, .string S] 43)).alloc (.cells #[.int .u8 0, .int .i64 0, .int .u64 0, .string ⟨#[]⟩, .slice none 0 0] 26) = W2 := ⟨_, rfl⟩
  have HP : Hid (P5 W2 (w.heap.size + 1) (.int .u8 0) (.int .i64 0) (.int .u64 0) (.string ⟨#[]⟩) (.slice none 0 0)) := Lib.hid (by
    rw [← hW2]
    have := P5.new (w.alloc (.cells #[.bool g, .string S] 43)) (.int .u8 0) (.int .i64 0) (.int .u64 0) (.string ⟨#[]⟩) (.slice none 0 0)
    simpa using this)
  have HL : Hid (P2 W2 w.heap.size 43 (.bool g) (.string S)) := Lib.hid (by rw [← hW2]; exact (P2.new _ _ _ _).alloc _)
  have HB : Hid (Below w.heap.size w W2) := Lib.hid (by rw [← hW2]; exact ((Below.refl _ _).alloc (Nat.le_refl _) _).alloc (by simp) _)
  have hs : w.heap.size + 2 ≤ W2.heap.size := by rw [← hW2]; simp
  have hd : (e == 0) = false := by rw [beq_eq_false_iff_ne]; exact he
  obtain ⟨c0, c1, c2, c3, c4, f0, f1, f2, f3, f4⟩ := HP.out.cells
  unfold nolit litv
  go_enter Tryz.func25, Tryz.ntmps25
  go_wp2_with fail
  obtain ⟨k0, k1, k2, k3, k4, _, _, _, _, _⟩ := (HP.out.set (.int .u8 0) (.int .i64 0) (.int .u64 0) (.string ⟨#[]⟩) (.slice none 0 0)).cells
  exact bodyPost_ret (v := .tuple #[.agg #[.int .u8 0, .int .i64 0, .int .u64 0, .string ⟨#[]⟩, .slice none 0 0], .bool false]) (by simp [results, Tryz.results25, go_sem, k0, k1, k2, k3, k4]) rfl ⟨rfl, below_set5 HB.out (by omega) _ _ _ _ _⟩
set_option maxRecDepth 4000 in
set_option maxHeartbeats 4000000 in
theorem whole_any (A : Int) (w : World) (hA : Pl.Big A) :
    Calls Tryz.prog 25 #[lof A, .int .i64 0] w (WhoOk w A) := by
  have HSM := Lib.hid (fun W => lsmall_any A W hA)
  have HFT := Lib.hid (fun W => fits_any A W)
  have HTX := Lib.hid (fun W => ltext_any A 10 W hA (by decide) (by decide))
  have HPS := Lib.hid (fun W => psmall_any A W)
  unfold litv at HPS
  obtain ⟨g, S, ha⟩ : ∃ g S, lof A = .agg #[.bool g, .string S] := ⟨_, _, rfl⟩
  rw [ha] at HSM HTX ⊢
  have key : (FitsI A ∧ smallv A = .tuple #[.int .i64 A, .bool true]) ∨ (¬ FitsI A ∧ smallv A = .tuple #[.int .i64 A, .bool true]) ∨ (¬ FitsI A ∧ smallv A = .tuple #[.int .i64 0, .bool false]) := by
    unfold smallv
    by_cases h1 : FitsI A
    · exact .inl ⟨h1, by rw [if_pos (fitsI_in h1)]⟩
    · by_cases h2 : In64 A
      · exact .inr (.inl ⟨h1, by rw [if_pos h2]⟩)
      · exact .inr (.inr ⟨h1, by rw [if_neg h2]⟩)
  clear hA ha
  obtain ⟨W2, hW2⟩ : ∃ W2, (w.alloc (.cells #[.bool g, .string S] 43)).alloc (.cells #[.int .u8 0, .int .i64 0, .int .u64 0, .string ⟨#[]⟩, .slice none 0 0] 26) = W2 := ⟨_, rfl⟩
  have HP : Hid (P5 W2 (w.heap.size + 1) (.int .u8 0) (.int .i64 0) (.int .u64 0) (.string ⟨#[]⟩) (.slice none 0 0)) := Lib.hid (by
    rw [← hW2]
    have := P5.new (w.alloc (.cells #[.bool g, .string S] 43)) (.int .u8 0) (.int .i64 0) (.int .u64 0) (.string ⟨#[]⟩) (.slice none 0 0)
    simpa using this)
  have HL : Hid (P2 W2 w.heap.size 43 (.bool g) (.string S)) := Lib.hid (by rw [← hW2]; exact (P2.new _ _ _ _).alloc _)
  have HB : Hid (Below w.heap.size w W2) := Lib.hid (by rw [← hW2]; exact ((Below.refl _ _).alloc (Nat.le_refl _) _).alloc (by simp) _)
  have hs : w.heap.size + 2 ≤ W2.heap.size := by rw [← hW2]; simp
  obtain ⟨p0, p1, _, _⟩ := HL.out.cells
  obtain ⟨c0, c1, c2, c3, c4, f0, f1, f2, f3, f4⟩ := HP.out.cells
  rcases key with ⟨h1, h2⟩ | ⟨h1, h2⟩ | ⟨h1, h2⟩
  · rw [show decide (FitsI A) = true from decide_eq_true h1] at HFT
    rw [h2] at HSM
    go_enter Tryz.func25, Tryz.ntmps25
    go_wp2_with fail
    refine (HSM.out _).mono ?_
    rintro e w3 ⟨rfl, hb3⟩
    have HP3 := Lib.hid (HP.out.below hb3)
    have HL3 := Lib.hid (HL.out.below hb3)
    have HB3 := Lib.hid (chain HB.out hb3 (by omega))
    have hs3 := hb3.size
    clear p0 p1 c0 c1 c2 c3 c4 f0 f1 f2 f3 f4 hb3
    obtain ⟨p0, p1, _, _⟩ := HL3.out.cells
    obtain ⟨c0, c1, c2, c3, c4, f0, f1, f2, f3, f4⟩ := HP3.out.cells
    go_wp2_with fail
    refine (HFT.out _).mono ?_
    rintro e w4 ⟨rfl, rfl⟩
    go_wp2_with fail
    refine (HPS.out _).mono ?_
    rintro e w5 ⟨rfl, hb5⟩
    have HP5 := Lib.hid (HP3.out.below hb5)
    have HB5 := Lib.hid (chain HB3.out hb5 (by omega))
    clear p0 p1 c0 c1 c2 c3 c4 f0 f1 f2 f3 f4 hb5
    obtain ⟨c0, c1, c2, c3, c4, f0, f1, f2, f3, f4⟩ := HP5.out.cells
    go_wp2_with fail
    obtain ⟨k0, k1, k2, k3, k4, _, _, _, _, _⟩ := (HP5.out.set (.int .u8 4) (.int .i64 A) (.int .u64 0) (.string ⟨#[]⟩) (.slice none 0 0)).cells
    exact bodyPost_ret (v := .tuple #[.agg #[.int .u8 4, .int .i64 A, .int .u64 0, .string ⟨#[]⟩, .slice none 0 0], .bool true]) (by simp [results, Tryz.results25, go_sem, k0, k1, k2, k3, k4]) rfl ⟨4, A, [], .inl ⟨h1, rfl, rfl, rfl⟩, ⟨rfl, below_set5 HB5.out (by omega) _ _ _ _ _⟩⟩
  · rw [show decide (FitsI A) = false from decide_eq_false h1] at HFT
    rw [h2] at HSM
    go_enter Tryz.func25, Tryz.ntmps25
    go_wp2_with fail
    refine (HSM.out _).mono ?_
    rintro e w3 ⟨rfl, hb3⟩
    have HP3 := Lib.hid (HP.out.below hb3)
    have HL3 := Lib.hid (HL.out.below hb3)
    have HB3 := Lib.hid (chain HB.out hb3 (by omega))
    have hs3 := hb3.size
    clear p0 p1 c0 c1 c2 c3 c4 f0 f1 f2 f3 f4 hb3
    obtain ⟨p0, p1, _, _⟩ := HL3.out.cells
    obtain ⟨c0, c1, c2, c3, c4, f0, f1, f2, f3, f4⟩ := HP3.out.cells
    go_wp2_with fail
    refine (HFT.out _).mono ?_
    rintro e w4 ⟨rfl, rfl⟩
    go_wp2_with fail
    refine (HTX.out _).mono ?_
    rintro e w5 ⟨s, rfl, hT, hb5, hsl⟩
    have HP5 := Lib.hid (HP3.out.below hb5)
    have HB5 := Lib.hid (chain HB3.out hb5 (by omega))
    have HT := Lib.hid hT
    clear p0 p1 c0 c1 c2 c3 c4 f0 f1 f2 f3 f4 hb5 hT
    obtain ⟨c0, c1, c2, c3, c4, f0, f1, f2, f3, f4⟩ := HP5.out.cells
    obtain ⟨T, hTe⟩ : ∃ T, bs s = T := ⟨_, rfl⟩
    have HTE := Lib.hid hTe
    rw [hTe]
    clear hTe
    go_wp2_with fail
    obtain ⟨k0, k1, k2, k3, k4, _, _, _, _, _⟩ := (HP5.out.set (.int .u8 5) (.int .i64 0) (.int .u64 0) (.string T) (.slice none 0 0)).cells
    exact bodyPost_ret (v := .tuple #[.agg #[.int .u8 5, .int .i64 0, .int .u64 0, .string T, .slice none 0 0], .bool true]) (by simp [results, Tryz.results25, go_sem, k0, k1, k2, k3, k4]) rfl ⟨5, 0, s, .inr ⟨h1, rfl, rfl, HT.out, hsl⟩, by rw [HTE.out]; exact ⟨rfl, below_set5 HB5.out (by omega) _ _ _ _ _⟩⟩
  · rw [show decide (FitsI A) = false from decide_eq_false h1] at HFT
    rw [h2] at HSM
    go_enter Tryz.func25, Tryz.ntmps25
    go_wp2_with fail
    refine (HSM.out _).mono ?_
    rintro e w3 ⟨rfl, hb3⟩
    have HP3 := Lib.hid (HP.out.below hb3)
    have HL3 := Lib.hid (HL.out.below hb3)
    have HB3 := Lib.hid (chain HB.out hb3 (by omega))
    have hs3 := hb3.size
    clear p0 p1 c0 c1 c2 c3 c4 f0 f1 f2 f3 f4 hb3
    obtain ⟨p0, p1, _, _⟩ := HL3.out.cells
    obtain ⟨c0, c1, c2, c3, c4, f0, f1, f2, f3, f4⟩ := HP3.out.cells
    go_wp2_with fail
    refine (HTX.out _).mono ?_
    rintro e w5 ⟨s, rfl, hT, hb5, hsl⟩
    have HP5 := Lib.hid (HP3.out.below hb5)
    have HB5 := Lib.hid (chain HB3.out hb5 (by omega))
    have HT := Lib.hid hT
    clear p0 p1 c0 c1 c2 c3 c4 f0 f1 f2 f3 f4 hb5 hT
    obtain ⟨c0, c1, c2, c3, c4, f0, f1, f2, f3, f4⟩ := HP5.out.cells
    obtain ⟨T, hTe⟩ : ∃ T, bs s = T := ⟨_, rfl⟩
    have HTE := Lib.hid hTe
    rw [hTe]
    clear hTe
    go_wp2_with fail
    obtain ⟨k0, k1, k2, k3, k4, _, _, _, _, _⟩ := (HP5.out.set (.int .u8 5) (.int .i64 0) (.int .u64 0) (.string T) (.slice none 0 0)).cells
    exact bodyPost_ret (v := .tuple #[.agg #[.int .u8 5, .int .i64 0, .int .u64 0, .string T, .slice none 0 0], .bool true]) (by simp [results, Tryz.results25, go_sem, k0, k1, k2, k3, k4]) rfl ⟨5, 0, s, .inr ⟨h1, rfl, rfl, HT.out, hsl⟩, by rw [HTE.out]; exact ⟨rfl, below_set5 HB5.out (by omega) _ _ _ _ _⟩⟩
end Go.Proofs.YtlodbibagmblkaaGreatDoor
namespace Go.Proofs.YtlodbibagmblkaaGreatDoor
open Go Go.RowKit Go.Lib
open Go.Maps (Keyed)
/-- whatever stands in a map reads as itself -/
def Rh (v : Value) : Option (DataW Value × List MemPlace) := some (.held v, [])
def puts : List (Int × Value) → DataW Value
  | [] => .map []
  | p :: L => (puts L).put (.int .i64 p.1) (.held p.2)
def lk : List (Int × Value) → Int → Option Value
  | [], _ => none
  | p :: L, k => if p.1 = k then some p.2 else lk L k
theorem puts_isMap : ∀ L, Go.Maps.IsMap (puts L)
  | [] => ⟨_, rfl⟩
  | p :: L => by
    obtain ⟨es, h⟩ := puts_isMap L
    unfold puts
    rw [h]
    exact ⟨_, rfl⟩
theorem puts_at : ∀ (L : List (Int × Value)) (k : Int) (z : DataW Value), (puts L).atKey (.int .i64 k) z = match lk L k with | some v => .held v | none => z
  | [], _, _ => rfl
  | p :: L, k, z => by
    unfold puts lk
    by_cases h : p.1 = k
    · rw [if_pos h, h]
      exact Go.Maps.atKey_put_same (puts_isMap L) (by simp [WideAt.IsKeyLit]) _ _
    · rw [if_neg h, Go.Maps.atKey_put_other (by intro e; injection e with _ e; exact h e.symm)]
      exact puts_at L k z
/-- block b holds a map in which a list was laid, the newest first -/
def MapAt (w : World) (b : Nat) (L : List (Int × Value)) : Prop := w.ownsMap Tryz.prog 3 Rh b L.length (puts L)
theorem MapAt.kept {w w' : World} {b : Nat} {L : List (Int × Value)} {row : Option Nat} (h : MapAt w b L) (hg : w.grownBy w' row) (hne : some b ≠ row) : MapAt w' b L := World.ownsMap.kept h hg hne
theorem MapAt.lt {w : World} {b : Nat} {L : List (Int × Value)} (h : MapAt w b L) : b < w.heap.size := World.ownsMap.lt h
theorem MapAt.new (w : World) : MapAt (w.alloc (.map #[] 0)) w.heap.size [] := World.ownsMap_made w Tryz.prog 3 Rh
theorem MapAt.below {w w' : World} {b B : Nat} {L : List (Int × Value)} (h : MapAt w b L) (hb : Below B w w') (hB : b < B) : MapAt w' b L := by
  obtain ⟨es, clock, h1, r⟩ := h
  exact ⟨es, clock, by rw [hb.block _ hB]; exact h1, r⟩
theorem MapAt.setCell {w : World} {b : Nat} {L : List (Int × Value)} (h : MapAt w b L) {a : Addr} (ha : b ≠ a.block) (u : Value) : MapAt (w.setCell a u) b L := World.ownsMap.setCell h ha u
theorem wf64 {k : Int} (h : -1000000 ≤ k ∧ k ≤ 1000000) : (Lit.int .i64 k).wf = true := by
  have h1 : IntKind.i64.min = -9223372036854775808 := rfl
  have h2 : IntKind.i64.max = 9223372036854775807 := rfl
  simp [Lit.wf, h1, h2]
  omega
theorem wpList_put (w : World) {ops : Array Oper} {rest : List Oper} {o : Oper} {a : Act} {Q : Exit → Act → World → Prop}
    (hg : o.guard = none) (m x v : Operand) (t e : TypeId) (hop : o.op = Op.mapUpdate t m x v ∨ o.op = Op.insert t m x v) (ht : Tryz.prog.underlying t = some (.map 3 e)) (b : Nat) (L : List (Int × Value))
    (hm : a.eval m = .map (some b)) (hown : MapAt w b L) (hn : L.length < 1000) (k : Int) (val : Value) (hx : a.eval x = .int .i64 k) (hv : a.eval v = val) (hk : -1000000 ≤ k ∧ k ≤ 1000000)
    (hK : ∀ w', MapAt w' b ((k, val) :: L) → w.grownBy w' (some b) → wpList Tryz.prog ops Q rest (a.put o.dst undef) w') : wpList Tryz.prog ops Q (o :: rest) a w := by
  refine wpList_plain hg fun K' hK' => ?_
  obtain ⟨w', hrun, r1, r2⟩ := World.ownsMap.update hown (Go.Maps.int_keyed Tryz.underlying3) ht (Nat.lt_of_lt_of_le hn (by unfold maxLen; decide)) (Go.Maps.keyOf_int_mk Tryz.underlying3 (wf64 hk)) (show Rh val = some (.held val, []) from rfl)
  unfold Oper.wp
  rcases hop with hop | hop
  · simp [execOp, hop, hm, hx, hv, hrun, Result.andThen]
    exact hK' _ _ (hK w' r1 r2)
  · simp [execOp, hop, hm, hx, hv, hrun, Result.andThen]
    exact hK' _ _ (hK w' r1 r2)
set_option maxRecDepth 20000 in
theorem look_ok {w : World} {b : Nat} {L : List (Int × Value)} (h : MapAt w b L) {t e : TypeId} (ht : Tryz.prog.underlying t = some (.map 3 e)) {z : Value} (hz : (zeroValue e).run Tryz.prog w = .ok z w) (k : Int) (hk : -1000000 ≤ k ∧ k ≤ 1000000) :
    (Instr.lookup t (.map (some b)) (.int .i64 k) true).run Tryz.prog w = .ok (match lk L k with | some v => .tuple #[v, .bool true] | none => .tuple #[z, .bool false]) w := by
  obtain ⟨es, clock, hb, F, _, hD⟩ := h
  rcases Maps.fit_look true (Go.Maps.int_keyed Tryz.underlying3) ht hz hb F (Go.Maps.keyOf_int_mk Tryz.underlying3 (wf64 hk)) with ⟨hrun, _, hat⟩ | ⟨e0, y, _, _, hrun, hRv, hat, _⟩
  · rw [hrun]
    rw [← hD] at hat
    have h1 := hat (.lit (.bool true))
    rw [puts_at] at h1
    cases hl : lk L k with
    | none => rfl
    | some v => rw [hl] at h1; cases h1
  · rw [hrun]
    rw [← hD] at hat
    have h1 := hat (.lit (.bool true))
    rw [puts_at] at h1
    have h2 : y.1 = .held e0.val := by
      unfold Rh at hRv
      injection hRv with hRv
      rw [← hRv]
    cases hl : lk L k with
    | none => rw [hl, h2] at h1; cases h1
    | some v =>
      rw [hl, h2] at h1
      injection h1 with h1
      rw [h1]
      rfl
end Go.Proofs.YtlodbibagmblkaaGreatDoor
namespace Go.Proofs.YtlodbibagmblkaaGreatDoor
open Go Go.RowKit Go.Lib
/-- a primitive -/
def primv (s : ByteArray) (f : Value) : Value := .agg #[.string s, f]
def textsL : List (Int × Value) := [(84, primv ⟨#[67]⟩ (.func (.func 129) #[] #[])), (83, primv ⟨#[67, 67]⟩ (.func (.func 128) #[] #[])), (82, primv ⟨#[76]⟩ (.func (.func 127) #[] #[])), (81, primv ⟨#[67]⟩ (.func (.func 126) #[] #[])), (72, primv ⟨#[83]⟩ (.func (.func 124) #[] #[])), (71, primv ⟨#[83]⟩ (.func (.func 122) #[] #[])), (70, primv ⟨#[83]⟩ (.func (.func 120) #[] #[])), (69, primv ⟨#[83, 67]⟩ (.func (.func 118) #[] #[])), (68, primv ⟨#[83, 76, 76]⟩ (.func (.func 117) #[] #[])), (67, primv ⟨#[89]⟩ (.func (.func 116) #[] #[])), (66, primv ⟨#[83]⟩ (.func (.func 115) #[] #[])), (65, primv ⟨#[83, 83]⟩ (.func (.func 113) #[] #[])), (64, primv ⟨#[83, 83]⟩ (.func (.func 112) #[] #[])), (63, primv ⟨#[83, 83]⟩ (.func (.func 111) #[] #[])), (62, primv ⟨#[83]⟩ (.func (.func 110) #[] #[])), (61, primv ⟨#[83, 76]⟩ (.func (.func 109) #[] #[]))]
set_option maxRecDepth 4000 in
set_option maxHeartbeats 4000000 in
theorem texts_any (b : Nat) (L : List (Int × Value)) (w : World) (h : MapAt w b L) (hL : L.length ≤ 500) :
    Calls Tryz.prog 56 #[.map (some b)] w fun e w' => e = .returned (.tuple #[]) ∧ MapAt w' b (textsL ++ L) ∧ w.grownBy w' (some b) := by
  have hm0 := h
  have hg0 := World.grownBy.refl w (some b)
  clear h
  go_enter Tryz.func56, Tryz.ntmps56
  go_wp2_with (at_mapUpdate; refine wpList_put _ rfl (.tmp 2) (.const (.int .i64 61)) (.tmp 3) 50 48 (.inl rfl) Tryz.underlying50 b _ rfl hm0 (by first | omega | (simp only [List.length_cons]; omega)) 61 (primv ⟨#[83, 76]⟩ (.func (.func 109) #[] #[])) rfl rfl (by omega) ?_)
  intro w1 hm1 hgg
  have hg1 := hg0.andThen hgg (fun _ e => .inr e)
  clear hgg hm0 hg0
  go_wp2_with (at_mapUpdate; refine wpList_put _ rfl (.tmp 4) (.const (.int .i64 62)) (.tmp 5) 50 48 (.inl rfl) Tryz.underlying50 b _ rfl hm1 (by first | omega | (simp only [List.length_cons]; omega)) 62 (primv ⟨#[83]⟩ (.func (.func 110) #[] #[])) rfl rfl (by omega) ?_)
  intro w2 hm2 hgg
  have hg2 := hg1.andThen hgg (fun _ e => .inr e)
  clear hgg hm1 hg1
  go_wp2_with (at_mapUpdate; refine wpList_put _ rfl (.tmp 6) (.const (.int .i64 63)) (.tmp 7) 50 48 (.inl rfl) Tryz.underlying50 b _ rfl hm2 (by first | omega | (simp only [List.length_cons]; omega)) 63 (primv ⟨#[83, 83]⟩ (.func (.func 111) #[] #[])) rfl rfl (by omega) ?_)
  intro w3 hm3 hgg
  have hg3 := hg2.andThen hgg (fun _ e => .inr e)
  clear hgg hm2 hg2
  go_wp2_with (at_mapUpdate; refine wpList_put _ rfl (.tmp 8) (.const (.int .i64 64)) (.tmp 9) 50 48 (.inl rfl) Tryz.underlying50 b _ rfl hm3 (by first | omega | (simp only [List.length_cons]; omega)) 64 (primv ⟨#[83, 83]⟩ (.func (.func 112) #[] #[])) rfl rfl (by omega) ?_)
  intro w4 hm4 hgg
  have hg4 := hg3.andThen hgg (fun _ e => .inr e)
  clear hgg hm3 hg3
  go_wp2_with (at_mapUpdate; refine wpList_put _ rfl (.tmp 10) (.const (.int .i64 65)) (.tmp 11) 50 48 (.inl rfl) Tryz.underlying50 b _ rfl hm4 (by first | omega | (simp only [List.length_cons]; omega)) 65 (primv ⟨#[83, 83]⟩ (.func (.func 113) #[] #[])) rfl rfl (by omega) ?_)
  intro w5 hm5 hgg
  have hg5 := hg4.andThen hgg (fun _ e => .inr e)
  clear hgg hm4 hg4
  go_wp2_with (at_mapUpdate; refine wpList_put _ rfl (.tmp 12) (.const (.int .i64 66)) (.tmp 13) 50 48 (.inl rfl) Tryz.underlying50 b _ rfl hm5 (by first | omega | (simp only [List.length_cons]; omega)) 66 (primv ⟨#[83]⟩ (.func (.func 115) #[] #[])) rfl rfl (by omega) ?_)
  intro w6 hm6 hgg
  have hg6 := hg5.andThen hgg (fun _ e => .inr e)
  clear hgg hm5 hg5
  go_wp2_with (at_mapUpdate; refine wpList_put _ rfl (.tmp 14) (.const (.int .i64 67)) (.tmp 15) 50 48 (.inl rfl) Tryz.underlying50 b _ rfl hm6 (by first | omega | (simp only [List.length_cons]; omega)) 67 (primv ⟨#[89]⟩ (.func (.func 116) #[] #[])) rfl rfl (by omega) ?_)
  intro w7 hm7 hgg
  have hg7 := hg6.andThen hgg (fun _ e => .inr e)
  clear hgg hm6 hg6
  go_wp2_with (at_mapUpdate; refine wpList_put _ rfl (.tmp 16) (.const (.int .i64 68)) (.tmp 17) 50 48 (.inl rfl) Tryz.underlying50 b _ rfl hm7 (by first | omega | (simp only [List.length_cons]; omega)) 68 (primv ⟨#[83, 76, 76]⟩ (.func (.func 117) #[] #[])) rfl rfl (by omega) ?_)
  intro w8 hm8 hgg
  have hg8 := hg7.andThen hgg (fun _ e => .inr e)
  clear hgg hm7 hg7
  go_wp2_with (at_mapUpdate; refine wpList_put _ rfl (.tmp 18) (.const (.int .i64 69)) (.tmp 19) 50 48 (.inl rfl) Tryz.underlying50 b _ rfl hm8 (by first | omega | (simp only [List.length_cons]; omega)) 69 (primv ⟨#[83, 67]⟩ (.func (.func 118) #[] #[])) rfl rfl (by omega) ?_)
  intro w9 hm9 hgg
  have hg9 := hg8.andThen hgg (fun _ e => .inr e)
  clear hgg hm8 hg8
  go_wp2_with (at_mapUpdate; refine wpList_put _ rfl (.tmp 20) (.const (.int .i64 70)) (.tmp 21) 50 48 (.inl rfl) Tryz.underlying50 b _ rfl hm9 (by first | omega | (simp only [List.length_cons]; omega)) 70 (primv ⟨#[83]⟩ (.func (.func 120) #[] #[])) rfl rfl (by omega) ?_)
  intro w10 hm10 hgg
  have hg10 := hg9.andThen hgg (fun _ e => .inr e)
  clear hgg hm9 hg9
  go_wp2_with (at_mapUpdate; refine wpList_put _ rfl (.tmp 22) (.const (.int .i64 71)) (.tmp 23) 50 48 (.inl rfl) Tryz.underlying50 b _ rfl hm10 (by first | omega | (simp only [List.length_cons]; omega)) 71 (primv ⟨#[83]⟩ (.func (.func 122) #[] #[])) rfl rfl (by omega) ?_)
  intro w11 hm11 hgg
  have hg11 := hg10.andThen hgg (fun _ e => .inr e)
  clear hgg hm10 hg10
  go_wp2_with (at_mapUpdate; refine wpList_put _ rfl (.tmp 24) (.const (.int .i64 72)) (.tmp 25) 50 48 (.inl rfl) Tryz.underlying50 b _ rfl hm11 (by first | omega | (simp only [List.length_cons]; omega)) 72 (primv ⟨#[83]⟩ (.func (.func 124) #[] #[])) rfl rfl (by omega) ?_)
  intro w12 hm12 hgg
  have hg12 := hg11.andThen hgg (fun _ e => .inr e)
  clear hgg hm11 hg11
  go_wp2_with (at_mapUpdate; refine wpList_put _ rfl (.tmp 26) (.const (.int .i64 81)) (.tmp 27) 50 48 (.inl rfl) Tryz.underlying50 b _ rfl hm12 (by first | omega | (simp only [List.length_cons]; omega)) 81 (primv ⟨#[67]⟩ (.func (.func 126) #[] #[])) rfl rfl (by omega) ?_)
  intro w13 hm13 hgg
  have hg13 := hg12.andThen hgg (fun _ e => .inr e)
  clear hgg hm12 hg12
  go_wp2_with (at_mapUpdate; refine wpList_put _ rfl (.tmp 28) (.const (.int .i64 82)) (.tmp 29) 50 48 (.inl rfl) Tryz.underlying50 b _ rfl hm13 (by first | omega | (simp only [List.length_cons]; omega)) 82 (primv ⟨#[76]⟩ (.func (.func 127) #[] #[])) rfl rfl (by omega) ?_)
  intro w14 hm14 hgg
  have hg14 := hg13.andThen hgg (fun _ e => .inr e)
  clear hgg hm13 hg13
  go_wp2_with (at_mapUpdate; refine wpList_put _ rfl (.tmp 30) (.const (.int .i64 83)) (.tmp 31) 50 48 (.inl rfl) Tryz.underlying50 b _ rfl hm14 (by first | omega | (simp only [List.length_cons]; omega)) 83 (primv ⟨#[67, 67]⟩ (.func (.func 128) #[] #[])) rfl rfl (by omega) ?_)
  intro w15 hm15 hgg
  have hg15 := hg14.andThen hgg (fun _ e => .inr e)
  clear hgg hm14 hg14
  go_wp2_with (at_mapUpdate; refine wpList_put _ rfl (.tmp 32) (.const (.int .i64 84)) (.tmp 33) 50 48 (.inl rfl) Tryz.underlying50 b _ rfl hm15 (by first | omega | (simp only [List.length_cons]; omega)) 84 (primv ⟨#[67]⟩ (.func (.func 129) #[] #[])) rfl rfl (by omega) ?_)
  intro w16 hm16 hgg
  have hg16 := hg15.andThen hgg (fun _ e => .inr e)
  clear hgg hm15 hg15
  go_wp2_with fail
  go_end0
  exact ⟨rfl, hm16, hg16⟩
end Go.Proofs.YtlodbibagmblkaaGreatDoor
namespace Go.Proofs.YtlodbibagmblkaaGreatDoor
open Go Go.RowKit Go.Lib
/-- functions that lie in blocks of their own -/
def Ins (w : World) (b : Nat) (S : List (Nat × Nat)) : Prop := ∀ x ∈ S, w.cell? ⟨x.2, 0, none⟩ = some (.func (.func x.1) #[] #[]) ∧ x.2 < w.heap.size ∧ x.2 ≠ b
theorem Ins.kept {w w' : World} {b : Nat} {S : List (Nat × Nat)} (h : Ins w b S) (hg : w.grownBy w' (some b)) : Ins w' b S := fun x hx => by
  obtain ⟨h1, h2, h3⟩ := h x hx
  refine ⟨?_, Nat.lt_of_lt_of_le h2 hg.size, h3⟩
  rw [World.cell?_of_block (w := w) (hg.block x.2 h2 (by intro e; injection e with e; exact h3 e))]
  exact h1
/-- a primitive of two integers, whose function lies in a block -/
def insv (p : Nat) : Value := primv ⟨#[73, 73]⟩ (.func (.func 24) #[] #[.pointer (some ⟨p, 0, none⟩)])
set_option maxRecDepth 4000 in
set_option maxHeartbeats 2000000 in
theorem ints_any (n : Int) (f b ba : Nat) (L : List (Int × Value)) (S : List (Nat × Nat)) (w : World) (h : MapAt w b L) (hL : L.length ≤ 500) (hS : Ins w b S) (hn : -1000 ≤ n ∧ n ≤ 1000) (hc : w.cell? ⟨ba, 0, none⟩ = some (.map (some b))) (hba : ba < w.heap.size) (hne : ba ≠ b) :
    Calls Tryz.prog 23 #[.int .i64 n, .func (.func f) #[] #[], .pointer (some ⟨ba, 0, none⟩)] w fun e w' => e = .returned (.tuple #[]) ∧ ∃ p, MapAt w' b ((n, insv p) :: L) ∧ Ins w' b ((f, p) :: S) ∧ w.grownBy w' (some b) ∧ w'.cell? ⟨ba, 0, none⟩ = some (.map (some b)) ∧ ba < w'.heap.size := by
  obtain ⟨T, W1, hW1, hfw, hs1, hg1⟩ : ∃ (T : TypeId) (W1 : World), w.alloc (.cells #[.func (.func f) #[] #[]] 63) = W1 ∧ W1.cell? ⟨w.heap.size, 0, none⟩ = some (.func (.func f) #[] #[]) ∧ W1.heap.size = w.heap.size + 1 ∧ w.grownBy W1 (some b) :=
    ⟨0, _, rfl, by simp, by simp, World.grownBy_alloc w _ _⟩
  have hbl := h.lt
  have h1 : MapAt W1 b L := h.kept (World.grownBy_alloc w _ none |> fun q => hW1 ▸ q) (by simp)
  have hS1 := hS.kept hg1
  have hc1 : W1.cell? ⟨ba, 0, none⟩ = some (.map (some b)) := by
    rw [World.cell?_of_block (w := w) (hg1.block ba hba (by intro e; injection e with e; exact hne e))]; exact hc
  have HS1 := Lib.hid hS1
  have HG1 := Lib.hid hg1
  have HFW := Lib.hid hfw
  have HC1 := Lib.hid hc1
  clear h hS hS1 hg1 hfw
  go_enter Tryz.func23, Tryz.ntmps23
  go_wp2_with (at_mapUpdate; refine wpList_put _ rfl (.tmp 5) (.tmp 6) (.tmp 8) 50 48 (.inl rfl) Tryz.underlying50 b _ rfl h1 (by omega) n (insv w.heap.size) rfl rfl (by omega) ?_)
  intro w2 hm2 hg2
  have hg := HG1.out.andThen hg2 (fun _ e => .inr e)
  have hS2 := HS1.out.kept hg2
  have hf2 : w2.cell? ⟨w.heap.size, 0, none⟩ = some (.func (.func f) #[] #[]) := by
    rw [World.cell?_of_block (w := W1) (hg2.block w.heap.size (by omega) (by intro e; injection e with e; omega))]; exact HFW.out
  have hc2 : w2.cell? ⟨ba, 0, none⟩ = some (.map (some b)) := by
    rw [World.cell?_of_block (w := W1) (hg2.block ba (by omega) (by intro e; injection e with e; exact hne e))]; exact HC1.out
  have hs2 := hg2.size
  go_wp2_with fail
  go_end0
  refine ⟨rfl, w.heap.size, hm2, fun x hx => ?_, hg, hc2, by omega⟩
  rcases List.mem_cons.1 hx with rfl | hx
  · exact ⟨hf2, by show w.heap.size < _; omega, by show w.heap.size ≠ b; omega⟩
  · exact hS2 x hx
end Go.Proofs.YtlodbibagmblkaaGreatDoor
