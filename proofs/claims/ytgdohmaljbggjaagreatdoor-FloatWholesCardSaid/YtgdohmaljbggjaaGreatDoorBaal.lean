/- A large number shifted to the left: the contract of Shift. The digits of a large number, plainly: one row for each number. The power of two of a float's first bit: the contract of Exponent. Floats times powers of two: the contracts of normalize and ldexp. Floats times powers of two: the contract of ldexp. Floats times powers of two: the contracts of ldexp, Ldexp and Scale. -/
import Derived.Test.YtgdohmaljbggjaaGreatDoorBaak
import Derived.Deep.RegionHeld3
import Derived.Test.YtgdohmaljbggjaaGreatDoorBaaj
import Derived.Test.YtgdohmaljbggjaaGreatDoorBaah
namespace Go.Proofs.YtgdohmaljbggjaaGreatDoor
open Go.RowKit Go.Lib
/-- The words of a large number's digits, shifted to the left. -/
def Pl.shl (l : List UInt8) (k : Nat) : List Nat := Pl.trimW (Pl.dn (k / 32 + (l.length + 3) / 4 + 1) (Pl.num (Pl.words ((l.length + 3) / 4) l) * 2 ^ k))
def ShiftOk (w : World) (neg : Bool) (xs : List Nat) (e : Ending) (w' : World) : Prop :=
  e = .returned (.tuple #[lv (neg && !(Pl.bytesOf xs).isEmpty) (Pl.bytesOf xs), .int .i64 0]) ∧ Below w.heap.size w w'
theorem rd_form {w : World} {v : Value} {xs : List Nat} (h : Rd w v xs) : ∃ a b c, v = .slice a b c := by
  rcases h with ⟨h1, _⟩ | ⟨_, _, h1, _⟩
  · exact ⟨_, _, _, h1⟩
  · exact ⟨_, _, _, h1⟩
theorem trimW_mem {xs : List Nat} {x : Nat} (h : x ∈ Pl.trimW xs) : x ∈ xs := by
  have h2 : Pl.trimW xs <+: xs := by
    unfold Pl.trimW
    have := List.dropWhile_suffix (fun x : Nat => x == 0) (l := xs.reverse)
    rw [← List.reverse_suffix]; simpa using this
  exact h2.mem h
theorem trimW_len (xs : List Nat) : (Pl.trimW xs).length ≤ xs.length := by
  have : (xs.reverse.dropWhile (· == 0)).length ≤ xs.reverse.length := (List.dropWhile_suffix _).length_le
  unfold Pl.trimW
  simp at this ⊢
  omega
/-- A parameter and a result, each in a block of its own. -/
structure Frm (w W : World) (neg : Bool) (s : ByteArray) : Prop where
  a : W.heap[w.heap.size]? = some (.cells #[.bool neg, .string s] 42)
  b : W.heap[w.heap.size + 1]? = some (.cells #[.bool false, .string ⟨#[]⟩] 42)
  low : Below w.heap.size w W
  size : w.heap.size + 2 ≤ W.heap.size
theorem Frm.new (w : World) (neg : Bool) (s : ByteArray) : Frm w ((w.alloc (.cells #[.bool neg, .string s] 42)).alloc (.cells #[.bool false, .string ⟨#[]⟩] 42)) neg s := by
  refine ⟨?_, ?_, ((Below.refl _ _).alloc (Nat.le_refl _) _).alloc (by simp) _, by simp⟩
  · rw [Below.heap_alloc _ _ _ (by simp)]; exact heap_alloc_at _ _
  · have := heap_alloc_at (w.alloc (.cells #[.bool neg, .string s] 42)) (.cells #[.bool false, .string ⟨#[]⟩] 42)
    simpa using this
theorem Frm.below {w W W' : World} {neg : Bool} {s : ByteArray} (h : Frm w W neg s) (hB : Below W.heap.size W W') : Frm w W' neg s := by
  have hs := h.size
  exact ⟨by rw [hB.block _ (by omega)]; exact h.a, by rw [hB.block _ (by omega)]; exact h.b, h.low.trans (hB.mono (by omega)), Nat.le_trans hs hB.size⟩
theorem Frm.cells {w W : World} {neg : Bool} {s : ByteArray} (h : Frm w W neg s) : W.cell? ⟨w.heap.size, 0, none⟩ = some (.bool neg) ∧ W.cell? ⟨w.heap.size, 1, none⟩ = some (.string s) ∧ W.cell? ⟨w.heap.size + 1, 0, none⟩ = some (.bool false) ∧ W.cell? ⟨w.heap.size + 1, 1, none⟩ = some (.string ⟨#[]⟩) ∧ W.frozen? ⟨w.heap.size + 1, 0, none⟩ = false ∧ W.frozen? ⟨w.heap.size + 1, 1, none⟩ = false := by
  refine ⟨?_, ?_, ?_, ?_, ?_, ?_⟩
  · simp [World.cell?, h.a]
  · simp [World.cell?, h.a]
  · simp [World.cell?, h.b]
  · simp [World.cell?, h.b]
  · simp [World.frozen?, h.b]
  · simp [World.frozen?, h.b]
set_option maxHeartbeats 2000000 in
theorem shiftl_any (neg : Bool) (l : List UInt8) (k : Nat) (w : World) (hl : l.length ≤ 4096) (hc : Pl.chk neg l = 0) (hk : k ≤ 32768) (hs : (Pl.bytesOf (Pl.shl l k)).length ≤ 4096) :
    Calls Tryz.prog 63 #[lv neg l, .int .i64 k] w (ShiftOk w neg (Pl.shl l k)) := by
  have HC := Lib.hid (fun w => check_any neg l w (by omega))
  rw [hc] at HC
  have HO := Lib.hid (fun w => lof_any neg l w hl)
  have hxw : ∀ x ∈ Pl.words ((l.length + 3) / 4) l, x < 4294967296 := fun x hx => by
    obtain ⟨j, _, rfl⟩ := List.mem_map.1 hx; exact Pl.word_lt l j
  have HL := Lib.hid (fun v w (h : Rd w v (Pl.words ((l.length + 3) / 4) l)) => left_any v _ k w h (by rw [Pl.words_len]; omega) hxw (by omega))
  rw [Pl.words_len] at HL
  have HT := Lib.hid (fun v w (h : Rd w v (Pl.shl l k)) => ltold_any v (Pl.shl l k) neg w h (by
    unfold Pl.shl; refine Nat.le_trans (trimW_len _) ?_; rw [Pl.dn_len]; omega) (fun x hx => Pl.dn_lt (trimW_mem hx)) hs)
  have HLV : Hid (∀ v w, Rd w v (Pl.words ((l.length + 3) / 4) l) → Calls Tryz.prog 110 #[v, .int .u64 k] w fun e w' => ∃ v', e = .returned v' ∧ Rd w' v' (Pl.shl l k) ∧ Below w.heap.size w w') := Lib.hid (fun v w h => HL.out v w h)
  clear HL hc hxw hs
  unfold lv at *
  generalize bs l = s at *
  go_enter Tryz.func63, Tryz.ntmps63
  go_wp2_with fail
  refine (HC.out _).mono ?_
  rintro e w1 ⟨rfl, hB1⟩
  have HF1 := Lib.hid ((Frm.new w neg s).below hB1)
  obtain ⟨g0, g1, _, _, _, _⟩ := HF1.out.cells
  clear hB1
  go_wp2_with fail
  refine (HO.out _).mono ?_
  rintro e w2 ⟨v, rfl, hrd, hB2⟩
  have HF2 := Lib.hid (HF1.out.below hB2)
  have HRD := Lib.hid hrd
  obtain ⟨va, vn, vc, rfl⟩ : ∃ a b c, v = .slice a b c := by
    rcases hrd with ⟨h1, _⟩ | ⟨_, _, h1, _⟩
    · exact ⟨_, _, _, h1⟩
    · exact ⟨_, _, _, h1⟩
  clear hB2 hrd HF1
  clear g0 g1
  have hd1 : decide ((k : Int) < -32768) = false := decide_eq_false (by omega)
  have hd2 : decide (32768 < (k : Int)) = false := decide_eq_false (by omega)
  go_wp2_with fail
  obtain ⟨C, hC⟩ : ∃ C, w2.heap.size = C := ⟨_, rfl⟩
  obtain ⟨W3, hW3⟩ : ∃ W3, w2.alloc (.cells #[.slice va vn vc, .bool neg] 112) = W3 := ⟨_, rfl⟩
  have hB3 : Below w2.heap.size w2 W3 := by rw [← hW3]; exact (Below.refl _ _).alloc (Nat.le_refl _) _
  have HF3 := Lib.hid (HF2.out.below hB3)
  have HRD3 := Lib.hid (HRD.out.below hB3)
  have hn : W3.heap[C]? = some (.cells #[.slice va vn vc, .bool neg] 112) := by rw [← hW3, ← hC]; exact heap_alloc_at _ _
  have n0 : W3.cell? ⟨C, 0, none⟩ = some (.slice va vn vc) := by simp [World.cell?, hn]
  have n1 : W3.cell? ⟨C, 1, none⟩ = some (.bool neg) := by simp [World.cell?, hn]
  have hCs : C < W3.heap.size := (Array.getElem?_eq_some_iff.1 hn).1
  rw [hC, hW3]
  clear hB3 hn hW3 hC HRD HF2
  obtain ⟨B, hBd⟩ : ∃ B, w.heap.size + 1 = B := ⟨_, rfl⟩
  rw [hBd]
  have HBd := Lib.hid hBd
  clear hBd
  have hku : IntKind.u64.wrap (k : Int) = (k : Int) := wrap_nat (by omega)
  go_region_with (first | (go_at_call 110; refine (HLV.out _ _ (by exact HRD3.out)).mono ?_; rintro e w4 ⟨v4, rfl, hrd4, hB4d⟩; have hB4 : Below W3.heap.size W3 w4 := (Below.refl _ W3).drew.trans hB4d; clear hB4d; obtain ⟨x1, x2, x3, rfl⟩ := rd_form hrd4; have m1 : w4.cell? ⟨C, 1, none⟩ = some (.bool neg) := (by rw [hB4.cell (p := ⟨C, 1, none⟩) hCs]; exact n1)) | (go_at_call 109; refine (HT.out _ _ hrd4).mono ?_; rintro e w5 ⟨rfl, hB5⟩; have HF5 := Lib.hid ((HF3.out.below hB4).below hB5); obtain ⟨_, _, r0, r1, f0, f1⟩ := HF5.out.cells; rw [HBd.out] at r0 r1 f0 f1; unfold lv))
  all_goals
    obtain ⟨k0, k1, kB⟩ := two_set w5 B (.bool (neg && !(Pl.bytesOf (Pl.shl l k)).isEmpty)) (.string (bs (Pl.bytesOf (Pl.shl l k)))) r0 r1
    have kB' := HF5.out.low.trans (kB.mono (by have := HBd.out; omega))
    clear r0 r1 f0 f1
    go_wp2_with fail
    refine bodyPost_ret (v := .tuple #[.agg #[.bool (neg && !(Pl.bytesOf (Pl.shl l k)).isEmpty), .string (bs (Pl.bytesOf (Pl.shl l k)))], .int .i64 0]) (by simp [results, Tryz.results63, go_sem, k0, k1]) rfl ⟨rfl, kB'⟩
end Go.Proofs.YtgdohmaljbggjaaGreatDoor
namespace Go.Proofs.YtgdohmaljbggjaaGreatDoor
open Go.RowKit Go.Lib
namespace Pl
/-- No nought at the end. -/
def Canon (l : List UInt8) : Prop := l.getLast? ≠ some 0
theorem le_append : ∀ (a b : List UInt8), le (a ++ b) = le a + 256 ^ a.length * le b
  | [], b => by simp [le]
  | x :: a, b => by rw [List.cons_append, le, le_append a b, le, List.length_cons, Nat.pow_succ, Nat.mul_add, ← Nat.mul_assoc, Nat.mul_comm 256 (256 ^ a.length)]; omega
theorem le_strip (l : List UInt8) : le (strip l) = le l := by
  have key : ∀ l : List UInt8, le (l.dropWhile (· == 0)).reverse = le l.reverse := by
    intro l
    induction l with
    | nil => rfl
    | cons a l ih =>
      by_cases h : a = 0
      · subst h; simp [ih, le_append, le]
      · simp [h]
  have := key l.reverse
  rw [List.reverse_reverse] at this
  exact this
theorem canon_strip (l : List UInt8) : Canon (strip l) := by
  have key : ∀ l : List UInt8, Canon (l.dropWhile (· == 0)).reverse := by
    intro l
    induction l with
    | nil => simp [Canon]
    | cons a l ih =>
      by_cases h : a = 0
      · subst h; simpa using ih
      · simp [h, Canon]
  exact key l.reverse
theorem le_four {x : Nat} (h : x < 4294967296) : le (four x) = x := by
  simp [four, le]; omega
theorem le_flat : ∀ xs : List Nat, (∀ x ∈ xs, x < 4294967296) → le (flat xs) = num xs
  | [], _ => rfl
  | x :: xs, h => by
    have e : flat (x :: xs) = four x ++ flat xs := by simp [flat]
    rw [e, le_append, le_four (h x (by simp)), le_flat xs (fun y hy => h y (by simp [hy])), num]
    simp [four]
theorem le_bytesOf {xs : List Nat} (h : ∀ x ∈ xs, x < 4294967296) : le (bytesOf xs) = num xs := by
  unfold bytesOf
  rw [le_strip, le_flat _ (fun x hx => h x (trimW_mem hx)), num_trimW]
theorem canon_bytesOf (xs : List Nat) : Canon (bytesOf xs) := canon_strip _
theorem canon_ge {l : List UInt8} (h : Canon l) (h0 : l ≠ []) : 256 ^ (l.length - 1) ≤ le l := by
  have e := List.dropLast_concat_getLast h0
  have hl : l.getLast h0 ≠ 0 := fun h2 => h (by rw [List.getLast?_eq_some_getLast h0, h2])
  rw [← e, le_snoc, List.length_append, List.length_singleton, Nat.add_sub_cancel]
  have h1 : 1 ≤ (l.getLast h0).toNat := by
    rcases Nat.eq_zero_or_pos (l.getLast h0).toNat with h3 | h3
    · exact (hl (UInt8.toNat_inj.1 h3)).elim
    · exact h3
  exact Nat.le_trans (Nat.le_mul_of_pos_right _ h1) (Nat.le_add_left _ _)
theorem canon_tail {a : UInt8} {l : List UInt8} (h : Canon (a :: l)) : Canon l := by
  unfold Canon at h ⊢
  cases l with
  | nil => simp
  | cons b l => rwa [List.getLast?_cons_cons] at h
theorem le_inj : ∀ {l m : List UInt8}, Canon l → Canon m → le l = le m → l = m
  | [], [], _, _, _ => rfl
  | [], b :: m, _, h2, h => by
    have := canon_ge h2 (by simp)
    have h3 : 0 < 256 ^ ((b :: m).length - 1) := Nat.pow_pos (by decide)
    rw [← h, le] at this; omega
  | a :: l, [], h1, _, h => by
    have := canon_ge h1 (by simp)
    have h3 : 0 < 256 ^ ((a :: l).length - 1) := Nat.pow_pos (by decide)
    rw [h, le] at this; omega
  | a :: l, b :: m, h1, h2, h => by
    rw [le, le] at h
    have ha := a.toNat_lt
    have hb := b.toNat_lt
    have e1 : a.toNat = b.toNat := by omega
    have e2 : le l = le m := by omega
    rw [UInt8.toNat_inj.1 e1, le_inj (canon_tail h1) (canon_tail h2) e2]
theorem canon_len {l : List UInt8} {n : Nat} (h : Canon l) (hv : le l < 256 ^ n) : l.length ≤ n := by
  by_cases h0 : l = []
  · subst h0; simp
  · have h1 := canon_ge h h0
    have h2 : 256 ^ (l.length - 1) < 256 ^ n := Nat.lt_of_le_of_lt h1 hv
    have := (Nat.pow_lt_pow_iff_right (by decide : 1 < 256)).1 h2
    omega
/-- The digits of a number. -/
def dgs (V : Nat) : List UInt8 := bytesOf (dn (V.log2 / 32 + 1) V)
theorem lt_words (V : Nat) : V < 4294967296 ^ (V.log2 / 32 + 1) := by
  have e : (4294967296 : Nat) ^ (V.log2 / 32 + 1) = 2 ^ (32 * (V.log2 / 32 + 1)) := by rw [Nat.pow_mul]
  rw [e]
  exact Nat.lt_of_lt_of_le Nat.lt_log2_self (Nat.pow_le_pow_right (by decide) (by omega))
theorem le_dgs (V : Nat) : le (dgs V) = V := by
  unfold dgs
  rw [le_bytesOf (fun x hx => dn_lt hx), num_dn _ _ (lt_words V)]
theorem canon_dgs (V : Nat) : Canon (dgs V) := canon_bytesOf _
theorem dgs_le {l : List UInt8} (h : Canon l) : dgs (le l) = l := le_inj (canon_dgs _) h (le_dgs _)
theorem bytesOf_is {xs : List Nat} (h : ∀ x ∈ xs, x < 4294967296) : bytesOf xs = dgs (num xs) := le_inj (canon_bytesOf _) (canon_dgs _) (by rw [le_bytesOf h, le_dgs])
theorem dgs_zero : dgs 0 = [] := by
  have h := le_dgs 0
  by_cases h0 : dgs 0 = []
  · exact h0
  · have h1 := canon_ge (canon_dgs 0) h0
    have : 0 < 256 ^ ((dgs 0).length - 1) := Nat.pow_pos (by decide)
    omega
theorem dgs_empty (V : Nat) : (dgs V).isEmpty = decide (V = 0) := by
  by_cases h : V = 0
  · subst h; rw [dgs_zero]; rfl
  · rw [decide_eq_false h]
    have h1 := le_dgs V
    cases hd : dgs V with
    | nil => rw [hd, le] at h1; omega
    | cons a l => rfl
theorem dgs_len {V n : Nat} (h : V < 256 ^ n) : (dgs V).length ≤ n := canon_len (canon_dgs V) (by rw [le_dgs]; exact h)
theorem num_words (l : List UInt8) : ∀ n, l.length ≤ 4 * n → num (words n l) = le l := by
  have key : ∀ n, ∀ l : List UInt8, l.length ≤ 4 * n → num (words n l) = le l := by
    intro n
    induction n with
    | zero => intro l h; have : l = [] := List.length_eq_zero_iff.1 (by omega)
              subst this; rfl
    | succ n ih =>
      intro l h
      have e : words (n + 1) l = word l 0 :: words n (l.drop 4) := by
        unfold words
        rw [List.range_succ_eq_map, List.map_cons, List.map_map]
        congr 1
        apply List.map_congr_left
        intro j _
        simp only [Function.comp, word, List.drop_drop]
        rw [show 4 + 4 * j = 4 * (j.succ) by omega]
      rw [e, num, ih _ (by rw [List.length_drop]; omega)]
      conv => rhs; rw [← List.take_append_drop 4 l]
      rw [le_append]
      unfold word
      simp only [Nat.mul_zero, List.drop_zero]
      by_cases h4 : 4 ≤ l.length
      · rw [List.length_take, Nat.min_eq_left h4]
      · rw [List.drop_eq_nil_of_le (by omega)]; simp [le]
  exact fun n => key n l
theorem shl_is (V k : Nat) : bytesOf (shl (dgs V) k) = dgs (V * 2 ^ k) := by
  have hn := num_words (dgs V) (((dgs V).length + 3) / 4) (by omega)
  rw [le_dgs] at hn
  refine le_inj (canon_bytesOf _) (canon_dgs _) ?_
  unfold shl
  rw [le_bytesOf (fun x hx => dn_lt (trimW_mem hx)), le_dgs, num_trimW, hn, num_dn]
  have h1 := le_lt (dgs V)
  rw [le_dgs] at h1
  generalize (dgs V).length = L at *
  have e1 : (256 : Nat) ^ L = 2 ^ (8 * L) := by rw [Nat.pow_mul]
  have e2 : (4294967296 : Nat) ^ (k / 32 + (L + 3) / 4 + 1) = 2 ^ (32 * (k / 32 + (L + 3) / 4 + 1)) := by rw [Nat.pow_mul]
  rw [e1] at h1
  rw [e2]
  have h2 : V * 2 ^ k < 2 ^ (8 * L) * 2 ^ k := Nat.mul_lt_mul_of_pos_right h1 (Nat.pow_pos (by decide))
  rw [← Nat.pow_add] at h2
  exact Nat.lt_of_lt_of_le h2 (Nat.pow_le_pow_right (by decide) (by omega))
theorem chk_dgs {neg : Bool} {V : Nat} (h : V < 256 ^ 4096) (hn : neg = true → V ≠ 0) : chk neg (dgs V) = 0 := by
  have hl := dgs_len h
  unfold chk
  rw [if_neg (by omega)]
  by_cases h0 : (dgs V).length = 0
  · rw [if_pos h0]
    have h1 : dgs V = [] := List.length_eq_zero_iff.1 h0
    have h2 := le_dgs V
    rw [h1, le] at h2
    cases neg
    · rfl
    · exact (hn rfl h2.symm).elim
  · rw [if_neg h0, if_neg]
    intro h1
    exact canon_dgs V (by rw [List.getLast?_eq_getElem?]; exact h1)
end Pl
/-- A number as a large one. -/
def lof (t : Int) : Value := lv (decide (t < 0)) (Pl.dgs t.natAbs)
theorem ofv_is {n : Int} (h1 : -9223372036854775808 ≤ n) (h2 : n ≤ 9223372036854775807) : ofv n = lof n := by
  obtain ⟨V, hV⟩ : ∃ V, n.natAbs = V := ⟨_, rfl⟩
  have e : Pl.bytesOf [V % 4294967296, V / 4294967296] = Pl.dgs V := by
    rw [Pl.bytesOf_is (by intro x hx; simp at hx; omega)]
    congr 1
    simp only [Pl.num]; omega
  unfold ofv lof
  rw [hV, e, Pl.dgs_empty]
  congr 1
  by_cases hn : n < 0
  · rw [decide_eq_true hn, decide_eq_false (by omega)]; rfl
  · rw [decide_eq_false hn]; rfl
end Go.Proofs.YtgdohmaljbggjaaGreatDoor
namespace Go.Proofs.YtgdohmaljbggjaaGreatDoor
open Go.RowKit Go.Lib
/-- What Exponent answers. -/
def expv (a : Nat) : Value := match Fl.fexp a with | some n => .tuple #[.int .i64 n, .int .i64 0] | none => .tuple #[.int .i64 0, .int .i64 101]
theorem bits_exu (a : Nat) (ha : a < 18446744073709551616) : bits .and .u64 ((a : Int) / 4503599627370496) 2047 = ((a / 4503599627370496 % 2048 : Nat) : Int) := by
  have := bits_low (a := a / 4503599627370496) (k := 11) (by omega) (by decide)
  rw [show ((2 ^ 11 - 1 : Nat) : Int) = 2047 from rfl, show (2 : Nat) ^ 11 = 2048 from rfl] at this
  rw [← this]; simp
theorem log2_len {r : Nat} (h0 : r ≠ 0) (h : r < 18446744073709551616) : Lib.bitLen r = r.log2 + 1 := by
  exact Pl.bitLen_unique h (Nat.log2_self_le h0) (by rw [Nat.pow_succ]; exact (by have := Nat.lt_log2_self (n := r); rw [Nat.pow_succ] at this; exact this))
set_option maxHeartbeats 1000000 in
theorem exponent_any (a : Nat) (w : World) (ha : a < 18446744073709551616) :
    Calls Tryz.prog 16 #[.int .u64 a] w fun e w' => e = .returned (expv a) ∧ w = w' := by
  have HF := Lib.hid (fun w => finite_any a ha w)
  have HEX := Lib.hid (bits_exu a ha)
  have HMT := Lib.hid (bits_mt a ha)
  by_cases hf : a % 9223372036854775808 < 9218868437227405312
  · rw [decide_eq_true hf] at HF
    by_cases hz : a % 9223372036854775808 = 0
    · have HV := Lib.hid (show expv a = .tuple #[.int .i64 0, .int .i64 101] by unfold expv Fl.fexp; rw [if_pos (.inl hz)])
      have ho : FloatKind.f64.format.order a 0 = some .eq := by
        show Fl.D.order a 0 = _
        rw [Fl.order_key (by simp [Fl.isNan]; omega) (by decide)]
        have h0 : Fl.val (Fl.D.read 0) = 0 := by rw [Fl.read_eq]; decide +kernel
        have h1 : Fl.val (Fl.D.read a) = 0 := by
          rw [Fl.read_eq, if_pos (by omega), hz]
          simp only [Fl.val]
          unfold Ieee.signed
          simp
        rw [h0, h1]; rfl
      clear hz hf HEX HMT
      go_enter Tryz.func16, Tryz.ntmps16
      go_wp2_with (first | (refine (of_any _ _).mono ?_; rintro e w' ⟨rfl, rfl⟩) | (refine (HF.out _).mono ?_; rintro e w' ⟨rfl, rfl⟩))
      go_ret2
      exact ⟨by rw [HV.out]; rfl, rfl⟩
    · have HZ0 : FloatKind.f64.format.order a 0 = some .lt ∨ FloatKind.f64.format.order a 0 = some .gt := Fl.order_zero hf hz
      obtain ⟨ex, hex⟩ : ∃ ex, a / 4503599627370496 % 2048 = ex := ⟨_, rfl⟩
      obtain ⟨mt, hmt⟩ : ∃ mt, a % 4503599627370496 = mt := ⟨_, rfl⟩
      have hexr : a % 9223372036854775808 / 4503599627370496 = ex := by omega
      have x1 : bits .and .u64 ((a : Int) / 4503599627370496) 2047 = (ex : Int) := by rw [HEX.out, hex]
      have x2 : bits .and .u64 (a : Int) 4503599627370495 = (mt : Int) := by rw [HMT.out, hmt]
      have hexb : ex < 2048 := by omega
      by_cases he : ex = 0
      · have hmr : a % 9223372036854775808 = mt := by omega
        have hm0 : mt ≠ 0 := by omega
        have hmb : mt < 4503599627370496 := by omega
        have HV := Lib.hid (show expv a = .tuple #[.int .i64 ((Lib.bitLen mt : Nat) - 1075 : Int), .int .i64 0] by
          unfold expv Fl.fexp
          rw [if_neg (by omega), hexr, if_pos he, hmr, log2_len hm0 (by omega)]
          have : (((mt.log2 : Nat) : Int) - 1074) = (((mt.log2 + 1 : Nat) : Int) - 1075) := by omega
          rw [this])
        have hbl : Lib.bitLen mt ≤ 64 := bitLen_le mt 64 (Nat.le_refl _) (by omega)
        have hex0 : (ex : Int) ≤ 0 := by omega
        have HE0 := Lib.hid he
        clear hz hf HEX HMT hex hmt hexr hmr hm0 he
        rcases HZ0 with ho | ho
        all_goals
          go_enter Tryz.func16, Tryz.ntmps16
          go_wp2_with (first | (refine (of_any _ _).mono ?_; rintro e w' ⟨rfl, rfl⟩) | (refine (HF.out _).mono ?_; rintro e w' ⟨rfl, rfl⟩))
          refine (Tryz.bits_Len64 _ _ (by omega) (by omega)).mono ?_
          rintro e w' ⟨rfl, rfl⟩
          rw [Int.toNat_natCast]
          generalize Lib.bitLen mt = L at hbl HV ⊢
          go_wp2_with fail
          go_ret2
          exact ⟨by rw [HV.out]; rfl, rfl⟩
      · have HV := Lib.hid (show expv a = .tuple #[.int .i64 ((ex : Int) - 1023), .int .i64 0] by
          unfold expv Fl.fexp
          rw [if_neg (by omega), hexr, if_neg he])
        have hex0 : 0 < (ex : Int) := by omega
        clear hz hf HEX HMT hex hmt hexr he
        rcases HZ0 with ho | ho
        all_goals
          go_enter Tryz.func16, Tryz.ntmps16
          go_wp2_with (first | (refine (of_any _ _).mono ?_; rintro e w' ⟨rfl, rfl⟩) | (refine (HF.out _).mono ?_; rintro e w' ⟨rfl, rfl⟩))
          go_ret2
          exact ⟨by rw [HV.out]; rfl, rfl⟩
  · rw [decide_eq_false hf] at HF
    have HV := Lib.hid (show expv a = .tuple #[.int .i64 0, .int .i64 101] by unfold expv Fl.fexp; rw [if_pos (.inr (by omega))])
    clear hf HEX HMT
    go_enter Tryz.func16, Tryz.ntmps16
    go_wp2_with (first | (refine (of_any _ _).mono ?_; rintro e w' ⟨rfl, rfl⟩) | (refine (HF.out _).mono ?_; rintro e w' ⟨rfl, rfl⟩))
    go_ret2
    exact ⟨by rw [HV.out]; rfl, rfl⟩
end Go.Proofs.YtgdohmaljbggjaaGreatDoor
namespace Go.Proofs.YtgdohmaljbggjaaGreatDoor.Fl
open Ieee
theorem read_tiny : D.read 4503599627370496 = .number false 4503599627370496 (-1074) := by rw [read_eq]; decide +kernel
theorem val_tiny : val (D.read 4503599627370496) = 4503599627370496 := by rw [read_tiny]; decide +kernel
/-- Below the smallest number with full digits. -/
theorem order_tiny {r : Nat} (hr : r < 9218868437227405312) : D.order r 4503599627370496 = some (compare (r : Nat) 4503599627370496) := by
  have hn : isNan r = false := by simp [isNan]; omega
  rw [order_key hn (by decide), val_tiny]
  have hr2 : r % 9223372036854775808 = r := by omega
  have hs : (r / 9223372036854775808 % 2 == 1) = false := by
    have : r / 9223372036854775808 = 0 := by omega
    rw [this]; rfl
  rw [read_eq, hr2, hs]
  by_cases h : r < 4503599627370496
  · rw [if_pos h]
    have hv : val (.number false r (-1074)) = (r : Int) := by simp [val, signed]
    rw [hv, cmp_lt (by omega)]
    simp [compare, compareOfLessAndEq, h]
  · rw [if_neg h, if_pos hr]
    have hv : val (.number false (4503599627370496 + r % 4503599627370496) (-1074 + (r / 4503599627370496 - 1 : Nat))) = (((4503599627370496 + r % 4503599627370496) * 2 ^ (r / 4503599627370496 - 1) : Nat) : Int) := by
      simp only [val, signed, Nat.shiftLeft_eq]
      have e : (-1074 + ((r / 4503599627370496 - 1 : Nat) : Int) + 1074).toNat = r / 4503599627370496 - 1 := by omega
      rw [e]; rfl
    rw [hv]
    by_cases h2 : r = 4503599627370496
    · subst h2; rfl
    · have hp : 1 ≤ 2 ^ (r / 4503599627370496 - 1) := Nat.one_le_two_pow
      have hgt : 4503599627370496 < (4503599627370496 + r % 4503599627370496) * 2 ^ (r / 4503599627370496 - 1) := by
        by_cases h3 : r % 4503599627370496 = 0
        · have h4 : 2 ≤ r / 4503599627370496 := by omega
          have : 2 ^ 1 ≤ 2 ^ (r / 4503599627370496 - 1) := Nat.pow_le_pow_right (by decide) (by omega)
          rw [h3]; omega
        · have : (4503599627370496 + r % 4503599627370496) * 1 ≤ (4503599627370496 + r % 4503599627370496) * 2 ^ (r / 4503599627370496 - 1) := Nat.mul_le_mul_left _ hp
          omega
      generalize (4503599627370496 + r % 4503599627370496) * 2 ^ (r / 4503599627370496 - 1) = v at hgt
      rw [cmp_gt (by omega)]
      have h5 : ¬ r < 4503599627370496 := h
      simp [compare, compareOfLessAndEq, h5, h2]
/-- A number's form with full digits. -/
theorem normal_form {a : Nat} (ha : a < 18446744073709551616) (hf : a % 9223372036854775808 < 9218868437227405312) (hz : a % 9223372036854775808 ≠ 0) :
    ∃ (s : Bool) (m z : Nat), 4503599627370496 ≤ m ∧ m < 9007199254740992 ∧ z ≤ 2045 ∧ s = (a / 9223372036854775808 % 2 == 1) ∧
      ((4503599627370496 ≤ a % 9223372036854775808 ∧ a = D.word s (z * 4503599627370496 + m) ∧ ∀ k, D.write (scaled k (D.read a)) = D.nearest s m (z - 1074 + k)) ∨
       (a % 9223372036854775808 < 4503599627370496 ∧ D.mul a 4841369599423283200 = some (D.word s (z * 4503599627370496 + m)) ∧ ∀ k, D.write (scaled k (D.read a)) = D.nearest s m (z - 1126 + k))) := by
  obtain ⟨r, hr⟩ : ∃ r, a % 9223372036854775808 = r := ⟨_, rfl⟩
  obtain ⟨s, hs⟩ : ∃ s, (a / 9223372036854775808 % 2 == 1) = s := ⟨_, rfl⟩
  have hread := read_eq a
  rw [hr, hs] at hread
  rw [hr] at hf hz
  by_cases h : r < 4503599627370496
  · rw [if_pos h] at hread
    obtain ⟨l1, l2, l3, l4⟩ := full_sub hz h
    refine ⟨s, r * 2 ^ (52 - r.log2), r.log2, l2, l3, by omega, hs.symm, .inr ⟨by omega, ?_, fun k => ?_⟩⟩
    · rw [mul_52 s r _ hread, l4, nearest_exact s (by omega) l3 (.inl l2) (by omega)]
      have e : (-1074 + 52 - ((52 - r.log2 : Nat) : Int) + 1074).toNat = r.log2 := by omega
      rw [e]
    · rw [hread]
      show D.nearest s r (-1074 + k) = _
      rw [l4]
      congr 1
      omega
  · rw [if_neg h, if_pos hf] at hread
    refine ⟨s, 4503599627370496 + r % 4503599627370496, r / 4503599627370496 - 1, by omega, by omega, by omega, hs.symm, .inl ⟨by omega, ?_, fun k => ?_⟩⟩
    · have h1 := word_of ha
      rw [hr, hs] at h1
      rw [← h1]
      congr 1
      omega
    · rw [hread]
      show D.nearest s _ (-1074 + ((r / 4503599627370496 - 1 : Nat) : Int) + k) = _
      have e : -1074 + ((r / 4503599627370496 - 1 : Nat) : Int) + k = ((r / 4503599627370496 - 1 : Nat) : Int) - 1074 + k := by omega
      rw [e]
end Go.Proofs.YtgdohmaljbggjaaGreatDoor.Fl
namespace Go.Proofs.YtgdohmaljbggjaaGreatDoor
open Go.RowKit Go.Lib
/-- What normalize answers of a number: full digits, and the power that was taken. -/
def NormOk (y : Nat) (e : Int) (w : World) (en : Ending) (w' : World) : Prop := en = .returned (.tuple #[.float .f64 y, .int .i64 e]) ∧ w = w'
set_option maxHeartbeats 1000000 in
theorem norm_big (a : Nat) (ha : a < 18446744073709551616) (hf : a % 9223372036854775808 < 9218868437227405312) (h : 4503599627370496 ≤ a % 9223372036854775808) (w : World) :
    Calls Tryz.prog 148 #[.float .f64 a] w (NormOk a 0 w) := by
  have HA := Lib.hid (abs_any a ha)
  have ho0 := Fl.order_tiny hf
  generalize a % 9223372036854775808 = r at *
  have ho : FloatKind.f64.format.order r 4503599627370496 = some .eq ∨ FloatKind.f64.format.order r 4503599627370496 = some .gt := by
    have e : FloatKind.f64.format.order r 4503599627370496 = some (compare (r : Nat) 4503599627370496) := ho0
    rw [e]
    by_cases h2 : r = 4503599627370496
    · left; subst h2; rfl
    · right
      have h5 : ¬ r < 4503599627370496 := by omega
      simp [compare, compareOfLessAndEq, h5, h2]
  clear ho0 h hf
  rcases ho with ho | ho
  all_goals
    go_enter Tryz.func148, Tryz.ntmps148
    go_wp2_with fail
    refine (HA.out _).mono ?_
    rintro e w' ⟨rfl, rfl⟩
    go_wp2_with fail
    go_ret2
    exact ⟨rfl, rfl⟩
set_option maxHeartbeats 1000000 in
theorem norm_small (a y : Nat) (ha : a < 18446744073709551616) (h : a % 9223372036854775808 < 4503599627370496) (hy : Fl.D.mul a 4841369599423283200 = some y) (w : World) :
    Calls Tryz.prog 148 #[.float .f64 a] w (NormOk y (-52) w) := by
  have HA := Lib.hid (abs_any a ha)
  have ho0 := Fl.order_tiny (r := a % 9223372036854775808) (by omega)
  have h2 := fun (t : TypeId) (w : World) => run_float_arith (P := Tryz.prog) w .mul t .f64 a 4841369599423283200 y hy
  generalize a % 9223372036854775808 = r at *
  have ho : FloatKind.f64.format.order r 4503599627370496 = some .lt := by
    have e : FloatKind.f64.format.order r 4503599627370496 = some (compare (r : Nat) 4503599627370496) := ho0
    rw [e]
    simp [compare, compareOfLessAndEq, h]
  clear ho0 h hy
  go_enter Tryz.func148, Tryz.ntmps148
  go_wp2_with fail
  refine (HA.out _).mono ?_
  rintro e w' ⟨rfl, rfl⟩
  go_wp2_with fail
  go_ret2
  exact ⟨rfl, rfl⟩
theorem isNaN_no (a : Nat) (h : Fl.isNan a = false) (w : World) : Calls Tryz.prog 147 #[.float .f64 a] w fun e w' => e = .returned (.bool false) ∧ w = w' := by
  have ho : FloatKind.f64.format.order a a = some .eq := by rw [Fl.order_self, h]; rfl
  go_enter Tryz.func147, Tryz.ntmps147
  go_wp2_with fail
  go_ret
  exact ⟨rfl, rfl⟩
theorem isNaN_yes (a : Nat) (h : Fl.isNan a = true) (w : World) : Calls Tryz.prog 147 #[.float .f64 a] w fun e w' => e = .returned (.bool true) ∧ w = w' := by
  have ho : FloatKind.f64.format.order a a = none := by rw [Fl.order_self, h]; rfl
  go_enter Tryz.func147, Tryz.ntmps147
  go_wp2_with fail
  go_ret
  exact ⟨rfl, rfl⟩
theorem inf_any (n : Int) (w : World) (hn : n = 1 ∨ n = -1) : Calls Tryz.prog 150 #[.int .i64 n] w fun e w' => e = .returned (.float .f64 (if n = 1 then 9218868437227405312 else 18442240474082181120)) ∧ w = w' := by
  have h1 := run_frombits
  rcases hn with rfl | rfl
  all_goals
    go_enter Tryz.func150, Tryz.ntmps150
    go_wp2_with fail
    go_ret
    exact ⟨rfl, rfl⟩
end Go.Proofs.YtgdohmaljbggjaaGreatDoor
namespace Go.Proofs.YtgdohmaljbggjaaGreatDoor
open Go.RowKit Go.Lib
namespace Fl
open Ieee
theorem word_is (s : Bool) (r : Nat) : D.word s r = (if s then 9223372036854775808 else 0) + r := by
  unfold Format.word
  have : D.signWeight = 9223372036854775808 := by decide
  rw [this]
  cases s
  · simp
  · rfl
theorem order_sign (s : Bool) {m z : Nat} (h1 : 4503599627370496 ≤ m) (h2 : m < 9007199254740992) (hz : z ≤ 2045) : D.order (D.word s (z * 4503599627370496 + m)) 0 = some (if s then .lt else .gt) := by
  obtain ⟨r1, r2, r3⟩ := read_full s h1 h2 hz
  rw [order_key r3 (by decide), r1]
  have h0 : val (D.read 0) = 0 := by rw [read_eq]; decide +kernel
  rw [h0]
  simp only [val]
  unfold Ieee.signed
  rw [Nat.shiftLeft_eq]
  have hp : 0 < m * 2 ^ ((z : Int) - 1074 + 1074).toNat := Nat.mul_pos (by omega) (Nat.pow_pos (by decide))
  generalize m * 2 ^ ((z : Int) - 1074 + 1074).toNat = v at *
  cases s
  · rw [cmp_gt (by simp; omega)]; rfl
  · rw [cmp_lt (by simp; omega)]; rfl
end Fl
theorem andnot_ex (s : Bool) {m z : Nat} (h1 : 4503599627370496 ≤ m) (h2 : m < 9007199254740992) (hz : z ≤ 2045) : bits .andNot .u64 ((Fl.D.word s (z * 4503599627370496 + m) : Nat) : Int) 9218868437227405312 = (((if s then 9223372036854775808 else 0) + (m - 4503599627370496) : Nat) : Int) := by
  rw [Fl.word_is]
  have h := u64_andNot_nat ((if s then 9223372036854775808 else 0) + (z * 4503599627370496 + m)) 9218868437227405312 (by cases s <;> simp <;> omega) (by omega)
  rw [show ((9218868437227405312 : Nat) : Int) = 9218868437227405312 from rfl] at h
  have key : ((if s then 9223372036854775808 else 0) + (z * 4503599627370496 + m)) &&& (18446744073709551615 - 9218868437227405312) = (if s then 9223372036854775808 else 0) + (m - 4503599627370496) := by
    have hc : 18446744073709551615 - 9218868437227405312 = 9223372036854775808 ||| (2 ^ 52 - 1) := by decide
    rw [hc, Nat.and_or_distrib_left, Nat.and_two_pow_sub_one_eq_mod]
    have e1 : ((if s then 9223372036854775808 else 0) + (z * 4503599627370496 + m)) % 2 ^ 52 = m - 4503599627370496 := by
      have : (2 : Nat) ^ 52 = 4503599627370496 := by decide
      rw [this]; cases s <;> simp <;> omega
    have e2 : ((if s then 9223372036854775808 else 0) + (z * 4503599627370496 + m)) &&& 9223372036854775808 = (if s then 9223372036854775808 else 0) := by
      have hk : (9223372036854775808 : Nat) = 2 ^ 63 := by decide
      rw [hk]
      have ht : (((if s then 2 ^ 63 else 0) + (z * 4503599627370496 + m))).testBit 63 = s := by
        rw [Nat.testBit_eq_decide_div_mod_eq]
        cases s
        · have : ((if false = true then 2 ^ 63 else 0) + (z * 4503599627370496 + m)) / 2 ^ 63 % 2 = 0 := by simp; omega
          rw [this]; rfl
        · have : ((if true = true then 2 ^ 63 else 0) + (z * 4503599627370496 + m)) / 2 ^ 63 % 2 = 1 := by simp; omega
          rw [this]; rfl
      apply Nat.eq_of_testBit_eq
      intro i
      rw [Nat.testBit_and, Nat.testBit_two_pow]
      by_cases hi : 63 = i
      · subst hi
        rw [ht]
        cases s
        · simp
        · simp; decide
      · cases s
        · simp [hi]
        · have h2 := Nat.testBit_two_pow (n := 63) (m := i)
          rw [← hk] at h2
          simp [hi] at h2 ⊢
          exact h2
    rw [e1, e2]
    have hlt : m - 4503599627370496 < 2 ^ 63 := by omega
    cases s
    · simp
    · rw [if_pos rfl]
      have := Nat.two_pow_add_eq_or_of_lt (i := 63) hlt 1
      simpa using this.symm
  rw [h, key]
theorem or_ex (s : Bool) {m z : Nat} (h1 : 4503599627370496 ≤ m) (h2 : m < 9007199254740992) (hz : z ≤ 2045) : bits .or .u64 (((if s then 9223372036854775808 else 0) + (m - 4503599627370496) : Nat) : Int) (((z + 1) * 4503599627370496 : Nat) : Int) = ((Fl.D.word s (z * 4503599627370496 + m) : Nat) : Int) := by
  rw [bits_or (by cases s <;> simp <;> omega) (by omega), Fl.word_is]
  apply congrArg (fun n : Nat => (n : Int))
  have hlt : m - 4503599627370496 < 2 ^ 52 := by omega
  have e1 : (z + 1) * 4503599627370496 ||| (m - 4503599627370496) = (z + 1) * 4503599627370496 + (m - 4503599627370496) := by
    have := Nat.two_pow_add_eq_or_of_lt (i := 52) hlt (z + 1)
    rw [show (2 : Nat) ^ 52 = 4503599627370496 by decide] at this
    rw [Nat.mul_comm, ← this]
  cases s
  · simp only [Bool.false_eq_true, if_false, Nat.zero_add]
    rw [Nat.or_comm, e1]; omega
  · rw [if_pos rfl]
    have h63 : ∀ r, r < 2 ^ 63 → 9223372036854775808 + r = 9223372036854775808 ||| r := fun r hr => by
      have := Nat.two_pow_add_eq_or_of_lt (i := 63) hr 1
      simpa using this
    rw [h63 _ (by omega), Nat.or_assoc, Nat.or_comm (m - 4503599627370496), e1, ← h63 _ (by omega)]
    omega
theorem copysign_zero (s : Bool) (y r : Nat) (hy : y = (if s then 9223372036854775808 else 0) + r) (hr : r < 9223372036854775808) (w : World) :
    Calls Tryz.prog 149 #[.float .f64 0, .float .f64 y] w fun e w' => e = .returned (.float .f64 (if s then 9223372036854775808 else 0)) ∧ w = w' := by
  have h1 := run_bits
  have h2 := run_frombits
  have b1 : bits .andNot .u64 0 9223372036854775808 = 0 := by decide
  obtain ⟨t, ht⟩ : ∃ t : Nat, (if s then 9223372036854775808 else 0) = t := ⟨_, rfl⟩
  have b2 : bits .and .u64 (y : Int) 9223372036854775808 = (t : Int) := by
    have hy2 : y < 18446744073709551616 := by rw [hy]; cases s <;> simp <;> omega
    have h64 : (2 : Nat) ^ IntKind.u64.bits = 18446744073709551616 := rfl
    have e : (9223372036854775808 : Int) = ((9223372036854775808 : Nat) : Int) := rfl
    rw [e]
    simp only [bits, BitVec.ofInt_natCast, BitVec.toNat_and, BitVec.toNat_ofNat, h64]
    rw [Nat.mod_eq_of_lt hy2, Nat.mod_eq_of_lt (show 9223372036854775808 < 18446744073709551616 by decide)]
    have key : y &&& 9223372036854775808 = t := by
      have hk : (9223372036854775808 : Nat) = 2 ^ 63 := by decide
      rw [← ht, hk]
      apply Nat.eq_of_testBit_eq
      intro i
      rw [Nat.testBit_and, Nat.testBit_two_pow]
      by_cases hi : 63 = i
      · subst hi
        have hbit : y.testBit 63 = s := by
          rw [Nat.testBit_eq_decide_div_mod_eq]
          cases s
          · have : y / 2 ^ 63 % 2 = 0 := by simp at hy; omega
            rw [this]; rfl
          · have : y / 2 ^ 63 % 2 = 1 := by simp at hy; omega
            rw [this]; rfl
        rw [hbit]
        cases s
        · simp
        · simp; decide
      · cases s
        · simp [hi]
        · have h2 := Nat.testBit_two_pow (n := 63) (m := i)
          rw [← hk] at h2
          simp [hi] at h2 ⊢
          exact h2
    rw [key, wrap_nat (by rw [← ht]; cases s <;> decide)]
  have b3 : bits .or .u64 0 (t : Int) = (t : Int) := by
    have := bits_or (a := 0) (b := t) (by decide) (by rw [← ht]; cases s <;> decide)
    simpa using this
  rw [ht]
  clear hy hr ht
  go_enter Tryz.func149, Tryz.ntmps149
  go_wp2_with fail
  go_ret
  exact ⟨rfl, rfl⟩
end Go.Proofs.YtgdohmaljbggjaaGreatDoor
namespace Go.Proofs.YtgdohmaljbggjaaGreatDoor
open Go.RowKit Go.Lib
set_option maxHeartbeats 2000000 in
theorem ldexp_core (a y m z : Nat) (s : Bool) (k e0 : Int) (w : World) (ha : a < 18446744073709551616) (hf : a % 9223372036854775808 < 9218868437227405312) (hz : a % 9223372036854775808 ≠ 0)
    (hn : ∀ w, Calls Tryz.prog 148 #[.float .f64 a] w (NormOk y e0 w)) (hy : y = Fl.D.word s (z * 4503599627370496 + m)) (h1 : 4503599627370496 ≤ m) (h2 : m < 9007199254740992) (hzz : z ≤ 2045) (he0 : -52 ≤ e0 ∧ e0 ≤ 0) (hk : -40000 ≤ k ∧ k ≤ 40000) :
    Calls Tryz.prog 105 #[.float .f64 a, .int .i64 k] w fun e w' => e = .returned (.float .f64 (Fl.D.nearest s m (z - 1074 + e0 + k))) ∧ w = w' := by
  have HZ0 : FloatKind.f64.format.order a 0 = some .lt ∨ FloatKind.f64.format.order a 0 = some .gt := Fl.order_zero hf hz
  have HI := Lib.hid (fun w => isInf0_any a ha w)
  rw [decide_eq_false (by omega)] at HI
  have HNN := Lib.hid (fun w => isNaN_no a (by simp [Fl.isNan]; omega) w)
  have HN := Lib.hid hn
  have hb := run_bits
  have hfb := run_frombits
  obtain ⟨r1, r2, r3⟩ := Fl.read_full s h1 h2 hzz
  rw [← hy] at r2
  have HOS : FloatKind.f64.format.order y 0 = some (if s then .lt else .gt) := by rw [hy]; exact Fl.order_sign s h1 h2 hzz
  have hyw : y = (if s then 9223372036854775808 else 0) + (z * 4503599627370496 + m) := by rw [hy, Fl.word_is]
  obtain ⟨Z, hZ⟩ : ∃ Z, z + 1 = Z := ⟨_, rfl⟩
  have hex : bits .and .i64 ((y : Int) / 4503599627370496) 2047 = (Z : Int) := by
    rw [bits_ex y r2, ← hZ]
    congr 1
    rw [hyw]; cases s <;> simp <;> omega
  obtain ⟨E, hE⟩ : ∃ E : Int, k + e0 + ((Z : Int) - 1023) = E := ⟨_, rfl⟩
  have HR := Lib.hid (show Fl.D.nearest s m (z - 1074 + e0 + k) = Fl.D.nearest s m (E - 52) by congr 1; omega)
  rw [HR.out]
  have hEb : -43000 ≤ E ∧ E ≤ 43000 := by omega
  have hZb : 1 ≤ Z ∧ Z ≤ 2046 := by omega
  obtain ⟨X0, hX0⟩ : ∃ X0 : Nat, (if s then 9223372036854775808 else 0) + (m - 4503599627370496) = X0 := ⟨_, rfl⟩
  have hand : bits .andNot .u64 (y : Int) 9218868437227405312 = (X0 : Int) := by rw [hy, andnot_ex s h1 h2 hzz, hX0]
  have HOR := Lib.hid (fun (q : Nat) (hq : q ≤ 2045) => or_ex s h1 h2 hq)
  rw [hX0] at HOR
  have HCS := Lib.hid (fun w => copysign_zero s y (z * 4503599627370496 + m) hyw (by omega) w)
  have HM1 := Lib.hid (fun (q : Nat) (hq : q ≤ 2045) => Fl.mul_one s h1 h2 hq)
  have HMH := Lib.hid (fun (q : Nat) (hq : q ≤ 2045) => Fl.mul_half s h1 h2 hq)
  have HS := Lib.hid (fun (hx : E < -1075) => Fl.nearest_small s h1 h2 hx)
  have HG := Lib.hid (fun (hx : 1023 < E) => Fl.nearest_great s h1 h2 hx)
  clear hn hy r1 r3 hyw hZ hX0 hf hz HR h1 h2 hzz
  by_cases c1 : E < -1075
  · have HQ := Lib.hid (HS.out c1)
    rcases HZ0 with ho | ho
    all_goals
      go_enter Tryz.func105, Tryz.ntmps105
      go_wp2_with fail
      refine (HI.out _).mono ?_
      rintro e w' ⟨rfl, rfl⟩
      go_wp2_with fail
      refine (HNN.out _).mono ?_
      rintro e w' ⟨rfl, rfl⟩
      go_wp2_with fail
      refine (HN.out _).mono ?_
      rintro e w' ⟨rfl, rfl⟩
      go_wp2_with fail
      refine (HCS.out _).mono ?_
      rintro e w' ⟨rfl, rfl⟩
      generalize hg : (if s = true then 9223372036854775808 else 0) = t
      have HT := Lib.hid hg
      clear hg HOS
      go_wp2_with fail
      go_ret
      exact ⟨ret_float (by rw [HQ.out, Fl.word_is, HT.out]; rfl), rfl⟩
  by_cases c2 : 1023 < E
  · have HQ := Lib.hid (HG.out c2)
    cases s
    · have ho2 : FloatKind.f64.format.order y 0 = some .gt := HOS
      clear HOS
      rcases HZ0 with ho | ho
      all_goals
        go_enter Tryz.func105, Tryz.ntmps105
        go_wp2_with fail
        refine (HI.out _).mono ?_
        rintro e w' ⟨rfl, rfl⟩
        go_wp2_with fail
        refine (HNN.out _).mono ?_
        rintro e w' ⟨rfl, rfl⟩
        go_wp2_with fail
        refine (HN.out _).mono ?_
        rintro e w' ⟨rfl, rfl⟩
        go_wp2_with fail
        refine (inf_any 1 _ (.inl rfl)).mono ?_
        rintro e w' ⟨rfl, rfl⟩
        go_wp2_with fail
        go_ret
        exact ⟨ret_float (by rw [HQ.out, Fl.word_is]; rfl), rfl⟩
    · have ho2 : FloatKind.f64.format.order y 0 = some .lt := HOS
      clear HOS
      rcases HZ0 with ho | ho
      all_goals
        go_enter Tryz.func105, Tryz.ntmps105
        go_wp2_with fail
        refine (HI.out _).mono ?_
        rintro e w' ⟨rfl, rfl⟩
        go_wp2_with fail
        refine (HNN.out _).mono ?_
        rintro e w' ⟨rfl, rfl⟩
        go_wp2_with fail
        refine (HN.out _).mono ?_
        rintro e w' ⟨rfl, rfl⟩
        go_wp2_with fail
        refine (inf_any (-1) _ (.inr rfl)).mono ?_
        rintro e w' ⟨rfl, rfl⟩
        go_wp2_with fail
        go_ret
        exact ⟨ret_float (by rw [HQ.out, Fl.word_is]; rfl), rfl⟩
  clear HOS
  by_cases c3 : E < -1022
  · obtain ⟨Q, hQ⟩ : ∃ Q : Nat, E + 53 + 1023 = (Q : Int) := ⟨(E + 53 + 1023).toNat, by omega⟩
    have hQ1 : 1 ≤ Q ∧ Q ≤ 2046 := by omega
    obtain ⟨X1, hX1⟩ : ∃ X1, Fl.D.word s ((Q - 1) * 4503599627370496 + m) = X1 := ⟨_, rfl⟩
    have hor : bits .or .u64 (X0 : Int) ((Q : Int) * 4503599627370496) = (X1 : Int) := by
      have := HOR.out (Q - 1) (by omega)
      rw [hX1, show Q - 1 + 1 = Q by omega] at this
      rw [← this]; simp
    have hm := HMH.out (Q - 1) (by omega)
    rw [hX1, show ((Q - 1 : Nat) : Int) - 1127 = E - 52 by omega] at hm
    have h6 := fun (t : TypeId) (w : World) => run_float_arith (P := Tryz.prog) w .mul t .f64 4368491638549381120 X1 _ hm
    generalize Fl.D.nearest s m (E - 52) = R at *
    clear HOR HM1 HMH HS HG hm hX1
    rcases HZ0 with ho | ho
    all_goals
      go_enter Tryz.func105, Tryz.ntmps105
      go_wp2_with fail
      refine (HI.out _).mono ?_
      rintro e w' ⟨rfl, rfl⟩
      go_wp2_with fail
      refine (HNN.out _).mono ?_
      rintro e w' ⟨rfl, rfl⟩
      go_wp2_with fail
      refine (HN.out _).mono ?_
      rintro e w' ⟨rfl, rfl⟩
      go_wp2_with fail
      go_ret
      exact ⟨rfl, rfl⟩
  · obtain ⟨Q, hQ⟩ : ∃ Q : Nat, E + 1023 = (Q : Int) := ⟨(E + 1023).toNat, by omega⟩
    have hQ1 : 1 ≤ Q ∧ Q ≤ 2046 := by omega
    obtain ⟨X1, hX1⟩ : ∃ X1, Fl.D.word s ((Q - 1) * 4503599627370496 + m) = X1 := ⟨_, rfl⟩
    have hor : bits .or .u64 (X0 : Int) ((Q : Int) * 4503599627370496) = (X1 : Int) := by
      have := HOR.out (Q - 1) (by omega)
      rw [hX1, show Q - 1 + 1 = Q by omega] at this
      rw [← this]; simp
    have hm := HM1.out (Q - 1) (by omega)
    rw [hX1, show ((Q - 1 : Nat) : Int) - 1074 = E - 52 by omega] at hm
    have h6 := fun (t : TypeId) (w : World) => run_float_arith (P := Tryz.prog) w .mul t .f64 4607182418800017408 X1 _ hm
    generalize Fl.D.nearest s m (E - 52) = R at *
    clear HOR HM1 HMH HS HG hm hX1
    rcases HZ0 with ho | ho
    all_goals
      go_enter Tryz.func105, Tryz.ntmps105
      go_wp2_with fail
      refine (HI.out _).mono ?_
      rintro e w' ⟨rfl, rfl⟩
      go_wp2_with fail
      refine (HNN.out _).mono ?_
      rintro e w' ⟨rfl, rfl⟩
      go_wp2_with fail
      refine (HN.out _).mono ?_
      rintro e w' ⟨rfl, rfl⟩
      go_wp2_with fail
      go_ret
      exact ⟨rfl, rfl⟩
theorem ldexp_num (a : Nat) (k : Int) (w : World) (ha : a < 18446744073709551616) (hf : a % 9223372036854775808 < 9218868437227405312) (hz : a % 9223372036854775808 ≠ 0) (hk : -40000 ≤ k ∧ k ≤ 40000) :
    Calls Tryz.prog 105 #[.float .f64 a, .int .i64 k] w fun e w' => e = .returned (.float .f64 (Fl.fldexp a k)) ∧ w = w' := by
  have hnn : Fl.isNan a = false := by simp [Fl.isNan]; omega
  obtain ⟨s, m, z, h1, h2, h3, _, h⟩ := Fl.normal_form ha hf hz
  unfold Fl.fldexp
  rw [hnn]
  rcases h with ⟨hb, hy, hr⟩ | ⟨hb, hy, hr⟩
  · have := ldexp_core a a m z s k 0 w ha hf hz (fun w => norm_big a ha hf hb w) hy h1 h2 h3 (by omega) hk
    rw [show (z : Int) - 1074 + 0 + k = z - 1074 + k by omega] at this
    simpa [hr k] using this
  · have := ldexp_core a _ m z s k (-52) w ha hf hz (fun w => norm_small a _ ha hb hy w) rfl h1 h2 h3 (by omega) hk
    rw [show (z : Int) - 1074 + -52 + k = z - 1126 + k by omega] at this
    simpa [hr k] using this
theorem ldexp_zero (a : Nat) (k : Int) (w : World) (hz : FloatKind.f64.format.order a 0 = some .eq) :
    Calls Tryz.prog 105 #[.float .f64 a, .int .i64 k] w fun e w' => e = .returned (.float .f64 a) ∧ w = w' := by
  go_enter Tryz.func105, Tryz.ntmps105
  go_wp2_with fail
  go_ret
  exact ⟨rfl, rfl⟩
end Go.Proofs.YtgdohmaljbggjaaGreatDoor
