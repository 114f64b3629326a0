/- A large number as one of 64 bits: the contract of Small. Literals that come out: the contracts of fits, small, truth, text, whole. A literal as a value: the contract of of. What the primitives of strings do: the closures 61, 62, 63, 66, 67, 68 (printed by gen_cls.py). An integer as a literal: the contract of whole (printed by gen_who.py). Maps from integers to whatever values: what is laid in, what is found. -/
import Derived.Test.YtlodbibagmblkaaGreatDoorPaaf
import Derived.Test.YtlodbibagmblkaaGreatDoorPaag
import Derived.Maps.RangeWalk
namespace Go.Proofs.YtlodbibagmblkaaGreatDoor
open Go.RowKit Go.Lib
def In64 (n : Int) : Prop := -9223372036854775808 ≤ n ∧ n ≤ 9223372036854775807
instance (n : Int) : Decidable (In64 n) := by unfold In64; infer_instance
def smallv (n : Int) : Value := if In64 n then .tuple #[.int .i64 n, .bool true] else .tuple #[.int .i64 0, .bool false]
set_option maxRecDepth 4000 in
set_option maxHeartbeats 2000000 in
theorem lsmall_any (n : Int) (w : World) (hn : Pl.Big n) :
    Calls Tryz.prog 60 #[lof n] w fun e w' => e = .returned (smallv n) ∧ Below w.heap.size w w' := by
  have HC := Lib.hid (fun W => lcheck_any2 n W hn)
  obtain ⟨ng, hng⟩ : ∃ ng, decide (n < 0) = ng := ⟨_, rfl⟩
  have ha : lof n = .agg #[.bool ng, .string (bs (Pl.dgs n.natAbs))] := by unfold lof lv; rw [hng]
  rw [ha] at HC ⊢
  clear ha
  obtain ⟨l, hl⟩ : ∃ l, Pl.dgs n.natAbs = l := ⟨_, rfl⟩
  have hle : Pl.le l = n.natAbs := by rw [← hl, Pl.le_dgs]
  have hlt := Pl.le_lt l
  have hlong : 8 < l.length → 18446744073709551616 ≤ n.natAbs := fun h => by
    have h1 := Pl.canon_ge (Pl.canon_dgs n.natAbs) (by rw [hl]; intro e; rw [e] at h; simp at h)
    rw [hl, hle] at h1
    refine Nat.le_trans ?_ h1
    rw [show (18446744073709551616 : Nat) = 256 ^ 8 from rfl]
    exact Nat.pow_le_pow_right (by decide) (by omega)
  rw [hl] at HC ⊢
  clear hl
  have hsz : (bs l).size = l.length := rfl
  have HAT := Lib.hid (at_bs l)
  generalize bs l = s at *
  obtain ⟨N, hN⟩ : ∃ N, l.length = N := ⟨_, rfl⟩
  have HN := Lib.hid hN
  rw [hN] at hsz hlong hlt
  clear hN
  obtain ⟨W1, hW1⟩ : ∃ W1, w.alloc (.cells #[.bool ng, .string s] 43) = W1 := ⟨_, rfl⟩
  have P0 : Hid (P2 W1 w.heap.size 43 (.bool ng) (.string s)) := Lib.hid (by rw [← hW1]; exact P2.new _ _ _ _)
  have HB1 : Hid (Below w.heap.size w W1) := Lib.hid (by rw [← hW1]; exact (Below.refl _ _).alloc (Nat.le_refl _) _)
  have hs1 : w.heap.size + 1 ≤ W1.heap.size := by rw [← hW1]; simp
  obtain ⟨p0, p1, _, _⟩ := P0.out.cells
  rcases Nat.lt_or_ge 8 N with h8 | h8
  · have hb := hlong h8
    have HV : Hid (smallv n = .tuple #[.int .i64 0, .bool false]) := Lib.hid (by
      unfold smallv
      rw [if_neg]
      unfold In64
      omega)
    have hd8 : decide (8 < (N : Int)) = true := decide_eq_true (by omega)
    clear hb hlong hlt hle
    go_enter Tryz.func60, Tryz.ntmps60
    go_wp2_with fail
    refine (HC.out _).mono ?_
    rintro e w1 ⟨rfl, hb1⟩
    have P01 := Lib.hid (P0.out.below hb1)
    have HB2 := Lib.hid (chain HB1.out hb1 (by omega))
    clear p0 p1 hb1
    obtain ⟨p0, p1, _, _⟩ := P01.out.cells
    go_wp2_with fail
    go_ret2
    exact ⟨by rw [HV.out]; rfl, HB2.out⟩
  · have hd8 : decide (8 < (N : Int)) = false := decide_eq_false (by omega)
    have hVb : n.natAbs < 18446744073709551616 := by
      rw [← hle]
      refine Nat.lt_of_lt_of_le hlt ?_
      rw [show (18446744073709551616 : Nat) = 256 ^ 8 from rfl]
      exact Nat.pow_le_pow_right (by decide) h8
    have HLE := Lib.hid hle
    clear hlong hlt hle
    go_enter Tryz.func60, Tryz.ntmps60
    go_wp2_with fail
    refine (HC.out _).mono ?_
    rintro e w1 ⟨rfl, hb1⟩
    have P01 := Lib.hid (P0.out.below hb1)
    have HB2 := Lib.hid (chain HB1.out hb1 (by omega))
    clear p0 p1 hb1
    obtain ⟨c0, c1, _, _⟩ := P01.out.cells
    go_wp2_with fail
    go_loop [4, 19] (fun x i => ∃ k : Nat, k ≤ N ∧ i = .int .i64 k ∧ x = .int .u64 (Pl.le (l.take k) : Nat)) (fun _ i => N - (RowKit.intOf i).toNat)
    case atStart => exact ⟨0, Nat.zero_le _, rfl, by simp [Pl.le]⟩
    case round =>
      obtain ⟨k, hk, rfl, rfl⟩ := hrel
      by_cases hlt : k < N
      · have hkl : k < l.length := by rw [HN.out]; exact hlt
        have q : k < s.size := by omega
        have ak : s[k]'q = l[k] := HAT.out.get hkl q (by omega)
        have hst := Pl.le_take_succ hkl
        have hlt2 := Pl.le_lt (l.take k)
        rw [List.length_take, Nat.min_eq_left (by omega)] at hlt2
        obtain ⟨c, hc⟩ : ∃ c, l[k] = c := ⟨_, rfl⟩
        rw [hc] at ak hst
        have hcb := c.toNat_lt
        have hor := bits_or_byte (a := Pl.le (l.take k)) (b := c.toNat) (k := k) (by omega) hlt2 (by omega)
        rw [← hst] at hor
        have HS := Lib.hid hor
        clear hst hlt2 hc hor
        generalize Pl.le (l.take k) = a0 at *
        obtain ⟨a1, ha1⟩ : ∃ a1, Pl.le (l.take (k + 1)) = a1 := ⟨_, rfl⟩
        rw [ha1] at HS
        have HA1 := Lib.hid ha1
        clear ha1
        have hor := HS.out
        rw [← IntKind.wrap_u64] at hor
        go_wp2_with fail
        go_round
        case rel => exact ⟨k + 1, by omega, by go_num, by rw [HA1.out]⟩
        case measure => simp [RowKit.intOf]; omega
      · obtain rfl : k = N := by omega
        rw [List.take_of_length_le (by rw [HN.out]; exact Nat.le_refl _), HLE.out]
        obtain ⟨V, hV⟩ : ∃ V, n.natAbs = V := ⟨_, rfl⟩
        rw [hV] at hVb ⊢
        cases ng
        · have hn0 := of_decide_eq_false hng
          rcases Nat.lt_or_ge V 9223372036854775808 with hv | hv
          · have HV : Hid (smallv n = .tuple #[.int .i64 V, .bool true]) := Lib.hid (by
              unfold smallv; rw [if_pos (by unfold In64; omega), show n = (V : Int) by omega])
            have hw : IntKind.i64.wrap (V : Int) = V := IntWalk.i64_in _ (by omega)
            have hd : decide ((V : Int) < 0) = false := decide_eq_false (by omega)
            go_wp2_with fail
            go_ret2
            exact ⟨by rw [HV.out]; rfl, HB2.out⟩
          · have HV : Hid (smallv n = .tuple #[.int .i64 0, .bool false]) := Lib.hid (by
              unfold smallv; rw [if_neg (by unfold In64; omega)])
            have hw : IntKind.i64.wrap (V : Int) = (V : Int) - 18446744073709551616 := by rw [IntKind.wrap_i64]; omega
            have hd : decide ((V : Int) - 18446744073709551616 < 0) = true := decide_eq_true (by omega)
            go_wp2_with fail
            go_ret2
            exact ⟨by rw [HV.out]; rfl, HB2.out⟩
        · have hn0 := of_decide_eq_true hng
          rcases Nat.lt_or_ge V 9223372036854775808 with hv | hv
          · have HV : Hid (smallv n = .tuple #[.int .i64 (-(V : Int)), .bool true]) := Lib.hid (by
              unfold smallv; rw [if_pos (by unfold In64; omega), show n = -(V : Int) by omega])
            have hw : IntKind.i64.wrap (V : Int) = V := IntWalk.i64_in _ (by omega)
            have hw2 : IntKind.i64.wrap (-(V : Int)) = -(V : Int) := IntWalk.i64_in _ (by omega)
            have hd : decide (-(V : Int) < 0) = true := decide_eq_true (by omega)
            have hd2 : 0 < V := by omega
            go_wp2_with fail
            go_ret2
            exact ⟨by rw [HV.out]; rfl, HB2.out⟩
          · rcases Nat.eq_or_lt_of_le hv with hv2 | hv2
            · have HV : Hid (smallv n = .tuple #[.int .i64 (-(V : Int)), .bool true]) := Lib.hid (by
                unfold smallv; rw [if_pos (by unfold In64; omega), show n = -(V : Int) by omega])
              have hw : IntKind.i64.wrap (V : Int) = (V : Int) - 18446744073709551616 := by rw [IntKind.wrap_i64]; omega
              have hw2 : IntKind.i64.wrap (-((V : Int) - 18446744073709551616)) = -(V : Int) := by rw [IntKind.wrap_i64]; omega
              have hd : decide (-(V : Int) < 0) = true := decide_eq_true (by omega)
              have hd2 : 0 < V := by omega
              clear hv2 hv hVb
              go_wp2_with fail
              go_ret2
              exact ⟨by rw [HV.out]; rfl, HB2.out⟩
            · have HV : Hid (smallv n = .tuple #[.int .i64 0, .bool false]) := Lib.hid (by
                unfold smallv; rw [if_neg (by unfold In64; omega)])
              have hw : IntKind.i64.wrap (V : Int) = (V : Int) - 18446744073709551616 := by rw [IntKind.wrap_i64]; omega
              have hw2 : IntKind.i64.wrap (-((V : Int) - 18446744073709551616)) = 18446744073709551616 - (V : Int) := by rw [IntKind.wrap_i64]; omega
              have hd : decide (18446744073709551616 - (V : Int) < 0) = false := decide_eq_false (by omega)
              go_wp2_with fail
              go_ret2
              exact ⟨by rw [HV.out]; rfl, HB2.out⟩
end Go.Proofs.YtlodbibagmblkaaGreatDoor
namespace Go.Proofs.YtlodbibagmblkaaGreatDoor
open Go.RowKit Go.Lib
/-- a block of five cells: a literal -/
def P5 (W : World) (k : Nat) (a b c d e : Value) : Prop := W.heap[k]? = some (.cells #[a, b, c, d, e] 26)
theorem P5.new (w : World) (a b c d e : Value) : P5 (w.alloc (.cells #[a, b, c, d, e] 26)) w.heap.size a b c d e := heap_alloc_at _ _
theorem P5.lt {W : World} {k : Nat} {a b c d e : Value} (h : P5 W k a b c d e) : k < W.heap.size := (Array.getElem?_eq_some_iff.1 h).1
theorem P5.under {W W' : World} {k B : Nat} {a b c d e : Value} (h : P5 W k a b c d e) (hb : Below B W W') (hk : k < B) : P5 W' k a b c d e := by
  unfold P5; rw [hb.block _ hk]; exact h
theorem P5.below {W W' : World} {k : Nat} {a b c d e : Value} (h : P5 W k a b c d e) (hb : Below W.heap.size W W') : P5 W' k a b c d e := h.under hb h.lt
theorem P5.alloc {W : World} {k : Nat} {a b c d e : Value} (h : P5 W k a b c d e) (o : Obj) : P5 (W.alloc o) k a b c d e := h.below ((Below.refl _ _).alloc (Nat.le_refl _) _)
structure P5.Cells (W : World) (k : Nat) (a b c d e : Value) : Prop where
  c0 : W.cell? ⟨k, 0, none⟩ = some a
  c1 : W.cell? ⟨k, 1, none⟩ = some b
  c2 : W.cell? ⟨k, 2, none⟩ = some c
  c3 : W.cell? ⟨k, 3, none⟩ = some d
  c4 : W.cell? ⟨k, 4, none⟩ = some e
  f0 : W.frozen? ⟨k, 0, none⟩ = false
  f1 : W.frozen? ⟨k, 1, none⟩ = false
  f2 : W.frozen? ⟨k, 2, none⟩ = false
  f3 : W.frozen? ⟨k, 3, none⟩ = false
  f4 : W.frozen? ⟨k, 4, none⟩ = false
theorem P5.cells {W : World} {k : Nat} {a b c d e : Value} (h : P5 W k a b c d e) : P5.Cells W k a b c d e := by
  unfold P5 at h
  constructor <;> simp [World.cell?, World.frozen?, h]
abbrev set5 (W : World) (k : Nat) (a b c d e : Value) : World := ((((W.setCell ⟨k, 0, none⟩ a).setCell ⟨k, 1, none⟩ b).setCell ⟨k, 2, none⟩ c).setCell ⟨k, 3, none⟩ d).setCell ⟨k, 4, none⟩ e
theorem P5.set {W : World} {k : Nat} {a b c d e : Value} (h : P5 W k a b c d e) (a' b' c' d' e' : Value) : P5 (set5 W k a' b' c' d' e') k a' b' c' d' e' := by
  unfold P5 set5 at *
  simp only [World.setCell, Array.getElem?_modify, if_pos, h]
  rfl
theorem below_set5 {w W : World} {k B : Nat} (hb : Below B w W) (hk : B ≤ k) (a b c d e : Value) : Below B w (set5 W k a b c d e) :=
  ((((hb.setCell (p := ⟨k, 0, none⟩) hk _).setCell (p := ⟨k, 1, none⟩) hk _).setCell (p := ⟨k, 2, none⟩) hk _).setCell (p := ⟨k, 3, none⟩) hk _).setCell (p := ⟨k, 4, none⟩) hk _
theorem P2.set5 {W : World} {k j : Nat} {T : TypeId} {a b : Value} (h : P2 W k T a b) (hne : j ≠ k) (x0 x1 x2 x3 x4 : Value) : P2 (set5 W j x0 x1 x2 x3 x4) k T a b := ((((h.other hne).other hne).other hne).other hne).other hne
/-- a literal as a value -/
def litv (k n b : Int) (t : ByteArray) (v : Value) : Value := .agg #[.int .u8 k, .int .i64 n, .int .u64 b, .string t, v]
def nolit : Value := litv 0 0 0 ⟨#[]⟩ (.slice none 0 0)
def FitsI (n : Int) : Prop := -1152921504606846976 ≤ n ∧ n ≤ 1152921504606846975
instance (n : Int) : Decidable (FitsI n) := by unfold FitsI; infer_instance
set_option maxHeartbeats 1000000 in
theorem fits_any (n : Int) (w : World) : Calls Tryz.prog 58 #[.int .i64 n] w fun e w' => e = .returned (.bool (decide (FitsI n))) ∧ w = w' := by
  by_cases h1 : -1152921504606846976 ≤ n
  · have d1 : decide (-1152921504606846976 ≤ n) = true := decide_eq_true h1
    by_cases h2 : n ≤ 1152921504606846975
    · have d2 : decide (n ≤ 1152921504606846975) = true := decide_eq_true h2
      have HR := Lib.hid (show decide (FitsI n) = true from decide_eq_true ⟨h1, h2⟩)
      go_enter Tryz.func58, Tryz.ntmps58
      go_wp2_with fail
      go_ret
      exact ⟨by rw [HR.out]; rfl, rfl⟩
    · have d2 : decide (n ≤ 1152921504606846975) = false := decide_eq_false h2
      have HR := Lib.hid (show decide (FitsI n) = false from decide_eq_false (fun h => h2 h.2))
      go_enter Tryz.func58, Tryz.ntmps58
      go_wp2_with fail
      go_ret
      exact ⟨by rw [HR.out]; rfl, rfl⟩
  · have d1 : decide (-1152921504606846976 ≤ n) = false := decide_eq_false h1
    have HR := Lib.hid (show decide (FitsI n) = false from decide_eq_false (fun h => h1 h.1))
    go_enter Tryz.func58, Tryz.ntmps58
    go_wp2_with fail
    go_ret
    exact ⟨by rw [HR.out]; rfl, rfl⟩
set_option maxHeartbeats 1000000 in
theorem psmall_any (n : Int) (w : World) : Calls Tryz.prog 64 #[.int .i64 n] w fun e w' => e = .returned (litv 4 n 0 ⟨#[]⟩ (.slice none 0 0)) ∧ Below w.heap.size w w' := by
  obtain ⟨W1, hW1⟩ : ∃ W1, w.alloc (.cells #[.int .u8 0, .int .i64 0, .int .u64 0, .string ⟨#[]⟩, .slice none 0 0] 26) = W1 := ⟨_, rfl⟩
  have HP : Hid (P5 W1 w.heap.size (.int .u8 0) (.int .i64 0) (.int .u64 0) (.string ⟨#[]⟩) (.slice none 0 0)) := Lib.hid (by rw [← hW1]; exact P5.new _ _ _ _ _ _)
  have HB : Hid (Below w.heap.size w W1) := Lib.hid (by rw [← hW1]; exact (Below.refl _ _).alloc (Nat.le_refl _) _)
  obtain ⟨c0, c1, c2, c3, c4, f0, f1, f2, f3, f4⟩ := HP.out.cells
  go_enter Tryz.func64, Tryz.ntmps64
  go_wp2_with fail
  obtain ⟨k0, k1, k2, k3, k4, _, _, _, _, _⟩ := (HP.out.set (.int .u8 4) (.int .i64 n) (.int .u64 0) (.string ⟨#[]⟩) (.slice none 0 0)).cells
  exact bodyPost_ret (v := litv 4 n 0 ⟨#[]⟩ (.slice none 0 0)) (by simp [results, Tryz.results64, go_sem, litv, k0, k1, k2, k3, k4]) rfl ⟨rfl, below_set5 HB.out (Nat.le_refl _) _ _ _ _ _⟩
set_option maxHeartbeats 1000000 in
theorem truth_true (w : World) : Calls Tryz.prog 77 #[.bool true] w fun e w' => e = .returned (.tuple #[litv 2 0 0 ⟨#[]⟩ (.slice none 0 0), .bool true]) ∧ Below w.heap.size w w' := by
  obtain ⟨W1, hW1⟩ : ∃ W1, w.alloc (.cells #[.int .u8 0, .int .i64 0, .int .u64 0, .string ⟨#[]⟩, .slice none 0 0] 26) = W1 := ⟨_, rfl⟩
  have HP : Hid (P5 W1 w.heap.size (.int .u8 0) (.int .i64 0) (.int .u64 0) (.string ⟨#[]⟩) (.slice none 0 0)) := Lib.hid (by rw [← hW1]; exact P5.new _ _ _ _ _ _)
  have HB : Hid (Below w.heap.size w W1) := Lib.hid (by rw [← hW1]; exact (Below.refl _ _).alloc (Nat.le_refl _) _)
  obtain ⟨c0, c1, c2, c3, c4, f0, f1, f2, f3, f4⟩ := HP.out.cells
  go_enter Tryz.func77, Tryz.ntmps77
  go_wp2_with fail
  obtain ⟨k0, k1, k2, k3, k4, _, _, _, _, _⟩ := (HP.out.set (.int .u8 2) (.int .i64 0) (.int .u64 0) (.string ⟨#[]⟩) (.slice none 0 0)).cells
  exact bodyPost_ret (v := .tuple #[litv 2 0 0 ⟨#[]⟩ (.slice none 0 0), .bool true]) (by simp [results, Tryz.results77, go_sem, litv, k0, k1, k2, k3, k4]) rfl ⟨rfl, below_set5 HB.out (Nat.le_refl _) _ _ _ _ _⟩
set_option maxHeartbeats 1000000 in
theorem truth_false (w : World) : Calls Tryz.prog 77 #[.bool false] w fun e w' => e = .returned (.tuple #[litv 3 0 0 ⟨#[]⟩ (.slice none 0 0), .bool true]) ∧ Below w.heap.size w w' := by
  obtain ⟨W1, hW1⟩ : ∃ W1, w.alloc (.cells #[.int .u8 0, .int .i64 0, .int .u64 0, .string ⟨#[]⟩, .slice none 0 0] 26) = W1 := ⟨_, rfl⟩
  have HP : Hid (P5 W1 w.heap.size (.int .u8 0) (.int .i64 0) (.int .u64 0) (.string ⟨#[]⟩) (.slice none 0 0)) := Lib.hid (by rw [← hW1]; exact P5.new _ _ _ _ _ _)
  have HB : Hid (Below w.heap.size w W1) := Lib.hid (by rw [← hW1]; exact (Below.refl _ _).alloc (Nat.le_refl _) _)
  obtain ⟨c0, c1, c2, c3, c4, f0, f1, f2, f3, f4⟩ := HP.out.cells
  go_enter Tryz.func77, Tryz.ntmps77
  go_wp2_with fail
  obtain ⟨k0, k1, k2, k3, k4, _, _, _, _, _⟩ := (HP.out.set (.int .u8 3) (.int .i64 0) (.int .u64 0) (.string ⟨#[]⟩) (.slice none 0 0)).cells
  exact bodyPost_ret (v := .tuple #[litv 3 0 0 ⟨#[]⟩ (.slice none 0 0), .bool true]) (by simp [results, Tryz.results77, go_sem, litv, k0, k1, k2, k3, k4]) rfl ⟨rfl, below_set5 HB.out (Nat.le_refl _) _ _ _ _ _⟩
set_option maxHeartbeats 1000000 in
theorem ptext_any (s : ByteArray) (w : World) (hs : s.size ≤ 65536) : Calls Tryz.prog 51 #[.string s] w fun e w' => e = .returned (.tuple #[litv 8 0 0 s (.slice none 0 0), .bool true]) ∧ Below w.heap.size w w' := by
  obtain ⟨W1, hW1⟩ : ∃ W1, w.alloc (.cells #[.int .u8 0, .int .i64 0, .int .u64 0, .string ⟨#[]⟩, .slice none 0 0] 26) = W1 := ⟨_, rfl⟩
  have HP : Hid (P5 W1 w.heap.size (.int .u8 0) (.int .i64 0) (.int .u64 0) (.string ⟨#[]⟩) (.slice none 0 0)) := Lib.hid (by rw [← hW1]; exact P5.new _ _ _ _ _ _)
  have HB : Hid (Below w.heap.size w W1) := Lib.hid (by rw [← hW1]; exact (Below.refl _ _).alloc (Nat.le_refl _) _)
  obtain ⟨c0, c1, c2, c3, c4, f0, f1, f2, f3, f4⟩ := HP.out.cells
  have hd : decide ((s.size : Int) ≤ 65536) = true := decide_eq_true (by omega)
  go_enter Tryz.func51, Tryz.ntmps51
  go_wp2_with fail
  obtain ⟨k0, k1, k2, k3, k4, _, _, _, _, _⟩ := (HP.out.set (.int .u8 8) (.int .i64 0) (.int .u64 0) (.string s) (.slice none 0 0)).cells
  exact bodyPost_ret (v := .tuple #[litv 8 0 0 s (.slice none 0 0), .bool true]) (by simp [results, Tryz.results51, go_sem, litv, k0, k1, k2, k3, k4]) rfl ⟨rfl, below_set5 HB.out (Nat.le_refl _) _ _ _ _ _⟩
end Go.Proofs.YtlodbibagmblkaaGreatDoor
namespace Go.Proofs.YtlodbibagmblkaaGreatDoor
open Go.RowKit Go.Lib
/-- a block of seven cells: a value -/
def P7 (W : World) (k : Nat) (a b c d e f g : Value) : Prop := W.heap[k]? = some (.cells #[a, b, c, d, e, f, g] 54)
theorem P7.new (w : World) (a b c d e f g : Value) : P7 (w.alloc (.cells #[a, b, c, d, e, f, g] 54)) w.heap.size a b c d e f g := heap_alloc_at _ _
theorem P7.lt {W : World} {k : Nat} {a b c d e f g : Value} (h : P7 W k a b c d e f g) : k < W.heap.size := (Array.getElem?_eq_some_iff.1 h).1
theorem P7.under {W W' : World} {k B : Nat} {a b c d e f g : Value} (h : P7 W k a b c d e f g) (hb : Below B W W') (hk : k < B) : P7 W' k a b c d e f g := by
  unfold P7; rw [hb.block _ hk]; exact h
theorem P7.below {W W' : World} {k : Nat} {a b c d e f g : Value} (h : P7 W k a b c d e f g) (hb : Below W.heap.size W W') : P7 W' k a b c d e f g := h.under hb h.lt
theorem P7.alloc {W : World} {k : Nat} {a b c d e f g : Value} (h : P7 W k a b c d e f g) (o : Obj) : P7 (W.alloc o) k a b c d e f g := h.below ((Below.refl _ _).alloc (Nat.le_refl _) _)
structure P7.Cells (W : World) (k : Nat) (a b c d e f g : Value) : Prop where
  c0 : W.cell? ⟨k, 0, none⟩ = some a
  c1 : W.cell? ⟨k, 1, none⟩ = some b
  c2 : W.cell? ⟨k, 2, none⟩ = some c
  c3 : W.cell? ⟨k, 3, none⟩ = some d
  c4 : W.cell? ⟨k, 4, none⟩ = some e
  c5 : W.cell? ⟨k, 5, none⟩ = some f
  c6 : W.cell? ⟨k, 6, none⟩ = some g
  f0 : W.frozen? ⟨k, 0, none⟩ = false
  f1 : W.frozen? ⟨k, 1, none⟩ = false
  f2 : W.frozen? ⟨k, 2, none⟩ = false
  f3 : W.frozen? ⟨k, 3, none⟩ = false
  f4 : W.frozen? ⟨k, 4, none⟩ = false
  f5 : W.frozen? ⟨k, 5, none⟩ = false
  f6 : W.frozen? ⟨k, 6, none⟩ = false
theorem P7.cells {W : World} {k : Nat} {a b c d e f g : Value} (h : P7 W k a b c d e f g) : P7.Cells W k a b c d e f g := by
  unfold P7 at h
  constructor <;> simp [World.cell?, World.frozen?, h]
theorem P7.drew {W : World} {k : Nat} {a b c d e f g : Value} (h : P7 W k a b c d e f g) : P7 W.drew k a b c d e f g := h
theorem P7.set56 {W : World} {k : Nat} {a b c d e f g : Value} (h : P7 W k a b c d e f g) (x y : Value) : P7 ((W.setCell ⟨k, 5, none⟩ x).setCell ⟨k, 6, none⟩ y) k a b c d e x y := by
  unfold P7 at *
  simp only [World.setCell, Array.getElem?_modify, if_pos, h]
  rfl
abbrev set7 (W : World) (k : Nat) (a b c d e f g : Value) : World := ((((((W.setCell ⟨k, 0, none⟩ a).setCell ⟨k, 1, none⟩ b).setCell ⟨k, 2, none⟩ c).setCell ⟨k, 3, none⟩ d).setCell ⟨k, 4, none⟩ e).setCell ⟨k, 5, none⟩ f).setCell ⟨k, 6, none⟩ g
theorem P7.set {W : World} {k : Nat} {a b c d e f g : Value} (h : P7 W k a b c d e f g) (a' b' c' d' e' f' g' : Value) : P7 (set7 W k a' b' c' d' e' f' g') k a' b' c' d' e' f' g' := by
  unfold P7 set7 at *
  simp only [World.setCell, Array.getElem?_modify, if_pos, h]
  rfl
theorem P7.other {W : World} {k j i : Nat} {a b c d e f g x : Value} (h : P7 W k a b c d e f g) (hne : j ≠ k) : P7 (W.setCell ⟨j, i, none⟩ x) k a b c d e f g := by
  unfold P7 at *
  simp only [World.setCell, Array.getElem?_modify, if_neg hne]
  exact h
theorem P5.other {W : World} {k j i : Nat} {a b c d e x : Value} (h : P5 W k a b c d e) (hne : j ≠ k) : P5 (W.setCell ⟨j, i, none⟩ x) k a b c d e := by
  unfold P5 at *
  simp only [World.setCell, Array.getElem?_modify, if_neg hne]
  exact h
theorem P5.set1 {W : World} {k : Nat} {a b c d e : Value} (h : P5 W k a b c d e) (x : Value) : P5 (W.setCell ⟨k, 1, none⟩ x) k a x c d e := by
  unfold P5 at *
  simp only [World.setCell, Array.getElem?_modify, if_pos, h]
  rfl
theorem P5.set3 {W : World} {k : Nat} {a b c d e : Value} (h : P5 W k a b c d e) (x : Value) : P5 (W.setCell ⟨k, 3, none⟩ x) k a b c x e := by
  unfold P5 at *
  simp only [World.setCell, Array.getElem?_modify, if_pos, h]
  rfl
theorem below_set7 {w W : World} {k B : Nat} (hb : Below B w W) (hk : B ≤ k) (a b c d e f g : Value) : Below B w (set7 W k a b c d e f g) :=
  ((((((hb.setCell (p := ⟨k, 0, none⟩) hk _).setCell (p := ⟨k, 1, none⟩) hk _).setCell (p := ⟨k, 2, none⟩) hk _).setCell (p := ⟨k, 3, none⟩) hk _).setCell (p := ⟨k, 4, none⟩) hk _).setCell (p := ⟨k, 5, none⟩) hk _).setCell (p := ⟨k, 6, none⟩) hk _
/-- a value -/
def valv (k n b : Int) (t : ByteArray) (v : Value) (g : Bool) (s : ByteArray) : Value := .agg #[.int .u8 k, .int .i64 n, .int .u64 b, .string t, v, .bool g, .string s]
/-- the blocks of of, as it begins to look -/
structure OfW (w W : World) (k n b : Int) (t : ByteArray) (v : Value) (g : Bool) (S : ByteArray) (n' : Int) (t' : ByteArray) : Prop where
  l : P5 W w.heap.size (.int .u8 k) (.int .i64 n) (.int .u64 b) (.string t) v
  r : P7 W (w.heap.size + 1) (.int .u8 0) (.int .i64 0) (.int .u64 0) (.string ⟨#[]⟩) (.slice none 0 0) (.bool false) (.string ⟨#[]⟩)
  u : P7 W (w.heap.size + 2) (.int .u8 k) (.int .i64 n) (.int .u64 b) (.string t) v (.bool g) (.string S)
  q : P5 W (w.heap.size + 3) (.int .u8 k) (.int .i64 n') (.int .u64 b) (.string t') v
  low : Below w.heap.size w W
  size : w.heap.size + 4 ≤ W.heap.size
theorem OfW.new (w : World) (k n b : Int) (t : ByteArray) (v : Value) : OfW w ((((w.alloc (.cells #[.int .u8 k, .int .i64 n, .int .u64 b, .string t, v] 26)).alloc (.cells #[.int .u8 0, .int .i64 0, .int .u64 0, .string ⟨#[]⟩, .slice none 0 0, .bool false, .string ⟨#[]⟩] 54)).alloc (.cells #[.int .u8 k, .int .i64 n, .int .u64 b, .string t, v, .bool false, .string ⟨#[]⟩] 54)).alloc (.cells #[.int .u8 k, .int .i64 n, .int .u64 b, .string t, v] 26)) k n b t v false ⟨#[]⟩ n t := by
  obtain ⟨W1, h1⟩ : ∃ W1, w.alloc (.cells #[.int .u8 k, .int .i64 n, .int .u64 b, .string t, v] 26) = W1 := ⟨_, rfl⟩
  have l1 : P5 W1 w.heap.size (.int .u8 k) (.int .i64 n) (.int .u64 b) (.string t) v := by rw [← h1]; exact P5.new _ _ _ _ _ _
  have s1 : W1.heap.size = w.heap.size + 1 := by rw [← h1]; simp
  have b1 : Below w.heap.size w W1 := by rw [← h1]; exact (Below.refl _ _).alloc (Nat.le_refl _) _
  rw [h1]
  have r2 := P7.new W1 (.int .u8 0) (.int .i64 0) (.int .u64 0) (.string ⟨#[]⟩) (.slice none 0 0) (.bool false) (.string ⟨#[]⟩)
  obtain ⟨W2, h2⟩ : ∃ W2, W1.alloc (.cells #[.int .u8 0, .int .i64 0, .int .u64 0, .string ⟨#[]⟩, .slice none 0 0, .bool false, .string ⟨#[]⟩] 54) = W2 := ⟨_, rfl⟩
  have l2 := l1.alloc (.cells #[.int .u8 0, .int .i64 0, .int .u64 0, .string ⟨#[]⟩, .slice none 0 0, .bool false, .string ⟨#[]⟩] 54)
  have b2 := b1.alloc (by omega) (.cells #[.int .u8 0, .int .i64 0, .int .u64 0, .string ⟨#[]⟩, .slice none 0 0, .bool false, .string ⟨#[]⟩] 54)
  rw [h2] at r2 l2 b2 ⊢
  have s2 : W2.heap.size = w.heap.size + 2 := by rw [← h2]; simp; omega
  rw [s1] at r2
  have v3 := P7.new W2 (.int .u8 k) (.int .i64 n) (.int .u64 b) (.string t) v (.bool false) (.string ⟨#[]⟩)
  obtain ⟨W3, h3⟩ : ∃ W3, W2.alloc (.cells #[.int .u8 k, .int .i64 n, .int .u64 b, .string t, v, .bool false, .string ⟨#[]⟩] 54) = W3 := ⟨_, rfl⟩
  have l3 := l2.alloc (.cells #[.int .u8 k, .int .i64 n, .int .u64 b, .string t, v, .bool false, .string ⟨#[]⟩] 54)
  have r3 := r2.alloc (.cells #[.int .u8 k, .int .i64 n, .int .u64 b, .string t, v, .bool false, .string ⟨#[]⟩] 54)
  have b3 := b2.alloc (by omega) (.cells #[.int .u8 k, .int .i64 n, .int .u64 b, .string t, v, .bool false, .string ⟨#[]⟩] 54)
  rw [h3] at v3 l3 r3 b3 ⊢
  have s3 : W3.heap.size = w.heap.size + 3 := by rw [← h3]; simp; omega
  rw [s2] at v3
  have q4 := P5.new W3 (.int .u8 k) (.int .i64 n) (.int .u64 b) (.string t) v
  rw [s3] at q4
  exact ⟨l3.alloc _, r3.alloc _, v3.alloc _, q4, b3.alloc (by omega) _, by simp; omega⟩
theorem OfW.below {w W W' : World} {k n b : Int} {t : ByteArray} {v : Value} {g : Bool} {S : ByteArray} {n' : Int} {t' : ByteArray} (h : OfW w W k n b t v g S n' t') (hb : Below W.heap.size W W') : OfW w W' k n b t v g S n' t' :=
  ⟨h.l.below hb, h.r.below hb, h.u.below hb, h.q.below hb, h.low.trans (hb.mono (by have := h.size; omega)), Nat.le_trans h.size hb.size⟩
theorem OfW.drew {w W : World} {k n b : Int} {t : ByteArray} {v : Value} {g : Bool} {S : ByteArray} {n' : Int} {t' : ByteArray} (h : OfW w W k n b t v g S n' t') : OfW w W.drew k n b t v g S n' t' := ⟨h.l, h.r, h.u, h.q, h.low.drew, h.size⟩
theorem OfW.large {w W : World} {k n b : Int} {t : ByteArray} {v : Value} {g : Bool} {S : ByteArray} {n' : Int} {t' : ByteArray} (h : OfW w W k n b t v g S n' t') (g2 : Bool) (S2 : ByteArray) :
    OfW w ((W.setCell ⟨w.heap.size + 2, 5, none⟩ (.bool g2)).setCell ⟨w.heap.size + 2, 6, none⟩ (.string S2)) k n b t v g2 S2 n' t' :=
  ⟨(h.l.other (by omega)).other (by omega), (h.r.other (by omega)).other (by omega), h.u.set56 _ _, (h.q.other (by omega)).other (by omega), (h.low.setCell (p := ⟨w.heap.size + 2, 5, none⟩) (by show w.heap.size ≤ w.heap.size + 2; omega) _).setCell (p := ⟨w.heap.size + 2, 6, none⟩) (by show w.heap.size ≤ w.heap.size + 2; omega) _, by simpa [World.setCell] using h.size⟩
theorem OfW.nought {w W : World} {k n b : Int} {t : ByteArray} {v : Value} {g : Bool} {S : ByteArray} {n' : Int} {t' : ByteArray} (h : OfW w W k n b t v g S n' t') :
    OfW w (W.setCell ⟨w.heap.size + 3, 1, none⟩ (.int .i64 0)) k n b t v g S 0 t' :=
  ⟨h.l.other (by omega), h.r.other (by omega), h.u.other (by omega), h.q.set1 _, h.low.setCell (p := ⟨w.heap.size + 3, 1, none⟩) (by show w.heap.size ≤ w.heap.size + 3; omega) _, by simpa [World.setCell] using h.size⟩
theorem OfW.empty {w W : World} {k n b : Int} {t : ByteArray} {v : Value} {g : Bool} {S : ByteArray} {n' : Int} {t' : ByteArray} (h : OfW w W k n b t v g S n' t') :
    OfW w (W.setCell ⟨w.heap.size + 3, 3, none⟩ (.string ⟨#[]⟩)) k n b t v g S n' ⟨#[]⟩ :=
  ⟨h.l.other (by omega), h.r.other (by omega), h.u.other (by omega), h.q.set3 _, h.low.setCell (p := ⟨w.heap.size + 3, 3, none⟩) (by show w.heap.size ≤ w.heap.size + 3; omega) _, by simpa [World.setCell] using h.size⟩
set_option maxRecDepth 4000 in
set_option maxHeartbeats 4000000 in
theorem of_small (n : Int) (c : Nat) (ia : Option Addr) (ic : Nat) (w : World) (h1 : -9223372036854775808 ≤ n) (h2 : n ≤ 9223372036854775807) (hc : c = 73 ∨ c = 76) :
    Calls Tryz.prog 19 #[litv 4 n 0 ⟨#[]⟩ (.slice ia 0 ic), .int .u8 c] w fun e w' => e = .returned (.tuple #[valv 4 n 0 ⟨#[]⟩ (.slice ia 0 ic) (decide (n < 0)) (bs (Pl.dgs n.natAbs)), .bool (decide (FitsI n))]) ∧ Below w.heap.size w w' := by
  have HOF : Hid (∀ W, Calls Tryz.prog 57 #[.int .i64 n] W fun e w' => e = .returned (.agg #[.bool (decide (n < 0)), .string (bs (Pl.dgs n.natAbs))]) ∧ Below W.heap.size W w') := Lib.hid (fun W => by
    have := ofn_any n W h1 h2
    rw [ofv_is h1 h2] at this
    exact this)
  have HFT := Lib.hid (fun W => fits_any n W)
  generalize decide (n < 0) = g at *
  generalize bs (Pl.dgs n.natAbs) = S at *
  have HO := Lib.hid (OfW.new w 4 n 0 ⟨#[]⟩ (.slice ia 0 ic))
  obtain ⟨W4, hW4⟩ : ∃ W4, (((w.alloc (.cells #[.int .u8 4, .int .i64 n, .int .u64 0, .string ⟨#[]⟩, .slice ia 0 ic] 26)).alloc (.cells #[.int .u8 0, .int .i64 0, .int .u64 0, .string ⟨#[]⟩, .slice none 0 0, .bool false, .string ⟨#[]⟩] 54)).alloc (.cells #[.int .u8 4, .int .i64 n, .int .u64 0, .string ⟨#[]⟩, .slice ia 0 ic, .bool false, .string ⟨#[]⟩] 54)).alloc (.cells #[.int .u8 4, .int .i64 n, .int .u64 0, .string ⟨#[]⟩, .slice ia 0 ic] 26) = W4 := ⟨_, rfl⟩
  rw [hW4] at HO
  unfold litv valv
  have HF0 : Hid (∀ W : World, OfW w W 4 n 0 ⟨#[]⟩ (.slice ia 0 ic) g S 0 ⟨#[]⟩ → P7 (set7 W (w.heap.size + 1) (.int .u8 4) (.int .i64 n) (.int .u64 0) (.string ⟨#[]⟩) (.slice ia 0 ic) (.bool g) (.string S)) (w.heap.size + 1) (.int .u8 4) (.int .i64 n) (.int .u64 0) (.string ⟨#[]⟩) (.slice ia 0 ic) (.bool g) (.string S)) := Lib.hid (fun W h => h.r.set _ _ _ _ _ _ _)
  obtain ⟨a0, a1, a2, a3, a4, _, _, _, _, _⟩ := HO.out.l.cells
  by_cases hf : FitsI n
  case' pos => rw [decide_eq_true hf] at HFT ⊢
  case' neg => rw [decide_eq_false hf] at HFT ⊢
  all_goals
    rcases hc with rfl | rfl
  all_goals
    go_enter Tryz.func19, Tryz.ntmps19
    go_wp2_with fail
    refine (HOF.out _).mono ?_
    rintro e w5 ⟨rfl, hb5⟩
    have H5 := Lib.hid (HO.out.below hb5)
    have H6 := Lib.hid (H5.out.large g S)
    clear hb5 a0 a1 a2 a3 a4
    obtain ⟨u0, u1, u2, u3, u4, u5, u6, _, _, _, _, _, u15, u16⟩ := H5.out.u.cells
    obtain ⟨W6, hW6⟩ : ∃ W6, (w5.setCell ⟨w.heap.size + 2, 5, none⟩ (.bool g)).setCell ⟨w.heap.size + 2, 6, none⟩ (.string S) = W6 := ⟨_, rfl⟩
    rw [hW6] at H6
    obtain ⟨a0, a1, a2, a3, a4, _, _, _, _, _⟩ := H6.out.l.cells
    go_wp2_with fail
    refine (HFT.out _).mono ?_
    rintro e w7 ⟨rfl, rfl⟩
    obtain ⟨q0, q1, q2, q3, q4, q5, q6, q7, q8, q9⟩ := H6.out.q.cells
    have H8 := Lib.hid (H6.out.nought)
    obtain ⟨W8, hW8⟩ : ∃ W8, W6.setCell ⟨w.heap.size + 3, 1, none⟩ (.int .i64 0) = W8 := ⟨_, rfl⟩
    rw [hW8] at H8
    clear u0 u1 u2 u3 u4 u5 u6 u15 u16 hW6
    obtain ⟨u0, u1, u2, u3, u4, u5, u6, _, _, _, _, _, _, _⟩ := H8.out.u.cells
    obtain ⟨s0, s1, s2, s3, s4, _, _, _, _, _⟩ := H8.out.q.cells
    obtain ⟨r0, r1, r2, r3, r4, r5, r6, f0, f1, f2, f3, f4, f5, f6⟩ := H8.out.r.cells
    go_wp2_with fail
    go_region
    go_wp2_with fail
    have hk := (HF0.out W8 H8.out).drew.cells
    have hB := (below_set7 H8.out.low (show w.heap.size ≤ w.heap.size + 1 by omega) (.int .u8 4) (.int .i64 n) (.int .u64 0) (.string ⟨#[]⟩) (.slice ia 0 ic) (.bool g) (.string S)).drew
    clear u0 u1 u2 u3 u4 u5 u6 s0 s1 s2 s3 s4 r0 r1 r2 r3 r4 r5 r6 f0 f1 f2 f3 f4 f5 f6 a0 a1 a2 a3 a4 q0 q1 q2 q3 q4 q5 q6 q7 q8 q9
    generalize hWf : (set7 W8 (w.heap.size + 1) (.int .u8 4) (.int .i64 n) (.int .u64 0) (.string ⟨#[]⟩) (.slice ia 0 ic) (.bool g) (.string S)).drew = Wf at hk hB
    clear hWf
    obtain ⟨k0, k1, k2, k3, k4, k5, k6, _, _, _, _, _, _, _⟩ := hk
    first
    | exact bodyPost_ret (v := .tuple #[.agg #[.int .u8 4, .int .i64 n, .int .u64 0, .string ⟨#[]⟩, .slice ia 0 ic, .bool g, .string S], .bool true]) (by simp [results, Tryz.results19, go_sem, k0, k1, k2, k3, k4, k5, k6]) rfl ⟨rfl, hB⟩
    | exact bodyPost_ret (v := .tuple #[.agg #[.int .u8 4, .int .i64 n, .int .u64 0, .string ⟨#[]⟩, .slice ia 0 ic, .bool g, .string S], .bool false]) (by simp [results, Tryz.results19, go_sem, k0, k1, k2, k3, k4, k5, k6]) rfl ⟨rfl, hB⟩
end Go.Proofs.YtlodbibagmblkaaGreatDoor
namespace Go.Proofs.YtlodbibagmblkaaGreatDoor
open Go Go.RowKit Go.Lib
/-- a value's cells -/
structure PV where
  k : Int
  n : Int
  b : Int
  t : ByteArray
  v : Value
  g : Bool
  s : ByteArray
def PV.cells (x : PV) : List Value := [.int .u8 x.k, .int .i64 x.n, .int .u64 x.b, .string x.t, x.v, .bool x.g, .string x.s]
/-- a slice value that reads as values -/
def VRow (w : World) (v : Value) (l : List PV) : Prop := ∃ g cap, v = .slice (some ⟨g, 0, none⟩) l.length cap ∧ g < w.heap.size ∧ ∀ (i : Nat) (x : PV), l[i]? = some x → ∀ (j : Nat) (u : Value), x.cells[j]? = some u → w.cell? ⟨g, i * 7 + j, none⟩ = some u
theorem VRow.below {w w' : World} {v : Value} {l : List PV} (h : VRow w v l) (hb : Below w.heap.size w w') : VRow w' v l := by
  obtain ⟨g, cap, h1, h2, h3⟩ := h
  exact ⟨g, cap, h1, Nat.lt_of_lt_of_le h2 hb.size, fun i x hx j u hu => by rw [hb.cell (p := ⟨g, i * 7 + j, none⟩) h2]; exact h3 i x hx j u hu⟩
/-- a literal and whether it is one come out -/
def LitOk (w : World) (l : Value) (is : Bool) (e : Ending) (w' : World) : Prop := e = .returned (.tuple #[l, .bool is]) ∧ Below w.heap.size w w'
set_option maxRecDepth 4000 in
set_option maxHeartbeats 4000000 in
theorem cl62 (x : PV) (v : Value) (w : World) (h : VRow w v [x])  :
    Calls Tryz.prog 110 #[v] w (LitOk w (litv 4 x.t.size 0 ⟨#[]⟩ (.slice none 0 0)) true) := by
  obtain ⟨W1, hW1⟩ : ∃ W1, w.alloc (.cells #[.int .u8 0, .int .i64 0, .int .u64 0, .string ⟨#[]⟩, .slice none 0 0] 26) = W1 := ⟨_, rfl⟩
  have HP : Hid (P5 W1 w.heap.size (.int .u8 0) (.int .i64 0) (.int .u64 0) (.string ⟨#[]⟩) (.slice none 0 0)) := Lib.hid (by rw [← hW1]; exact P5.new _ _ _ _ _ _)
  have HB : Hid (Below w.heap.size w W1) := Lib.hid (by rw [← hW1]; exact (Below.refl _ _).alloc (Nat.le_refl _) _)
  obtain ⟨gv, cv, rfl, hg0, hc0⟩ := h
  have hc : ∀ (i : Nat) (q : PV), [x][i]? = some q → ∀ (j : Nat) (u : Value), q.cells[j]? = some u → W1.cell? ⟨gv, i * 7 + j, none⟩ = some u := fun i q hq j u hu => by rw [HB.out.cell (p := ⟨gv, i * 7 + j, none⟩) hg0]; exact hc0 i q hq j u hu
  have hg := Nat.lt_of_lt_of_le hg0 HB.out.size
  obtain ⟨c0, c1, c2, c3, c4, f0, f1, f2, f3, f4⟩ := HP.out.cells
  have v0n : W1.cell? ⟨gv, 1, none⟩ = _ := hc 0 _ rfl 1 _ rfl
  have v0t : W1.cell? ⟨gv, 3, none⟩ = _ := hc 0 _ rfl 3 _ rfl
  clear hc hc0
  simp only [List.length_cons, List.length_nil] at *
  have HSM := Lib.hid (fun W => psmall_any (x.t.size : Int) W)
  unfold litv at HSM
  go_enter Tryz.func110, Tryz.ntmps110
  go_wp2_with fail
  refine (HSM.out _).mono ?_
  rintro e w2 ⟨rfl, hb2⟩
  have HP2 := Lib.hid (HP.out.below hb2)
  have HB2 := Lib.hid (HB.out.trans (hb2.mono (by have := HP.out.lt; omega)))
  clear c0 c1 c2 c3 c4 f0 f1 f2 f3 f4
  obtain ⟨c0, c1, c2, c3, c4, f0, f1, f2, f3, f4⟩ := HP2.out.cells
  go_wp2_with fail
  obtain ⟨k0, k1, k2, k3, k4, _, _, _, _, _⟩ := (HP2.out.set (.int .u8 4) (.int .i64 x.t.size) (.int .u64 0) (.string ⟨#[]⟩) (.slice none 0 0)).cells
  exact bodyPost_ret (v := .tuple #[.agg #[.int .u8 4, .int .i64 x.t.size, .int .u64 0, .string ⟨#[]⟩, .slice none 0 0], .bool true]) (by simp [results, Tryz.results110, go_sem, k0, k1, k2, k3, k4]) rfl ⟨rfl, below_set5 HB2.out (Nat.le_refl _) _ _ _ _ _⟩
set_option maxRecDepth 4000 in
set_option maxHeartbeats 4000000 in
theorem cl66 (x : PV) (v : Value) (w : World) (h : VRow w v [x])  :
    Calls Tryz.prog 115 #[v] w (LitOk w (litv 9 0 0 x.t (.slice none 0 0)) true) := by
  obtain ⟨W1, hW1⟩ : ∃ W1, w.alloc (.cells #[.int .u8 0, .int .i64 0, .int .u64 0, .string ⟨#[]⟩, .slice none 0 0] 26) = W1 := ⟨_, rfl⟩
  have HP : Hid (P5 W1 w.heap.size (.int .u8 0) (.int .i64 0) (.int .u64 0) (.string ⟨#[]⟩) (.slice none 0 0)) := Lib.hid (by rw [← hW1]; exact P5.new _ _ _ _ _ _)
  have HB : Hid (Below w.heap.size w W1) := Lib.hid (by rw [← hW1]; exact (Below.refl _ _).alloc (Nat.le_refl _) _)
  obtain ⟨gv, cv, rfl, hg0, hc0⟩ := h
  have hc : ∀ (i : Nat) (q : PV), [x][i]? = some q → ∀ (j : Nat) (u : Value), q.cells[j]? = some u → W1.cell? ⟨gv, i * 7 + j, none⟩ = some u := fun i q hq j u hu => by rw [HB.out.cell (p := ⟨gv, i * 7 + j, none⟩) hg0]; exact hc0 i q hq j u hu
  have hg := Nat.lt_of_lt_of_le hg0 HB.out.size
  obtain ⟨c0, c1, c2, c3, c4, f0, f1, f2, f3, f4⟩ := HP.out.cells
  have v0n : W1.cell? ⟨gv, 1, none⟩ = _ := hc 0 _ rfl 1 _ rfl
  have v0t : W1.cell? ⟨gv, 3, none⟩ = _ := hc 0 _ rfl 3 _ rfl
  clear hc hc0
  simp only [List.length_cons, List.length_nil] at *
  go_enter Tryz.func115, Tryz.ntmps115
  go_wp2_with fail
  obtain ⟨k0, k1, k2, k3, k4, _, _, _, _, _⟩ := (HP.out.set (.int .u8 9) (.int .i64 0) (.int .u64 0) (.string x.t) (.slice none 0 0)).cells
  exact bodyPost_ret (v := .tuple #[.agg #[.int .u8 9, .int .i64 0, .int .u64 0, .string x.t, .slice none 0 0], .bool true]) (by simp [results, Tryz.results115, go_sem, k0, k1, k2, k3, k4]) rfl ⟨rfl, below_set5 HB.out (Nat.le_refl _) _ _ _ _ _⟩
set_option maxRecDepth 4000 in
set_option maxHeartbeats 4000000 in
theorem cl67 (x : PV) (v : Value) (w : World) (h : VRow w v [x]) (hs : x.t.size ≤ 65536) :
    Calls Tryz.prog 116 #[v] w (LitOk w (litv 8 0 0 x.t (.slice none 0 0)) true) := by
  obtain ⟨W1, hW1⟩ : ∃ W1, w.alloc (.cells #[.int .u8 0, .int .i64 0, .int .u64 0, .string ⟨#[]⟩, .slice none 0 0] 26) = W1 := ⟨_, rfl⟩
  have HP : Hid (P5 W1 w.heap.size (.int .u8 0) (.int .i64 0) (.int .u64 0) (.string ⟨#[]⟩) (.slice none 0 0)) := Lib.hid (by rw [← hW1]; exact P5.new _ _ _ _ _ _)
  have HB : Hid (Below w.heap.size w W1) := Lib.hid (by rw [← hW1]; exact (Below.refl _ _).alloc (Nat.le_refl _) _)
  obtain ⟨gv, cv, rfl, hg0, hc0⟩ := h
  have hc : ∀ (i : Nat) (q : PV), [x][i]? = some q → ∀ (j : Nat) (u : Value), q.cells[j]? = some u → W1.cell? ⟨gv, i * 7 + j, none⟩ = some u := fun i q hq j u hu => by rw [HB.out.cell (p := ⟨gv, i * 7 + j, none⟩) hg0]; exact hc0 i q hq j u hu
  have hg := Nat.lt_of_lt_of_le hg0 HB.out.size
  obtain ⟨c0, c1, c2, c3, c4, f0, f1, f2, f3, f4⟩ := HP.out.cells
  have v0n : W1.cell? ⟨gv, 1, none⟩ = _ := hc 0 _ rfl 1 _ rfl
  have v0t : W1.cell? ⟨gv, 3, none⟩ = _ := hc 0 _ rfl 3 _ rfl
  clear hc hc0
  simp only [List.length_cons, List.length_nil] at *
  have HSM := Lib.hid (fun W => ptext_any x.t W hs)
  unfold litv at HSM
  go_enter Tryz.func116, Tryz.ntmps116
  go_wp2_with fail
  refine (HSM.out _).mono ?_
  rintro e w2 ⟨rfl, hb2⟩
  have HP2 := Lib.hid (HP.out.below hb2)
  have HB2 := Lib.hid (HB.out.trans (hb2.mono (by have := HP.out.lt; omega)))
  clear c0 c1 c2 c3 c4 f0 f1 f2 f3 f4
  obtain ⟨c0, c1, c2, c3, c4, f0, f1, f2, f3, f4⟩ := HP2.out.cells
  go_wp2_with fail
  obtain ⟨k0, k1, k2, k3, k4, _, _, _, _, _⟩ := (HP2.out.set (.int .u8 8) (.int .i64 0) (.int .u64 0) (.string x.t) (.slice none 0 0)).cells
  exact bodyPost_ret (v := .tuple #[.agg #[.int .u8 8, .int .i64 0, .int .u64 0, .string x.t, .slice none 0 0], .bool true]) (by simp [results, Tryz.results116, go_sem, k0, k1, k2, k3, k4]) rfl ⟨rfl, below_set5 HB2.out (Nat.le_refl _) _ _ _ _ _⟩
set_option maxRecDepth 4000 in
set_option maxHeartbeats 4000000 in
theorem cl63 (x y : PV) (v : Value) (w : World) (h : VRow w v [x, y]) (hs : (x.t ++ y.t).size ≤ 65536) :
    Calls Tryz.prog 111 #[v] w (LitOk w (litv 8 0 0 (x.t ++ y.t) (.slice none 0 0)) true) := by
  obtain ⟨W1, hW1⟩ : ∃ W1, w.alloc (.cells #[.int .u8 0, .int .i64 0, .int .u64 0, .string ⟨#[]⟩, .slice none 0 0] 26) = W1 := ⟨_, rfl⟩
  have HP : Hid (P5 W1 w.heap.size (.int .u8 0) (.int .i64 0) (.int .u64 0) (.string ⟨#[]⟩) (.slice none 0 0)) := Lib.hid (by rw [← hW1]; exact P5.new _ _ _ _ _ _)
  have HB : Hid (Below w.heap.size w W1) := Lib.hid (by rw [← hW1]; exact (Below.refl _ _).alloc (Nat.le_refl _) _)
  obtain ⟨gv, cv, rfl, hg0, hc0⟩ := h
  have hc : ∀ (i : Nat) (q : PV), [x, y][i]? = some q → ∀ (j : Nat) (u : Value), q.cells[j]? = some u → W1.cell? ⟨gv, i * 7 + j, none⟩ = some u := fun i q hq j u hu => by rw [HB.out.cell (p := ⟨gv, i * 7 + j, none⟩) hg0]; exact hc0 i q hq j u hu
  have hg := Nat.lt_of_lt_of_le hg0 HB.out.size
  obtain ⟨c0, c1, c2, c3, c4, f0, f1, f2, f3, f4⟩ := HP.out.cells
  have v0n : W1.cell? ⟨gv, 1, none⟩ = _ := hc 0 _ rfl 1 _ rfl
  have v0t : W1.cell? ⟨gv, 3, none⟩ = _ := hc 0 _ rfl 3 _ rfl
  have v1n : W1.cell? ⟨gv, 8, none⟩ = _ := hc 1 _ rfl 1 _ rfl
  have v1t : W1.cell? ⟨gv, 10, none⟩ = _ := hc 1 _ rfl 3 _ rfl
  clear hc hc0
  simp only [List.length_cons, List.length_nil] at *
  have HSM := Lib.hid (fun W => ptext_any (x.t ++ y.t) W hs)
  unfold litv at HSM
  have hadd : Op.stringOp .add x.t y.t = pure (.string (x.t ++ y.t)) := by
    rw [ByteArray.size_append] at hs
    have hmax : IntKind.i64.max = 9223372036854775807 := rfl
    unfold Op.stringOp
    simp only
    rw [if_neg (by rw [hmax]; omega)]
  go_enter Tryz.func111, Tryz.ntmps111
  go_wp2_with fail
  have cellset : ∀ (W : World) (i : Nat) (u a b c d e : Value), W.cell? ⟨gv, i, none⟩ = some u → (set5 W w.heap.size a b c d e).cell? ⟨gv, i, none⟩ = some u := fun W i u a b c d e hu => by
    unfold set5
    rw [World.cell?_setCell_other _ _ _ _ (by intro q; injection q with q; omega), World.cell?_setCell_other _ _ _ _ (by intro q; injection q with q; omega), World.cell?_setCell_other _ _ _ _ (by intro q; injection q with q; omega), World.cell?_setCell_other _ _ _ _ (by intro q; injection q with q; omega), World.cell?_setCell_other _ _ _ _ (by intro q; injection q with q; omega)]
    exact hu
  have HS : Hid (∀ W, Below W1.heap.size W1 W → W.cell? ⟨gv, 3, none⟩ = some (.string x.t) ∧ W.cell? ⟨gv, 10, none⟩ = some (.string y.t)) := Lib.hid (fun W hb => ⟨by rw [hb.cell (p := ⟨gv, 3, none⟩) hg]; exact v0t, by rw [hb.cell (p := ⟨gv, 10, none⟩) hg]; exact v1t⟩)
  have HS5 : Hid (∀ W, Below W1.heap.size W1 W → ∀ a b c d e, (set5 W w.heap.size a b c d e).cell? ⟨gv, 3, none⟩ = some (.string x.t) ∧ (set5 W w.heap.size a b c d e).cell? ⟨gv, 10, none⟩ = some (.string y.t)) := Lib.hid (fun W hb a b c d e => ⟨cellset W 3 _ a b c d e (HS.out W hb).1, cellset W 10 _ a b c d e (HS.out W hb).2⟩)
  have BD := Lib.hid (show Below W1.heap.size W1 W1.drew from (Below.refl _ W1).drew)
  clear cellset
  unfold set5 at HS5
  go_region_held3 (fun W => W.cell? ⟨gv, 3, none⟩ = some (.string x.t) ∧ W.cell? ⟨gv, 10, none⟩ = some (.string y.t)) (first | with_reducible exact ⟨v0t, v1t⟩ | with_reducible exact HS.out _ BD.out | with_reducible exact HS.out _ hb2 | with_reducible exact HS5.out _ hb2 _ _ _ _ _) ((go_at_call 51; (with_reducible refine (HSM.out _).mono ?_); rintro e w2 ⟨rfl, hb2d⟩; have hb2 : Below W1.heap.size W1 w2 := (BD.out).trans hb2d; clear hb2d; have HP2 := Lib.hid (HP.out.below hb2); have HB2 := Lib.hid (HB.out.trans (hb2.mono (by have := HP.out.lt; omega))); obtain ⟨d0, d1, d2, d3, d4, e0, e1, e2, e3, e4⟩ := HP2.out.cells))
  all_goals
    go_wp2_with fail
    obtain ⟨k0, k1, k2, k3, k4, _, _, _, _, _⟩ := (HP2.out.set (.int .u8 8) (.int .i64 0) (.int .u64 0) (.string (x.t ++ y.t)) (.slice none 0 0)).cells
    exact bodyPost_ret (v := .tuple #[.agg #[.int .u8 8, .int .i64 0, .int .u64 0, .string (x.t ++ y.t), .slice none 0 0], .bool true]) (by simp [results, Tryz.results111, go_sem, k0, k1, k2, k3, k4]) rfl ⟨rfl, below_set5 HB2.out (Nat.le_refl _) _ _ _ _ _⟩
end Go.Proofs.YtlodbibagmblkaaGreatDoor
namespace Go.Proofs.YtlodbibagmblkaaGreatDoor
open Go Go.RowKit Go.Lib
/-- the literal of an integer: its kind, its number, its text -/
def IntLit (A k n : Int) (s : List UInt8) : Prop := (FitsI A ∧ k = 4 ∧ n = A ∧ s = []) ∨ (¬ FitsI A ∧ k = 5 ∧ n = 0 ∧ Pl.IntT 10 s A ∧ s.length ≤ 40000)
def WhoOk (w : World) (A : Int) (e : Ending) (w' : World) : Prop := ∃ k n s, IntLit A k n s ∧ LitOk w (litv k n 0 (bs s) (.slice none 0 0)) true e w'
theorem fitsI_in {A : Int} (h : FitsI A) : In64 A := by unfold FitsI at h; unfold In64; omega
set_option maxRecDepth 4000 in
set_option maxHeartbeats 4000000 in
theorem whole_err (g : Bool) (S : ByteArray) (e : Int) (w : World) (he : e ≠ 0) :
    Calls Tryz.prog 25 #[.agg #[.bool g, .string S], .int .i64 e] w (LitOk w nolit false) := by
  obtain ⟨W2, hW2⟩ : ∃ W2, (w.alloc (.cells #[.bool g, .string S] 43)).alloc (.cells #[.int .u8 0, .int .i64 0, .int .u64 0, .string ⟨#[]⟩, .slice none 0 0] 26) = W2 := ⟨_, rfl⟩
  have HP : Hid (P5 W2 (w.heap.size + 1) (.int .u8 0) (.int .i64 0) (.int .u64 0) (.string ⟨#[]⟩) (.slice none 0 0)) := Lib.hid (by
    rw [← hW2]
    have := P5.new (w.alloc (.cells #[.bool g, .string S] 43)) (.int .u8 0) (.int .i64 0) (.int .u64 0) (.string ⟨#[]⟩) (.slice none 0 0)
    simpa using this)
  have HL : Hid (P2 W2 w.heap.size 43 (.bool g) (.string S)) := Lib.hid (by rw [← hW2]; exact (P2.new _ _ _ _).alloc _)
  have HB : Hid (Below w.heap.size w W2) := Lib.hid (by rw [← hW2]; exact ((Below.refl _ _).alloc (Nat.le_refl _) _).alloc (by simp) _)
  have hs : w.heap.size + 2 ≤ W2.heap.size := by rw [← hW2]; simp
  have hd : (e == 0) = false := by rw [beq_eq_false_iff_ne]; exact he
  obtain ⟨c0, c1, c2, c3, c4, f0, f1, f2, f3, f4⟩ := HP.out.cells
  unfold nolit litv
  go_enter Tryz.func25, Tryz.ntmps25
  go_wp2_with fail
  obtain ⟨k0, k1, k2, k3, k4, _, _, _, _, _⟩ := (HP.out.set (.int .u8 0) (.int .i64 0) (.int .u64 0) (.string ⟨#[]⟩) (.slice none 0 0)).cells
  exact bodyPost_ret (v := .tuple #[.agg #[.int .u8 0, .int .i64 0, .int .u64 0, .string ⟨#[]⟩, .slice none 0 0], .bool false]) (by simp [results, Tryz.results25, go_sem, k0, k1, k2, k3, k4]) rfl ⟨rfl, below_set5 HB.out (by omega) _ _ _ _ _⟩
set_option maxRecDepth 4000 in
set_option maxHeartbeats 4000000 in
theorem whole_any (A : Int) (w : World) (hA : Pl.Big A) :
    Calls Tryz.prog 25 #[lof A, .int .i64 0] w (WhoOk w A) := by
  have HSM := Lib.hid (fun W => lsmall_any A W hA)
  have HFT := Lib.hid (fun W => fits_any A W)
  have HTX := Lib.hid (fun W => ltext_any A 10 W hA (by decide) (by decide))
  have HPS := Lib.hid (fun W => psmall_any A W)
  unfold litv at HPS
  obtain ⟨g, S, ha⟩ : ∃ g S, lof A = .agg #[.bool g, .string S] := ⟨_, _, rfl⟩
  rw [ha] at HSM HTX ⊢
  have key : (FitsI A ∧ smallv A = .tuple #[.int .i64 A, .bool true]) ∨ (¬ FitsI A ∧ smallv A = .tuple #[.int .i64 A, .bool true]) ∨ (¬ FitsI A ∧ smallv A = .tuple #[.int .i64 0, .bool false]) := by
    unfold smallv
    by_cases h1 : FitsI A
    · exact .inl ⟨h1, by rw [if_pos (fitsI_in h1)]⟩
    · by_cases h2 : In64 A
      · exact .inr (.inl ⟨h1, by rw [if_pos h2]⟩)
      · exact .inr (.inr ⟨h1, by rw [if_neg h2]⟩)
  clear hA ha
  obtain ⟨W2, hW2⟩ : ∃ W2, (w.alloc (.cells #[.bool g, .string S] 43)).alloc (.cells #[.int .u8 0, .int .i64 0, .int .u64 0, .string ⟨#[]⟩, .slice none 0 0] 26) = W2 := ⟨_, rfl⟩
  have HP : Hid (P5 W2 (w.heap.size + 1) (.int .u8 0) (.int .i64 0) (.int .u64 0) (.string ⟨#[]⟩) (.slice none 0 0)) := Lib.hid (by
    rw [← hW2]
    have := P5.new (w.alloc (.cells #[.bool g, .string S] 43)) (.int .u8 0) (.int .i64 0) (.int .u64 0) (.string ⟨#[]⟩) (.slice none 0 0)
    simpa using this)
  have HL : Hid (P2 W2 w.heap.size 43 (.bool g) (.string S)) := Lib.hid (by rw [← hW2]; exact (P2.new _ _ _ _).alloc _)
  have HB : Hid (Below w.heap.size w W2) := Lib.hid (by rw [← hW2]; exact ((Below.refl _ _).alloc (Nat.le_refl _) _).alloc (by simp) _)
  have hs : w.heap.size + 2 ≤ W2.heap.size := by rw [← hW2]; simp
  obtain ⟨p0, p1, _, _⟩ := HL.out.cells
  obtain ⟨c0, c1, c2, c3, c4, f0, f1, f2, f3, f4⟩ := HP.out.cells
  rcases key with ⟨h1, h2⟩ | ⟨h1, h2⟩ | ⟨h1, h2⟩
  · rw [show decide (FitsI A) = true from decide_eq_true h1] at HFT
    rw [h2] at HSM
    go_enter Tryz.func25, Tryz.ntmps25
    go_wp2_with fail
    refine (HSM.out _).mono ?_
    rintro e w3 ⟨rfl, hb3⟩
    have HP3 := Lib.hid (HP.out.below hb3)
    have HL3 := Lib.hid (HL.out.below hb3)
    have HB3 := Lib.hid (chain HB.out hb3 (by omega))
    have hs3 := hb3.size
    clear p0 p1 c0 c1 c2 c3 c4 f0 f1 f2 f3 f4 hb3
    obtain ⟨p0, p1, _, _⟩ := HL3.out.cells
    obtain ⟨c0, c1, c2, c3, c4, f0, f1, f2, f3, f4⟩ := HP3.out.cells
    go_wp2_with fail
    refine (HFT.out _).mono ?_
    rintro e w4 ⟨rfl, rfl⟩
    go_wp2_with fail
    refine (HPS.out _).mono ?_
    rintro e w5 ⟨rfl, hb5⟩
    have HP5 := Lib.hid (HP3.out.below hb5)
    have HB5 := Lib.hid (chain HB3.out hb5 (by omega))
    clear p0 p1 c0 c1 c2 c3 c4 f0 f1 f2 f3 f4 hb5
    obtain ⟨c0, c1, c2, c3, c4, f0, f1, f2, f3, f4⟩ := HP5.out.cells
    go_wp2_with fail
    obtain ⟨k0, k1, k2, k3, k4, _, _, _, _, _⟩ := (HP5.out.set (.int .u8 4) (.int .i64 A) (.int .u64 0) (.string ⟨#[]⟩) (.slice none 0 0)).cells
    exact bodyPost_ret (v := .tuple #[.agg #[.int .u8 4, .int .i64 A, .int .u64 0, .string ⟨#[]⟩, .slice none 0 0], .bool true]) (by simp [results, Tryz.results25, go_sem, k0, k1, k2, k3, k4]) rfl ⟨4, A, [], .inl ⟨h1, rfl, rfl, rfl⟩, ⟨rfl, below_set5 HB5.out (by omega) _ _ _ _ _⟩⟩
  · rw [show decide (FitsI A) = false from decide_eq_false h1] at HFT
    rw [h2] at HSM
    go_enter Tryz.func25, Tryz.ntmps25
    go_wp2_with fail
    refine (HSM.out _).mono ?_
    rintro e w3 ⟨rfl, hb3⟩
    have HP3 := Lib.hid (HP.out.below hb3)
    have HL3 := Lib.hid (HL.out.below hb3)
    have HB3 := Lib.hid (chain HB.out hb3 (by omega))
    have hs3 := hb3.size
    clear p0 p1 c0 c1 c2 c3 c4 f0 f1 f2 f3 f4 hb3
    obtain ⟨p0, p1, _, _⟩ := HL3.out.cells
    obtain ⟨c0, c1, c2, c3, c4, f0, f1, f2, f3, f4⟩ := HP3.out.cells
    go_wp2_with fail
    refine (HFT.out _).mono ?_
    rintro e w4 ⟨rfl, rfl⟩
    go_wp2_with fail
    refine (HTX.out _).mono ?_
    rintro e w5 ⟨s, rfl, hT, hb5, hsl⟩
    have HP5 := Lib.hid (HP3.out.below hb5)
    have HB5 := Lib.hid (chain HB3.out hb5 (by omega))
    have HT := Lib.hid hT
    clear p0 p1 c0 c1 c2 c3 c4 f0 f1 f2 f3 f4 hb5 hT
    obtain ⟨c0, c1, c2, c3, c4, f0, f1, f2, f3, f4⟩ := HP5.out.cells
    obtain ⟨T, hTe⟩ : ∃ T, bs s = T := ⟨_, rfl⟩
    have HTE := Lib.hid hTe
    rw [hTe]
    clear hTe
    go_wp2_with fail
    obtain ⟨k0, k1, k2, k3, k4, _, _, _, _, _⟩ := (HP5.out.set (.int .u8 5) (.int .i64 0) (.int .u64 0) (.string T) (.slice none 0 0)).cells
    exact bodyPost_ret (v := .tuple #[.agg #[.int .u8 5, .int .i64 0, .int .u64 0, .string T, .slice none 0 0], .bool true]) (by simp [results, Tryz.results25, go_sem, k0, k1, k2, k3, k4]) rfl ⟨5, 0, s, .inr ⟨h1, rfl, rfl, HT.out, hsl⟩, by rw [HTE.out]; exact ⟨rfl, below_set5 HB5.out (by omega) _ _ _ _ _⟩⟩
  · rw [show decide (FitsI A) = false from decide_eq_false h1] at HFT
    rw [h2] at HSM
    go_enter Tryz.func25, Tryz.ntmps25
    go_wp2_with fail
    refine (HSM.out _).mono ?_
    rintro e w3 ⟨rfl, hb3⟩
    have HP3 := Lib.hid (HP.out.below hb3)
    have HL3 := Lib.hid (HL.out.below hb3)
    have HB3 := Lib.hid (chain HB.out hb3 (by omega))
    have hs3 := hb3.size
    clear p0 p1 c0 c1 c2 c3 c4 f0 f1 f2 f3 f4 hb3
    obtain ⟨p0, p1, _, _⟩ := HL3.out.cells
    obtain ⟨c0, c1, c2, c3, c4, f0, f1, f2, f3, f4⟩ := HP3.out.cells
    go_wp2_with fail
    refine (HTX.out _).mono ?_
    rintro e w5 ⟨s, rfl, hT, hb5, hsl⟩
    have HP5 := Lib.hid (HP3.out.below hb5)
    have HB5 := Lib.hid (chain HB3.out hb5 (by omega))
    have HT := Lib.hid hT
    clear p0 p1 c0 c1 c2 c3 c4 f0 f1 f2 f3 f4 hb5 hT
    obtain ⟨c0, c1, c2, c3, c4, f0, f1, f2, f3, f4⟩ := HP5.out.cells
    obtain ⟨T, hTe⟩ : ∃ T, bs s = T := ⟨_, rfl⟩
    have HTE := Lib.hid hTe
    rw [hTe]
    clear hTe
    go_wp2_with fail
    obtain ⟨k0, k1, k2, k3, k4, _, _, _, _, _⟩ := (HP5.out.set (.int .u8 5) (.int .i64 0) (.int .u64 0) (.string T) (.slice none 0 0)).cells
    exact bodyPost_ret (v := .tuple #[.agg #[.int .u8 5, .int .i64 0, .int .u64 0, .string T, .slice none 0 0], .bool true]) (by simp [results, Tryz.results25, go_sem, k0, k1, k2, k3, k4]) rfl ⟨5, 0, s, .inr ⟨h1, rfl, rfl, HT.out, hsl⟩, by rw [HTE.out]; exact ⟨rfl, below_set5 HB5.out (by omega) _ _ _ _ _⟩⟩
end Go.Proofs.YtlodbibagmblkaaGreatDoor
namespace Go.Proofs.YtlodbibagmblkaaGreatDoor
open Go Go.RowKit Go.Lib
open Go.Maps (Keyed)
/-- whatever stands in a map reads as itself -/
def Rh (v : Value) : Option (DataW Value × List MemPlace) := some (.held v, [])
def puts : List (Int × Value) → DataW Value
  | [] => .map []
  | p :: L => (puts L).put (.int .i64 p.1) (.held p.2)
def lk : List (Int × Value) → Int → Option Value
  | [], _ => none
  | p :: L, k => if p.1 = k then some p.2 else lk L k
theorem puts_isMap : ∀ L, Go.Maps.IsMap (puts L)
  | [] => ⟨_, rfl⟩
  | p :: L => by
    obtain ⟨es, h⟩ := puts_isMap L
    unfold puts
    rw [h]
    exact ⟨_, rfl⟩
theorem puts_at : ∀ (L : List (Int × Value)) (k : Int) (z : DataW Value), (puts L).atKey (.int .i64 k) z = match lk L k with | some v => .held v | none => z
  | [], _, _ => rfl
  | p :: L, k, z => by
    unfold puts lk
    by_cases h : p.1 = k
    · rw [if_pos h, h]
      exact Go.Maps.atKey_put_same (puts_isMap L) (by simp [WideAt.IsKeyLit]) _ _
    · rw [if_neg h, Go.Maps.atKey_put_other (by intro e; injection e with _ e; exact h e.symm)]
      exact puts_at L k z
/-- block b holds a map in which a list was laid, the newest first -/
def MapAt (w : World) (b : Nat) (L : List (Int × Value)) : Prop := w.ownsMap Tryz.prog 3 Rh b L.length (puts L)
theorem MapAt.kept {w w' : World} {b : Nat} {L : List (Int × Value)} {row : Option Nat} (h : MapAt w b L) (hg : w.grownBy w' row) (hne : some b ≠ row) : MapAt w' b L := World.ownsMap.kept h hg hne
theorem MapAt.lt {w : World} {b : Nat} {L : List (Int × Value)} (h : MapAt w b L) : b < w.heap.size := World.ownsMap.lt h
theorem MapAt.new (w : World) : MapAt (w.alloc (.map #[] 0)) w.heap.size [] := World.ownsMap_made w Tryz.prog 3 Rh
theorem MapAt.below {w w' : World} {b B : Nat} {L : List (Int × Value)} (h : MapAt w b L) (hb : Below B w w') (hB : b < B) : MapAt w' b L := by
  obtain ⟨es, clock, h1, r⟩ := h
  exact ⟨es, clock, by rw [hb.block _ hB]; exact h1, r⟩
theorem MapAt.setCell {w : World} {b : Nat} {L : List (Int × Value)} (h : MapAt w b L) {a : Addr} (ha : b ≠ a.block) (u : Value) : MapAt (w.setCell a u) b L := World.ownsMap.setCell h ha u
theorem wf64 {k : Int} (h : -1000000 ≤ k ∧ k ≤ 1000000) : (Lit.int .i64 k).wf = true := by
  have h1 : IntKind.i64.min = -9223372036854775808 := rfl
  have h2 : IntKind.i64.max = 9223372036854775807 := rfl
  simp [Lit.wf, h1, h2]
  omega
theorem wpList_put (w : World) {ops : Array Oper} {rest : List Oper} {o : Oper} {a : Act} {Q : Exit → Act → World → Prop}
    (hg : o.guard = none) (m x v : Operand) (t e : TypeId) (hop : o.op = Op.mapUpdate t m x v ∨ o.op = Op.insert t m x v) (ht : Tryz.prog.underlying t = some (.map 3 e)) (b : Nat) (L : List (Int × Value))
    (hm : a.eval m = .map (some b)) (hown : MapAt w b L) (hn : L.length < 1000) (k : Int) (val : Value) (hx : a.eval x = .int .i64 k) (hv : a.eval v = val) (hk : -1000000 ≤ k ∧ k ≤ 1000000)
    (hK : ∀ w', MapAt w' b ((k, val) :: L) → w.grownBy w' (some b) → wpList Tryz.prog ops Q rest (a.put o.dst undef) w') : wpList Tryz.prog ops Q (o :: rest) a w := by
  refine wpList_plain hg fun K' hK' => ?_
  obtain ⟨w', hrun, r1, r2⟩ := World.ownsMap.update hown (Go.Maps.int_keyed Tryz.underlying3) ht (Nat.lt_of_lt_of_le hn (by unfold maxLen; decide)) (Go.Maps.keyOf_int_mk Tryz.underlying3 (wf64 hk)) (show Rh val = some (.held val, []) from rfl)
  unfold Oper.wp
  rcases hop with hop | hop
  · simp [execOp, hop, hm, hx, hv, hrun, Result.andThen]
    exact hK' _ _ (hK w' r1 r2)
  · simp [execOp, hop, hm, hx, hv, hrun, Result.andThen]
    exact hK' _ _ (hK w' r1 r2)
set_option maxRecDepth 20000 in
theorem look_ok {w : World} {b : Nat} {L : List (Int × Value)} (h : MapAt w b L) {t e : TypeId} (ht : Tryz.prog.underlying t = some (.map 3 e)) {z : Value} (hz : (zeroValue e).run Tryz.prog w = .ok z w) (k : Int) (hk : -1000000 ≤ k ∧ k ≤ 1000000) :
    (Instr.lookup t (.map (some b)) (.int .i64 k) true).run Tryz.prog w = .ok (match lk L k with | some v => .tuple #[v, .bool true] | none => .tuple #[z, .bool false]) w := by
  obtain ⟨es, clock, hb, F, _, hD⟩ := h
  rcases Maps.fit_look true (Go.Maps.int_keyed Tryz.underlying3) ht hz hb F (Go.Maps.keyOf_int_mk Tryz.underlying3 (wf64 hk)) with ⟨hrun, _, hat⟩ | ⟨e0, y, _, _, hrun, hRv, hat, _⟩
  · rw [hrun]
    rw [← hD] at hat
    have h1 := hat (.lit (.bool true))
    rw [puts_at] at h1
    cases hl : lk L k with
    | none => rfl
    | some v => rw [hl] at h1; cases h1
  · rw [hrun]
    rw [← hD] at hat
    have h1 := hat (.lit (.bool true))
    rw [puts_at] at h1
    have h2 : y.1 = .held e0.val := by
      unfold Rh at hRv
      injection hRv with hRv
      rw [← hRv]
    cases hl : lk L k with
    | none => rw [hl, h2] at h1; cases h1
    | some v =>
      rw [hl, h2] at h1
      injection h1 with h1
      rw [h1]
      rfl
end Go.Proofs.YtlodbibagmblkaaGreatDoor
