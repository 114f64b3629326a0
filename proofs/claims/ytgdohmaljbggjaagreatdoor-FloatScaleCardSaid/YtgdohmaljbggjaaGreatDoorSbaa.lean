/- The walk of FloatScale. -/
import Derived.Test.YtgdohmaljbggjaaGreatDoorOaan
namespace Go.Proofs.YtgdohmaljbggjaaGreatDoor
open Go.RowKit Go.Lib
theorem fexp_range {a : Nat} {n : Int} (h : Fl.fexp a = some n) : -1074 ≤ n ∧ n ≤ 1023 := by
  unfold Fl.fexp at h
  split at h
  · cases h
  · rename_i h0
    split at h
    · rename_i h1
      injection h with h
      have hb : (a % 9223372036854775808).log2 < 52 := (Nat.log2_lt (by omega)).2 (by omega)
      omega
    · injection h with h
      omega
set_option maxHeartbeats 4000000 in
theorem scale_none (a : Nat) (k : Int) (w : World) (ha : a < 18446744073709551616) (he : Env w) (hx : Fl.fexp a = none) :
    Calls Tryz.prog 5 #[.int .u64 a, .int .i64 k] w fun e w' => e = .returned (.bool true) ∧ Below w.heap.size w w' := by
  have HW := Lib.hid (works_any w he)
  have HX := Lib.hid (fun w => exponent_any a w ha)
  unfold expv at HX
  rw [hx] at HX
  have HS := Lib.hid (fun w => scale_any a k w ha)
  have HA := Lib.hid (fun w => add_any a 0 w)
  have h0 : a % 9223372036854775808 = 0 ∨ 9218868437227405312 ≤ a % 9223372036854775808 := by
    unfold Fl.fexp at hx
    split at hx
    · assumption
    · split at hx <;> cases hx
  obtain ⟨x, hxd⟩ : ∃ x, Fl.fscale a k = x := ⟨_, rfl⟩
  obtain ⟨y, hyd⟩ : ∃ y, Fl.fadd a 0 = y := ⟨_, rfl⟩
  rw [hxd] at HS
  rw [hyd] at HA
  obtain ⟨ma, hma⟩ : ∃ ma : Nat, a % 9223372036854775808 = ma := ⟨_, rfl⟩
  have hma' : (a : Int) % 9223372036854775808 = (ma : Int) := by omega
  rw [hma] at h0
  clear hma hx hxd hyd
  obtain ⟨q, hq⟩ : ∃ q, ((x : Int) == (y : Int)) = q := ⟨_, rfl⟩
  obtain ⟨q2, hq2⟩ : ∃ q2, ((ma : Int) == 0) = q2 := ⟨_, rfl⟩
  obtain ⟨q3, hq3⟩ : ∃ q3, decide (9218868437227405312 ≤ (ma : Int)) = q3 := ⟨_, rfl⟩
  have hl : q = true ∨ (q = false ∧ q2 = true) ∨ (q = false ∧ q2 = false ∧ q3 = true) := by
    cases q
    · cases q2
      · right; right
        refine ⟨rfl, rfl, ?_⟩
        rw [← hq3, decide_eq_true_iff]
        rw [beq_eq_false_iff_ne] at hq2
        omega
      · exact .inr (.inl ⟨rfl, rfl⟩)
    · exact .inl rfl
  clear h0 he ha
  obtain ⟨N, hN⟩ : ∃ N, w.heap.size = N := ⟨_, rfl⟩
  have HB0 : Hid (Below N w w) := Lib.hid (Below.refl _ _)
  have HN0 := Lib.hid (Nat.le_of_eq hN.symm)
  rw [hN]
  clear hN
  rcases hl with rfl | ⟨rfl, rfl⟩ | ⟨rfl, rfl, rfl⟩
  all_goals
    go_enter Tryz.func5, Tryz.ntmps5
    go_wp2_with fail
    refine HW.out.mono ?_
    rintro e w1 ⟨rfl, hb⟩
    have HB1 := Lib.hid (HB0.out.trans (hb.mono HN0.out))
    have HN1 := Lib.hid (Nat.le_trans HN0.out hb.size)
    clear hb HB0 HN0 HW
    go_wp2_with fail
    refine (HX.out _).mono ?_
    rintro e w' ⟨rfl, rfl⟩
    go_wp2_with fail
    refine (HS.out _).mono ?_
    rintro e w' ⟨rfl, rfl⟩
    go_wp2_with fail
    refine (HA.out _).mono ?_
    rintro e w2 ⟨rfl, hb⟩
    have HB2 := Lib.hid (HB1.out.trans (hb.mono HN1.out))
    clear hb HB1 HN1
    go_wp2_with fail
    go_ret
    exact ⟨rfl, HB2.out⟩
/-- How the guards of FloatScale's second test may lie. -/
inductive Lies2 (n k : Int) : Prop
  | one (h : decide (n < -1022) = true)
  | two (h : decide (n < -1022) = false) (h2 : decide (k < -3000) = true)
  | three (h : decide (n < -1022) = false) (h2 : decide (k < -3000) = false) (h3 : decide (3000 < k) = true)
  | four (h : decide (n < -1022) = false) (h2 : decide (k < -3000) = false) (h3 : decide (3000 < k) = false) (b1 : -3000 ≤ k) (b2 : k ≤ 3000) (h4 : decide (n + k < -1022) = true)
  | five (h : decide (n < -1022) = false) (h2 : decide (k < -3000) = false) (h3 : decide (3000 < k) = false) (b1 : -3000 ≤ k) (b2 : k ≤ 3000) (h4 : decide (n + k < -1022) = false) (h5 : decide (1023 < n + k) = true)
  | six (h : decide (n < -1022) = false) (h2 : decide (k < -3000) = false) (h3 : decide (3000 < k) = false) (b1 : -3000 ≤ k) (b2 : k ≤ 3000) (h4 : decide (n + k < -1022) = false) (h5 : decide (1023 < n + k) = false)
theorem lies2 (n k : Int) : Lies2 n k := by
  by_cases h1 : n < -1022
  · exact .one (by simpa using h1)
  by_cases h2 : k < -3000
  · exact .two (by simpa using h1) (by simpa using h2)
  by_cases h3 : 3000 < k
  · exact .three (by simpa using h1) (by simpa using h2) (by simpa using h3)
  by_cases h4 : n + k < -1022
  · exact .four (by simpa using h1) (by simpa using h2) (by simpa using h3) (by omega) (by omega) (by simpa using h4)
  by_cases h5 : 1023 < n + k
  · exact .five (by simpa using h1) (by simpa using h2) (by simpa using h3) (by omega) (by omega) (by simpa using h4) (by simpa using h5)
  · exact .six (by simpa using h1) (by simpa using h2) (by simpa using h3) (by omega) (by omega) (by simpa using h4) (by simpa using h5)
open Ieee Fl in
theorem Fl.scale_lt {a : Nat} {n by' : Int} (h : Fl.fexp a = some n) (hn : -1022 ≤ n) (hb : -3000 ≤ by') (hb2 : by' ≤ 3000) (hl : -1022 ≤ n + by') (hh : n + by' ≤ 1023) :
    Fl.fscale a by' < 18446744073709551616 := by
  obtain ⟨hna, h0, h1⟩ := fexp_some h
  obtain ⟨m, i, hr, hm, hm2, hi, hi2, hor, hfull⟩ := read_number h0 h1
  have hr52 : 4503599627370496 ≤ a % 9223372036854775808 ∧ n = i + 52 := by
    unfold fexp at h
    rw [if_neg (by omega)] at h
    split at h
    · rename_i hz
      exfalso
      have hn' := Option.some.inj h
      have : (a % 9223372036854775808).log2 < 52 := (Nat.log2_lt h0).2 (by simp; omega)
      omega
    · rename_i hz
      have hn' := Option.some.inj h
      have : 4503599627370496 ≤ a % 9223372036854775808 := by omega
      have := (hfull this).2
      constructor <;> omega
  obtain ⟨h52, rfl⟩ := hr52
  obtain ⟨hm3, _⟩ := hfull h52
  have c1 : clamp by' = by' := by unfold clamp; omega
  have ex : fscale a by' = D.word (a / 9223372036854775808 % 2 == 1) ((i + by' + 1074).toNat * 4503599627370496 + m) := by
    rw [fscale_eq _ hna, hr, c1]
    exact nearest_exact _ (by omega) hm2 (.inl hm3) (by omega)
  have hz : (i + by' + 1074).toNat ≤ 2045 := by omega
  have hR : (i + by' + 1074).toNat * 4503599627370496 + m < 9218868437227405312 := by
    generalize (i + by' + 1074).toNat = z at hz ⊢
    clear hi hi2 hor hfull hl hh hb hb2 hn c1 ex h hr h0 h1 hna h52
    omega
  obtain ⟨w1, w2, w3⟩ := word_mod (a / 9223372036854775808 % 2 == 1) (r := (i + by' + 1074).toNat * 4503599627370496 + m) (by omega)
  rw [ex]; exact w3
set_option maxHeartbeats 4000000 in
theorem scale_some (a : Nat) (k n : Int) (w : World) (ha : a < 18446744073709551616) (he : Env w) (hx : Fl.fexp a = some n) :
    Calls Tryz.prog 5 #[.int .u64 a, .int .i64 k] w fun e w' => e = .returned (.bool true) ∧ Below w.heap.size w w' := by
  have HW := Lib.hid (works_any w he)
  have HX := Lib.hid (fun w => exponent_any a w ha)
  unfold expv at HX
  rw [hx] at HX
  have hn := fexp_range hx
  have H1 := Lib.hid (fun w => scale_any a 1 w ha)
  have HA := Lib.hid (fun w => add_any a a w)
  rw [Fl.double_law hx] at H1
  generalize Fl.fadd a a = d at H1 HA
  obtain ⟨N, hN⟩ : ∃ N, w.heap.size = N := ⟨_, rfl⟩
  have HB0 : Hid (Below N w w) := Lib.hid (Below.refl _ _)
  have HN0 := Lib.hid (Nat.le_of_eq hN.symm)
  rw [hN]
  clear hN he
  rcases lies2 n k with h1 | ⟨h1, h2⟩ | ⟨h1, h2, h3⟩ | ⟨h1, h2, h3, b1, b2, h4⟩ | ⟨h1, h2, h3, b1, b2, h4, h5⟩ | ⟨h1, h2, h3, b1, b2, h4, h5⟩
  case six =>
    have h1' := of_decide_eq_false h1
    have h4' := of_decide_eq_false h4
    have h5' := of_decide_eq_false h5
    obtain ⟨e1, e2⟩ := Fl.scale_law (by' := k) ha hx (by omega) b1 b2 (by omega) (by omega)
    have hxl := Fl.scale_lt (by' := k) hx (by omega) b1 b2 (by omega) (by omega)
    have H2 := Lib.hid (fun w => scale_any a k w ha)
    have HX2 := Lib.hid (fun w => exponent_any (Fl.fscale a k) w hxl)
    unfold expv at HX2
    rw [e1] at HX2
    have H3 := Lib.hid (fun w => scale_any (Fl.fscale a k) (-k) w hxl)
    rw [e2] at H3
    generalize Fl.fscale a k = x at *
    clear e1 e2 hxl h1' h4' h5' hx ha
    go_enter Tryz.func5, Tryz.ntmps5
    go_wp2_with fail
    refine HW.out.mono ?_
    rintro e w1 ⟨rfl, hb⟩
    have HB1 := Lib.hid (HB0.out.trans (hb.mono HN0.out))
    have HN1 := Lib.hid (Nat.le_trans HN0.out hb.size)
    clear hb HB0 HN0 HW
    go_wp2_with fail
    refine (HX.out _).mono ?_
    rintro e w' ⟨rfl, rfl⟩
    go_wp2_with fail
    refine (H1.out _).mono ?_
    rintro e w' ⟨rfl, rfl⟩
    go_wp2_with fail
    refine (HA.out _).mono ?_
    rintro e w2 ⟨rfl, hb⟩
    have HB2 := Lib.hid (HB1.out.trans (hb.mono HN1.out))
    clear hb HB1 HN1
    go_wp2_with fail
    refine (H2.out _).mono ?_
    rintro e w' ⟨rfl, rfl⟩
    go_wp2_with fail
    refine (HX2.out _).mono ?_
    rintro e w' ⟨rfl, rfl⟩
    go_wp2_with fail
    refine (H3.out _).mono ?_
    rintro e w' ⟨rfl, rfl⟩
    go_wp2_with fail
    go_ret
    exact ⟨rfl, HB2.out⟩
  all_goals
    clear hx ha
    go_enter Tryz.func5, Tryz.ntmps5
    go_wp2_with fail
    refine HW.out.mono ?_
    rintro e w1 ⟨rfl, hb⟩
    have HB1 := Lib.hid (HB0.out.trans (hb.mono HN0.out))
    have HN1 := Lib.hid (Nat.le_trans HN0.out hb.size)
    clear hb HB0 HN0 HW
    go_wp2_with fail
    refine (HX.out _).mono ?_
    rintro e w' ⟨rfl, rfl⟩
    go_wp2_with fail
    refine (H1.out _).mono ?_
    rintro e w' ⟨rfl, rfl⟩
    go_wp2_with fail
    refine (HA.out _).mono ?_
    rintro e w2 ⟨rfl, hb⟩
    have HB2 := Lib.hid (HB1.out.trans (hb.mono HN1.out))
    clear hb HB1 HN1
    go_wp2_with fail
    go_ret
    exact ⟨rfl, HB2.out⟩
theorem scale_law_any (a : Nat) (k : Int) (w : World) (ha : a < 18446744073709551616) (he : Env w) :
    Calls Tryz.prog 5 #[.int .u64 a, .int .i64 k] w fun e w' => e = .returned (.bool true) ∧ Below w.heap.size w w' := by
  cases h : Fl.fexp a with
  | none => exact scale_none a k w ha he h
  | some n => exact scale_some a k n w ha he h
end Go.Proofs.YtgdohmaljbggjaaGreatDoor
