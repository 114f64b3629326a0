/- The walk of FloatOrder. -/
import Derived.Test.YtgdohmaljbggjaaGreatDoorOaan
namespace Go.Proofs.YtgdohmaljbggjaaGreatDoor
open Go.RowKit Go.Lib
theorem fcmp_range (a b : Nat) : -1 ≤ (Fl.fcmp a b).1 ∧ (Fl.fcmp a b).1 ≤ 1 := by
  unfold Fl.fcmp
  split <;> simp
/-- How the guards of FloatOrder's second test may lie. -/
inductive Lies (p r s : Bool) (x z u : Int) : Prop
  | one (h : p = false)
  | two (h : p = true) (h2 : r = false)
  | three (h : p = true) (h2 : r = true) (h3 : s = false)
  | four (h : p = true) (h2 : r = true) (h3 : s = true) (h4 : decide (x ≤ 0) = false)
  | five (h : p = true) (h2 : r = true) (h3 : s = true) (h4 : decide (x ≤ 0) = true) (h5 : decide (z ≤ 0) = false)
  | six (h : p = true) (h2 : r = true) (h3 : s = true) (h4 : decide (x ≤ 0) = true) (h5 : decide (z ≤ 0) = true) (h6 : decide (0 < u) = false)
theorem lies {p r s : Bool} {x z u : Int} (h : p = true → r = true → x ≤ 0 → z ≤ 0 → u ≤ 0) : Lies p r s x z u := by
  cases p
  · exact .one rfl
  cases r
  · exact .two rfl rfl
  cases s
  · exact .three rfl rfl rfl
  by_cases h1 : x ≤ 0
  · by_cases h2 : z ≤ 0
    · exact .six rfl rfl rfl (by simpa using h1) (by simpa using h2) (by have := h rfl rfl h1 h2; simp; omega)
    · exact .five rfl rfl rfl (by simpa using h1) (by simpa using h2)
  · exact .four rfl rfl rfl (by simpa using h1)
set_option maxHeartbeats 4000000 in
theorem order_any (a b c : Nat) (w : World) (ha : a < 18446744073709551616) (hb : b < 18446744073709551616) (he : Env w) :
    Calls Tryz.prog 6 #[.int .u64 a, .int .u64 b, .int .u64 c] w fun e w' => e = .returned (.bool true) ∧ Below w.heap.size w w' := by
  have HW := Lib.hid (works_any w he)
  have C1 := Lib.hid (fun w => cmp_any a b w)
  have C2 := Lib.hid (fun w => cmp_any b a w)
  have C3 := Lib.hid (fun w => cmp_any b c w)
  have C4 := Lib.hid (fun w => cmp_any a c w)
  have C5 := Lib.hid (fun w => cmp_any (Fl.fneg b) (Fl.fneg a) w)
  have hl : Lies (Fl.fcmp a b).2 (Fl.fcmp b c).2 (Fl.fcmp a c).2 (Fl.fcmp a b).1 (Fl.fcmp b c).1 (Fl.fcmp a c).1 := lies (fun h1 h2 k1 k2 => Fl.fcmp_trans h1 h2 k1 k2)
  have hp : (Fl.fcmp a b).2 = !(decide (9218868437227405312 < a % 9223372036854775808) || decide (9218868437227405312 < b % 9223372036854775808)) := Fl.fcmp_is a b
  rw [Fl.fcmp_turn] at C2
  rw [Fl.fcmp_neg ha hb] at C5
  have hr := fcmp_range a b
  obtain ⟨x, hx⟩ : ∃ x, (Fl.fcmp a b).1 = x := ⟨_, rfl⟩
  obtain ⟨p, hpd⟩ : ∃ p, (Fl.fcmp a b).2 = p := ⟨_, rfl⟩
  obtain ⟨z, hz⟩ : ∃ z, (Fl.fcmp b c).1 = z := ⟨_, rfl⟩
  obtain ⟨r, hrd⟩ : ∃ r, (Fl.fcmp b c).2 = r := ⟨_, rfl⟩
  obtain ⟨u, hu⟩ : ∃ u, (Fl.fcmp a c).1 = u := ⟨_, rfl⟩
  obtain ⟨s, hsd⟩ : ∃ s, (Fl.fcmp a c).2 = s := ⟨_, rfl⟩
  simp only [hx, hpd, hz, hrd, hu, hsd] at C1 C2 C3 C4 C5 hl hp hr
  clear hx hpd hz hrd hu hsd
  have A1 := Lib.hid (fun w => add_any a b w)
  have A2 := Lib.hid (fun w => add_any b a w)
  rw [Fl.fadd_comm b a] at A2
  have M1 := Lib.hid (fun w => mul_any a b w)
  have M2 := Lib.hid (fun w => mul_any b a w)
  rw [Fl.fmul_comm b a] at M2
  have S1 := Lib.hid (fun w => sub_any a b w)
  rw [Fl.fsub_eq a hb] at S1
  have N1 := Lib.hid (fun w => neg_any b w)
  have N2 := Lib.hid (fun w => neg_any a w)
  have A3 := Lib.hid (fun w => add_any a (Fl.fneg b) w)
  generalize Fl.fadd a (Fl.fneg b) = v3 at *
  generalize Fl.fadd a b = v1 at *
  generalize Fl.fmul a b = v2 at *
  generalize Fl.fneg a = fa at *
  generalize Fl.fneg b = fb at *
  obtain ⟨ma, hma⟩ : ∃ ma : Nat, a % 9223372036854775808 = ma := ⟨_, rfl⟩
  obtain ⟨mb, hmb⟩ : ∃ mb : Nat, b % 9223372036854775808 = mb := ⟨_, rfl⟩
  rw [hma, hmb] at hp
  have hma' : (a : Int) % 9223372036854775808 = (ma : Int) := by omega
  have hmb' : (b : Int) % 9223372036854775808 = (mb : Int) := by omega
  obtain ⟨ya, hya⟩ : ∃ ya, decide (9218868437227405312 < ma) = ya := ⟨_, rfl⟩
  obtain ⟨yb, hyb⟩ : ∃ yb, decide (9218868437227405312 < mb) = yb := ⟨_, rfl⟩
  rw [hya, hyb] at hp
  have hya' : decide (9218868437227405312 < (ma : Int)) = ya := by rw [← hya]; congr 1; exact propext ⟨fun h => by omega, fun h => by omega⟩
  have hyb' : decide (9218868437227405312 < (mb : Int)) = yb := by rw [← hyb]; congr 1; exact propext ⟨fun h => by omega, fun h => by omega⟩
  have hxx : (x != IntKind.i64.wrap (- -x)) = false := by rw [Int.neg_neg, IntKind.wrap_i64]; simp; omega
  have hxy : (x != x) = false := by simp
  have hxz : IntKind.i64.wrap (-(-x)) = x := by rw [Int.neg_neg, IntKind.wrap_i64]; omega
  clear hya hyb hma hmb he ha hb
  have hy : (p = false ∧ ya = true) ∨ (p = false ∧ ya = false ∧ yb = true) ∨ (p = true ∧ ya = false ∧ yb = false) := by
    cases ya <;> cases yb <;> simp at hp <;> simp [hp]
  clear hp
  obtain ⟨N, hN⟩ : ∃ N, w.heap.size = N := ⟨_, rfl⟩
  have HB0 : Hid (Below N w w) := Lib.hid (Below.refl _ _)
  have HN0 := Lib.hid (Nat.le_of_eq hN.symm)
  rw [hN]
  clear hN
  have hq : (p = false ∧ ya = true) ∨ (p = false ∧ ya = false ∧ yb = true) ∨ (p = true ∧ ya = false ∧ yb = false ∧ Lies true r s x z u) := by
    rcases hy with ⟨rfl, rfl⟩ | ⟨rfl, rfl, rfl⟩ | ⟨rfl, rfl, rfl⟩
    · exact .inl ⟨rfl, rfl⟩
    · exact .inr (.inl ⟨rfl, rfl, rfl⟩)
    · exact .inr (.inr ⟨rfl, rfl, rfl, hl⟩)
  clear hy hl
  rcases hq with ⟨rfl, rfl⟩ | ⟨rfl, rfl, rfl⟩ | ⟨rfl, rfl, rfl, h | ⟨_, rfl⟩ | ⟨_, rfl, rfl⟩ | ⟨_, rfl, rfl, h4⟩ | ⟨_, rfl, rfl, h4, h5⟩ | ⟨_, rfl, rfl, h4, h5, h6⟩⟩
  case inr.inr.one => cases h
  all_goals
    go_enter Tryz.func6, Tryz.ntmps6
    go_wp2_with fail
    refine HW.out.mono ?_
    rintro e w1 ⟨rfl, hb⟩
    have HB1 := Lib.hid (HB0.out.trans (hb.mono HN0.out))
    have HN1 := Lib.hid (Nat.le_trans HN0.out hb.size)
    clear hb HB0 HN0 HW
    go_wp2_with fail
    refine (C1.out _).mono ?_
    rintro e w' ⟨rfl, rfl⟩
    go_wp2_with fail
    refine (C2.out _).mono ?_
    rintro e w' ⟨rfl, rfl⟩
    go_wp2_with fail
    refine (C3.out _).mono ?_
    rintro e w' ⟨rfl, rfl⟩
    go_wp2_with fail
    refine (C4.out _).mono ?_
    rintro e w' ⟨rfl, rfl⟩
    go_wp2_with fail
    refine (N1.out _).mono ?_
    rintro e w' ⟨rfl, rfl⟩
    go_wp2_with fail
    refine (N2.out _).mono ?_
    rintro e w' ⟨rfl, rfl⟩
    go_wp2_with fail
    refine (C5.out _).mono ?_
    rintro e w' ⟨rfl, rfl⟩
    go_wp2_with fail
    refine (A1.out _).mono ?_
    rintro e w2 ⟨rfl, hb⟩
    have HB2 := Lib.hid (HB1.out.trans (hb.mono HN1.out))
    have HN2 := Lib.hid (Nat.le_trans HN1.out hb.size)
    clear hb HB1 HN1
    go_wp2_with fail
    refine (A2.out _).mono ?_
    rintro e w3 ⟨rfl, hb⟩
    have HB3 := Lib.hid (HB2.out.trans (hb.mono HN2.out))
    have HN3 := Lib.hid (Nat.le_trans HN2.out hb.size)
    clear hb HB2 HN2
    go_wp2_with fail
    refine (M1.out _).mono ?_
    rintro e w4 ⟨rfl, hb⟩
    have HB4 := Lib.hid (HB3.out.trans (hb.mono HN3.out))
    have HN4 := Lib.hid (Nat.le_trans HN3.out hb.size)
    clear hb HB3 HN3
    go_wp2_with fail
    refine (M2.out _).mono ?_
    rintro e w5 ⟨rfl, hb⟩
    have HB5 := Lib.hid (HB4.out.trans (hb.mono HN4.out))
    have HN5 := Lib.hid (Nat.le_trans HN4.out hb.size)
    clear hb HB4 HN4
    go_wp2_with fail
    refine (S1.out _).mono ?_
    rintro e w6 ⟨rfl, hb⟩
    have HB6 := Lib.hid (HB5.out.trans (hb.mono HN5.out))
    have HN6 := Lib.hid (Nat.le_trans HN5.out hb.size)
    clear hb HB5 HN5
    go_wp2_with fail
    refine (N1.out _).mono ?_
    rintro e w' ⟨rfl, rfl⟩
    go_wp2_with fail
    refine (A3.out _).mono ?_
    rintro e w7 ⟨rfl, hb⟩
    have HB7 := Lib.hid (HB6.out.trans (hb.mono HN6.out))
    have HN7 := Lib.hid (Nat.le_trans HN6.out hb.size)
    clear hb HB6 HN6
    go_wp2_with fail
    go_ret
    exact ⟨rfl, HB7.out⟩
end Go.Proofs.YtgdohmaljbggjaaGreatDoor
