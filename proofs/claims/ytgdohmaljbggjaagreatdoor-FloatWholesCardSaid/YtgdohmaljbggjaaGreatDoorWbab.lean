/- The walk of FloatWholes. -/
import Derived.Test.YtgdohmaljbggjaaGreatDoorWbaa
import Derived.Test.YtgdohmaljbggjaaGreatDoorBaas
import Derived.Test.YtgdohmaljbggjaaGreatDoorBaat
namespace Go.Proofs.YtgdohmaljbggjaaGreatDoor
open Go.RowKit Go.Lib
theorem bs_self (s : ByteArray) : bs s.data.toList = s := rfl
/-- Both answer of a large number what it is as a float. -/
theorem large_both (neg : Bool) (s : ByteArray) (hs : s.size ≤ 100000000) : ∃ (v : Nat) (e : Int), (∀ w, Calls Tryz.prog 25 #[.agg #[.bool neg, .string s]] w fun x w' => x = .returned (.tuple #[.int .u64 v, .int .i64 e]) ∧ Below w.heap.size w w') ∧ (∀ w, Calls Tryz.prog 26 #[.agg #[.bool neg, .string s]] w fun x w' => x = .returned (.tuple #[.int .u64 v, .int .i64 e]) ∧ Below w.heap.size w w') := by
  have hl : s.data.toList.length ≤ 100000000 := hs
  have hv : (.agg #[.bool neg, .string s] : Value) = lv neg s.data.toList := rfl
  rw [hv]
  by_cases h : Pl.chk neg s.data.toList = 0
  · obtain ⟨h1, h2, h3⟩ := chk_zero h
    rw [h1]
    have ho : ∃ (v : Nat) (e : Int), oflv neg (Pl.le s.data.toList) = .tuple #[.int .u64 v, .int .i64 e] := by
      unfold oflv
      split
      · exact ⟨0, 101, rfl⟩
      · exact ⟨_, 0, rfl⟩
    obtain ⟨v, e, ho⟩ := ho
    refine ⟨v, e, fun w => ?_, fun w => ?_⟩
    · rw [← ho]; exact oflarge_any neg _ w h2 h3
    · rw [← ho]; exact roflarge_any neg _ w h2 h3
  · exact ⟨0, _, fun w => oflarge_bad neg _ w hl h, fun w => roflarge_bad neg _ w hl h⟩
theorem kind_big {a : Nat} (h : 1 < Fl.kind a) : 9218868437227405312 ≤ a % 9223372036854775808 := by
  rcases Fl.kind_cases a with h1 | h1 | h1 | h1
  · omega
  · omega
  · have := Fl.kind_inf h1; omega
  · have := Fl.kind_nan h1
    simp only [Fl.isNan, decide_eq_true_eq] at this
    omega
theorem trunc_both (a : Nat) (ha : a < 18446744073709551616) : ∃ (g : Bool) (S : ByteArray) (e : Int), (∀ w, Calls Tryz.prog 27 #[.int .u64 a] w fun x w' => x = .returned (.tuple #[.agg #[.bool g, .string S], .int .i64 e]) ∧ Below w.heap.size w w') ∧ (∀ w, Calls Tryz.prog 28 #[.int .u64 a] w fun x w' => x = .returned (.tuple #[.agg #[.bool g, .string S], .int .i64 e]) ∧ Below w.heap.size w w') := by
  rcases Nat.lt_or_ge 1 (Fl.kind a) with h | h
  · have hf := kind_big h
    exact ⟨false, ⟨#[]⟩, 101, fun w => truncate_none a w ha hf, fun w => rtrunc_none a w ha h⟩
  · obtain ⟨g, S, hg⟩ := lof_form (Fl.cutI (Fl.V a))
    refine ⟨g, S, 0, fun w => ?_, fun w => ?_⟩
    · rw [← hg]; exact truncate_fin a _ w ⟨ha, Fl.kind_fin h, rfl⟩
    · rw [← hg]; exact rtrunc_any a w ha h
theorem frac_both (a : Nat) (ha : a < 18446744073709551616) : ∃ (v : Nat), (∀ w, Calls Tryz.prog 29 #[.int .u64 a] w fun x w' => x = .returned (.int .u64 v) ∧ w = w') ∧ (∀ w, Calls Tryz.prog 30 #[.int .u64 a] w fun x w' => x = .returned (.int .u64 v) ∧ Below w.heap.size w w') := by
  rcases Nat.lt_or_ge 1 (Fl.kind a) with h | h
  · have hf := kind_big h
    exact ⟨9221120237041090560, fun w => fraction_none a w ha hf, fun w => rfrac_none a w ha h⟩
  · exact ⟨_, fun w => fraction_fin a _ w ⟨ha, Fl.kind_fin h, rfl⟩, fun w => rfrac_any a w ha h⟩
theorem expv_form (a : Nat) : ∃ (n e : Int), expv a = .tuple #[.int .i64 n, .int .i64 e] := by
  unfold expv
  cases Fl.fexp a with
  | none => exact ⟨0, 101, rfl⟩
  | some n => exact ⟨n, 0, rfl⟩
set_option maxRecDepth 100000 in
set_option maxHeartbeats 4000000 in
theorem wholes_any (a : Nat) (n : Int) (neg : Bool) (s : ByteArray) (k : Int) (w : World) (ha : a < 18446744073709551616) (h1 : -9223372036854775808 ≤ n) (h2 : n ≤ 9223372036854775807) (he : Env w) :
    Calls Tryz.prog 7 #[.int .u64 a, .int .i64 n, .agg #[.bool neg, .string s], .int .i64 k] w fun e w' => e = .returned (.bool true) ∧ Below w.heap.size w w' := by
  have HW := Lib.hid (fun w (h : Env w) => works_any w h)
  have HEV := Lib.hid (fun W (hb : Below w.heap.size w W) => he.below hb)
  by_cases hsz : 1048576 < s.size
  · have hb : decide (1048576 < (s.size : Int)) = true := decide_eq_true (by omega)
    have HW2 := Lib.hid (fun W (hb : Below w.heap.size w W) => HW.out W (HEV.out W hb))
    clear hsz he h1 h2
    go_enter Tryz.func7, Tryz.ntmps7
    go_wp2_with fail
    refine (HW2.out _ ((Below.refl w.heap.size w).alloc (Nat.le_refl _) _)).mono ?_
    rintro e w1 ⟨rfl, hb1⟩
    have L6 := Lib.hid ((Lg.new w neg s).below hb1)
    have HB1 := Lib.hid (chain ((Below.refl w.heap.size w).alloc (Nat.le_refl _) _) hb1)
    clear hb1
    obtain ⟨p0, p1, _, _⟩ := L6.out.cells
    go_wp2_with fail
    go_ret
    exact ⟨rfl, HB1.out⟩
  · have hb : decide (1048576 < (s.size : Int)) = false := decide_eq_false (by omega)
    have HW2 := Lib.hid (fun W (hb : Below w.heap.size w W) => HW.out W (HEV.out W hb))
    have S1 := Lib.hid (fun w => ofsmall_any n w)
    have S2 := Lib.hid (fun w => rofsmall_any n w h1 h2)
    obtain ⟨vl, el, hl1, hl2⟩ := large_both neg s (by omega)
    obtain ⟨gt, st, et, ht1, ht2⟩ := trunc_both a ha
    obtain ⟨vf, hf1, hf2⟩ := frac_both a ha
    obtain ⟨nx, ex, hx⟩ := expv_form a
    have X1 := Lib.hid (fun w => exponent_any a w ha)
    have X2 := Lib.hid (fun w => rexp_any a w ha)
    rw [hx] at X1 X2
    have C1 := Lib.hid (fun w => scale_any a k w ha)
    have C2 := Lib.hid (fun w => rscale_any a k w ha)
    unfold U64Ok at *
    have L1 := Lib.hid hl1
    have L2 := Lib.hid hl2
    have T1 := Lib.hid ht1
    have T2 := Lib.hid ht2
    have F1 := Lib.hid hf1
    have F2 := Lib.hid hf2
    have HEQ := run_large_eq gt gt st st
    generalize Fl.fint n = vn at *
    generalize Fl.fscale a k = vs at *
    clear hl1 hl2 ht1 ht2 hf1 hf2 hx hsz he h1 h2 ha
    have e1 : ((vn : Int) == (vn : Int)) = true := by simp
    have e2 : ((vl : Int) == (vl : Int)) = true := by simp
    have e3 : ((vf : Int) == (vf : Int)) = true := by simp
    have e4 : ((vs : Int) == (vs : Int)) = true := by simp
    have e5 : (el == el) = true := by simp
    have e6 : (et == et) = true := by simp
    have e7 : (ex == ex) = true := by simp
    have e8 : (nx == nx) = true := by simp
    have e9 : (gt == gt) = true := by simp
    have e10 : (st.toList == st.toList) = true := by simp
    go_enter Tryz.func7, Tryz.ntmps7
    go_wp2_with fail
    refine (HW2.out _ ((Below.refl w.heap.size w).alloc (Nat.le_refl _) _)).mono ?_
    rintro e w1 ⟨rfl, hb1⟩
    have L6 := Lib.hid ((Lg.new w neg s).below hb1)
    have HB1 := Lib.hid (chain ((Below.refl w.heap.size w).alloc (Nat.le_refl _) _) hb1)
    clear hb1 HW HW2 HEV
    obtain ⟨p0, p1, _, _⟩ := L6.out.cells
    go_wp2_with fail
    refine (S1.out _).mono ?_
    rintro e w' ⟨rfl, rfl⟩
    go_wp2_with fail
    refine (S2.out _).mono ?_
    rintro e w2 ⟨rfl, hb1⟩
    have L6b := Lib.hid (L6.out.below hb1)
    have HB2 := Lib.hid (chain HB1.out hb1)
    clear hb1 p0 p1
    obtain ⟨p0, p1, _, _⟩ := L6b.out.cells
    go_wp2_with fail
    refine (L1.out _).mono ?_
    rintro e w3 ⟨rfl, hb1⟩
    have L6c := Lib.hid (L6b.out.below hb1)
    have HB3 := Lib.hid (chain HB2.out hb1)
    clear hb1 p0 p1
    obtain ⟨p0, p1, _, _⟩ := L6c.out.cells
    go_wp2_with fail
    refine (L2.out _).mono ?_
    rintro e w4 ⟨rfl, hb1⟩
    have HB4 := Lib.hid (chain HB3.out hb1)
    clear hb1 p0 p1
    go_wp2_with fail
    refine (T1.out _).mono ?_
    rintro e w5 ⟨rfl, hb1⟩
    have hb2 := chain HB4.out hb1
    have L16 := Lib.hid (Lg.new w5 gt st)
    have HB5 := Lib.hid (hb2.alloc hb2.size (.cells #[.bool gt, .string st] 42))
    clear hb1 hb2
    go_wp2_with fail
    refine (T2.out _).mono ?_
    rintro e w6 ⟨rfl, hb1⟩
    have L16b := Lib.hid ((L16.out.below hb1).alloc (.cells #[.bool gt, .string st] 42))
    have L17 := Lib.hid (Lg.new w6 gt st)
    have hb2 := chain HB5.out hb1
    have HB6 := Lib.hid (hb2.alloc hb2.size (.cells #[.bool gt, .string st] 42))
    clear hb1 hb2
    obtain ⟨p0, p1, _, _⟩ := L16b.out.cells
    go_wp2_with fail
    refine (F1.out _).mono ?_
    rintro e w' ⟨rfl, rfl⟩
    go_wp2_with fail
    refine (F2.out _).mono ?_
    rintro e w7 ⟨rfl, hb1⟩
    have HB7 := Lib.hid (chain HB6.out hb1)
    clear hb1 p0 p1
    go_wp2_with fail
    refine (X1.out _).mono ?_
    rintro e w' ⟨rfl, rfl⟩
    go_wp2_with fail
    refine (X2.out _).mono ?_
    rintro e w' ⟨rfl, rfl⟩
    go_wp2_with fail
    refine (C1.out _).mono ?_
    rintro e w' ⟨rfl, rfl⟩
    go_wp2_with fail
    refine (C2.out _).mono ?_
    rintro e w8 ⟨rfl, hb1⟩
    go_wp2_with fail
    go_ret
    exact ⟨rfl, chain HB7.out hb1⟩
end Go.Proofs.YtgdohmaljbggjaaGreatDoor
