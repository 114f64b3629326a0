/- Small contracts of floats: OfSmall, Sqrt; Truncate and Fraction of what is no number. -/
import Derived.Test.YtgdohmaljbggjaaGreatDoorBaas
import Derived.Test.YtgdohmaljbggjaaGreatDoorBaam
namespace Go.Proofs.YtgdohmaljbggjaaGreatDoor
open Go.RowKit Go.Lib
theorem fint_told (n : Int) : Fl.told (Fl.fint n) = Fl.fint n := by rw [Fl.fint_rung, Fl.told_word]
theorem ofsmall_any (n : Int) (w : World) : Calls Tryz.prog 23 #[.int .i64 n] w fun e w' => e = .returned (.int .u64 (Fl.fint n : Nat)) ∧ w = w' := by
  have HT := Lib.hid (fun w => told_any (floatOfInt .f64 n) w)
  have HF := Lib.hid (show Fl.told (floatOfInt .f64 n) = Fl.fint n from fint_told n)
  rw [HF.out] at HT
  generalize Fl.fint n = r at *
  clear HF
  go_enter Tryz.func23, Tryz.ntmps23
  go_wp2_with fail
  refine (HT.out _).mono ?_
  rintro e w' ⟨rfl, rfl⟩
  go_wp2_with fail
  go_ret
  exact ⟨rfl, rfl⟩
theorem sqrt_ext (a : Nat) : Extern.MathSqrt.sqrt #[.float .f64 a] = (match FloatKind.f64.format.sqrt a with
    | some r => pure (.float .f64 r)
    | none => do pure (.float .f64 (← choose (.nanBits .f64 a a)))) := rfl
theorem run_sqrt_some (a r : Nat) (w : World) (h : Fl.D.sqrt a = some r) : (callFunc 121 #[.float .f64 a]).run Tryz.prog w = .ok (.value (.float .f64 r)) w := by
  rw [run_callFunc_extern Tryz.func121 (by kernel_rfl) (by kernel_rfl) (by kernel_rfl) (show Extern.find _ = some Extern.MathSqrt.sqrt by kernel_rfl)]
  rw [sqrt_ext, show FloatKind.f64.format.sqrt a = some r from h]
  rfl
theorem run_sqrt_none (a : Nat) (w : World) (h : Fl.D.sqrt a = none) : ∃ q, Fl.isNan q = true ∧ (callFunc 121 #[.float .f64 a]).run Tryz.prog w = .ok (.value (.float .f64 q)) w.drew := by
  refine ⟨_, Fl.nan_cut a a (w.tape w.drawn (.nanBits .f64 a a)), ?_⟩
  rw [run_callFunc_extern Tryz.func121 (by kernel_rfl) (by kernel_rfl) (by kernel_rfl) (show Extern.find _ = some Extern.MathSqrt.sqrt by kernel_rfl)]
  rw [sqrt_ext, show FloatKind.f64.format.sqrt a = none from h]
  simp [Question.forced]
theorem sqrt_any (a : Nat) (w : World) : Calls Tryz.prog 35 #[.int .u64 a] w fun e w' => e = .returned (.int .u64 (Fl.fsqrt a : Nat)) ∧ Below w.heap.size w w' := by
  cases h : Fl.D.sqrt a with
  | some r =>
    have h2 := fun (w : World) => run_sqrt_some a r w h
    have HM := Lib.hid (fun w => show Calls Tryz.prog 77 #[.float .f64 a] w fun e w' => e = .returned (.float .f64 r) ∧ w = w' by
      go_enter Tryz.func77, Tryz.ntmps77
      go_wp2_with fail
      go_ret
      exact ⟨rfl, rfl⟩)
    have HT := Lib.hid (show Fl.told r = Fl.fsqrt a by unfold Fl.told Fl.fsqrt; rw [Fl.sqrt_not_nan h, h]; rfl)
    clear h h2
    go_enter Tryz.func35, Tryz.ntmps35
    go_wp2_with ((refine (of_any _ _).mono ?_; rintro e w' ⟨rfl, rfl⟩))
    refine (HM.out _).mono ?_
    rintro e w' ⟨rfl, rfl⟩
    go_wp2_with fail
    refine (told_any _ _).mono ?_
    rintro e w' ⟨rfl, rfl⟩
    go_wp2_with fail
    go_ret
    exact ⟨ret_int (by rw [HT.out]), Below.refl _ _⟩
  | none =>
    obtain ⟨q, hq, h2⟩ := run_sqrt_none a w h
    have HM := Lib.hid (show Calls Tryz.prog 77 #[.float .f64 a] w fun e w' => e = .returned (.float .f64 q) ∧ w' = w.drew by
      go_enter Tryz.func77, Tryz.ntmps77
      go_wp2_with fail
      go_ret
      exact ⟨rfl, rfl⟩)
    have HT := Lib.hid (show Fl.told q = Fl.fsqrt a by rw [Fl.told_nan hq]; unfold Fl.fsqrt; rw [h]; rfl)
    clear h h2 hq
    go_enter Tryz.func35, Tryz.ntmps35
    go_wp2_with ((refine (of_any _ _).mono ?_; rintro e w' ⟨rfl, rfl⟩))
    refine HM.out.mono ?_
    rintro e w' ⟨rfl, rfl⟩
    go_wp2_with fail
    refine (told_any _ _).mono ?_
    rintro e w' ⟨rfl, rfl⟩
    go_wp2_with fail
    go_ret
    exact ⟨ret_int (by rw [HT.out]), (Below.refl _ _).drew⟩
theorem truncate_none (a : Nat) (w : World) (ha : a < 18446744073709551616) (hf : 9218868437227405312 ≤ a % 9223372036854775808) :
    Calls Tryz.prog 27 #[.int .u64 a] w fun en w' => en = .returned (.tuple #[.agg #[.bool false, .string ⟨#[]⟩], .int .i64 101]) ∧ Below w.heap.size w w' := by
  have HF := Lib.hid (fun w => finite_any a ha w)
  rw [decide_eq_false (by omega)] at HF
  clear hf
  go_enter Tryz.func27, Tryz.ntmps27
  go_wp2_with (first | (refine (of_any _ _).mono ?_; rintro e w' ⟨rfl, rfl⟩) | (refine (HF.out _).mono ?_; rintro e w' ⟨rfl, rfl⟩))
  have hh : (w.alloc (.cells #[.bool false, .string ⟨#[]⟩] 42)).heap[w.heap.size]? = some (.cells #[.bool false, .string ⟨#[]⟩] 42) := heap_alloc_at _ _
  have hB : Below w.heap.size w (w.alloc (.cells #[.bool false, .string ⟨#[]⟩] 42)) := (Below.refl _ _).alloc (Nat.le_refl _) _
  generalize w.alloc (.cells #[.bool false, .string ⟨#[]⟩] 42) = w1 at hh hB ⊢
  have c0 : w1.cell? ⟨w.heap.size, 0, none⟩ = some (.bool false) := by simp [World.cell?, hh]
  have c1 : w1.cell? ⟨w.heap.size, 1, none⟩ = some (.string ⟨#[]⟩) := by simp [World.cell?, hh]
  refine bodyPost_ret (v := .tuple #[.agg #[.bool false, .string ⟨#[]⟩], .int .i64 101]) (by simp [results, Tryz.results27, go_sem, c0, c1]) rfl ⟨rfl, hB⟩
theorem fraction_none (a : Nat) (w : World) (ha : a < 18446744073709551616) (hf : 9218868437227405312 ≤ a % 9223372036854775808) :
    Calls Tryz.prog 29 #[.int .u64 a] w fun en w' => en = .returned (.int .u64 9221120237041090560) ∧ w = w' := by
  have HF := Lib.hid (fun w => finite_any a ha w)
  rw [decide_eq_false (by omega)] at HF
  clear hf
  go_enter Tryz.func29, Tryz.ntmps29
  go_wp2_with (first | (refine (of_any _ _).mono ?_; rintro e w' ⟨rfl, rfl⟩) | (refine (HF.out _).mono ?_; rintro e w' ⟨rfl, rfl⟩))
  go_ret
  exact ⟨rfl, rfl⟩
end Go.Proofs.YtgdohmaljbggjaaGreatDoor
