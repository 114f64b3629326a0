/- The contracts of Ldexp and Scale. Whole numbers of floats: the contracts of Trunc, Frexp and Fraction. The contract of Truncate, where the parts are told. Whole parts and fractions of floats: plain facts, and the contracts of Truncate and Fraction of every number. Large integers as floats: plain facts. The contract of bits.Len32 at this program's numbers (the kit's shelf, laid). -/
import Derived.Test.YtgdohmaljbggjaaGreatDoorBaal
import Derived.Test.YtgdohmaljbggjaaGreatDoorBaae
import Derived.Test.YtgdohmaljbggjaaGreatDoorBaac
namespace Go.Proofs.YtgdohmaljbggjaaGreatDoor.Fl
open Ieee
theorem fldexp_zero {a : Nat} (k : Int) (ha : a < 18446744073709551616) (hz : a % 9223372036854775808 = 0) : fldexp a k = a := by
  have hnn : isNan a = false := by simp [isNan]; omega
  unfold fldexp
  rw [hnn, if_neg (by decide)]
  have h1 := word_of ha
  rw [hz] at h1
  rw [read_eq, if_pos (by omega), hz]
  show D.nearest _ 0 (-1074 + k) = a
  unfold Format.nearest
  rw [if_pos rfl]
  exact h1
theorem fldexp_inf {a : Nat} (k : Int) (ha : a < 18446744073709551616) (hz : a % 9223372036854775808 = 9218868437227405312) : fldexp a k = a := by
  have hnn : isNan a = false := by simp [isNan]; omega
  have h := write_read ha hnn
  have hr : D.read a = .infinity (a / 9223372036854775808 % 2 == 1) := by rw [read_eq, if_neg (by omega), if_neg (by omega), if_pos hz]
  unfold fldexp
  rw [hnn, if_neg (by decide)]
  rw [hr] at h ⊢
  exact h
theorem order_zero_eq {a : Nat} (hz : a % 9223372036854775808 = 0) : D.order a 0 = some .eq := by
  rw [order_key (by simp [isNan]; omega) (by decide)]
  have h0 : val (D.read 0) = 0 := by rw [read_eq]; decide +kernel
  have h1 : val (D.read a) = 0 := by
    rw [read_eq, if_pos (by omega), hz]
    simp only [val]
    unfold Ieee.signed
    simp
  rw [h0, h1]; rfl
set_option exponentiation.threshold 3000 in
theorem order_inf {a : Nat} (ha : a % 9223372036854775808 = 9218868437227405312) : D.order a 0 = some .lt ∨ D.order a 0 = some .gt := by
  rw [order_key (by simp [isNan]; omega) (by decide)]
  have h0 : val (D.read 0) = 0 := by rw [read_eq]; decide +kernel
  rw [h0, read_eq, if_neg (by omega), if_neg (by omega), if_pos ha]
  simp only [val]
  have hp : (0 : Nat) < 2 ^ 2200 := Nat.pow_pos (by decide)
  unfold Ieee.signed
  rw [Nat.shiftLeft_eq, Nat.one_mul]
  generalize 2 ^ 2200 = v at hp
  cases (a / 9223372036854775808 % 2 == 1)
  · right; rw [cmp_gt (by simp; omega)]
  · left; rw [cmp_lt (by simp; omega)]
end Go.Proofs.YtgdohmaljbggjaaGreatDoor.Fl
namespace Go.Proofs.YtgdohmaljbggjaaGreatDoor
open Go.RowKit Go.Lib
theorem ldexp_inf (a : Nat) (k : Int) (w : World) (ha : a < 18446744073709551616) (hi : a % 9223372036854775808 = 9218868437227405312) :
    Calls Tryz.prog 105 #[.float .f64 a, .int .i64 k] w fun e w' => e = .returned (.float .f64 a) ∧ w = w' := by
  have HI := Lib.hid (fun w => isInf0_any a ha w)
  rw [decide_eq_true hi] at HI
  have ho : FloatKind.f64.format.order a 0 = some .lt ∨ FloatKind.f64.format.order a 0 = some .gt := Fl.order_inf hi
  clear hi
  rcases ho with ho | ho
  all_goals
    go_enter Tryz.func105, Tryz.ntmps105
    go_wp2_with fail
    refine (HI.out _).mono ?_
    rintro e w' ⟨rfl, rfl⟩
    go_wp2_with fail
    go_ret
    exact ⟨rfl, rfl⟩
theorem ldexp_nan (a : Nat) (k : Int) (w : World) (ha : a < 18446744073709551616) (hn : Fl.isNan a = true) :
    Calls Tryz.prog 105 #[.float .f64 a, .int .i64 k] w fun e w' => e = .returned (.float .f64 a) ∧ w = w' := by
  have hi : ¬ a % 9223372036854775808 = 9218868437227405312 := by simp [Fl.isNan] at hn; omega
  have HI := Lib.hid (fun w => isInf0_any a ha w)
  rw [decide_eq_false hi] at HI
  have HN := Lib.hid (fun w => isNaN_yes a hn w)
  have ho : FloatKind.f64.format.order a 0 = none := Fl.order_nan_left 0 hn
  clear hi hn
  go_enter Tryz.func105, Tryz.ntmps105
  go_wp2_with fail
  refine (HI.out _).mono ?_
  rintro e w' ⟨rfl, rfl⟩
  go_wp2_with fail
  refine (HN.out _).mono ?_
  rintro e w' ⟨rfl, rfl⟩
  go_wp2_with fail
  go_ret
  exact ⟨rfl, rfl⟩
theorem ldexp_all (a : Nat) (k : Int) (w : World) (ha : a < 18446744073709551616) (hk : -40000 ≤ k ∧ k ≤ 40000) :
    Calls Tryz.prog 105 #[.float .f64 a, .int .i64 k] w fun e w' => e = .returned (.float .f64 (Fl.fldexp a k)) ∧ w = w' := by
  by_cases h0 : a % 9223372036854775808 = 0
  · rw [Fl.fldexp_zero k ha h0]; exact ldexp_zero a k w (Fl.order_zero_eq h0)
  · rcases Nat.lt_trichotomy (a % 9223372036854775808) 9218868437227405312 with h | h | h
    · exact ldexp_num a k w ha h h0 hk
    · rw [Fl.fldexp_inf k ha h]; exact ldexp_inf a k w ha h
    · have hn : Fl.isNan a = true := by simp [Fl.isNan]; omega
      have e : Fl.fldexp a k = a := by unfold Fl.fldexp; rw [hn]; rfl
      rw [e]; exact ldexp_nan a k w ha hn
theorem Ldexp_any (a : Nat) (k : Int) (w : World) (ha : a < 18446744073709551616) (hk : -40000 ≤ k ∧ k ≤ 40000) :
    Calls Tryz.prog 57 #[.float .f64 a, .int .i64 k] w fun e w' => e = .returned (.float .f64 (Fl.fldexp a k)) ∧ w = w' := by
  have H := Lib.hid (fun w => ldexp_all a k w ha hk)
  generalize Fl.fldexp a k = r at *
  go_enter Tryz.func57, Tryz.ntmps57
  go_wp2_with fail
  refine (H.out _).mono ?_
  rintro e w' ⟨rfl, rfl⟩
  go_wp2_with fail
  go_ret
  exact ⟨rfl, rfl⟩
theorem scale_any (a : Nat) (n : Int) (w : World) (ha : a < 18446744073709551616) :
    Calls Tryz.prog 17 #[.int .u64 a, .int .i64 n] w fun e w' => e = .returned (.int .u64 (Fl.fscale a n)) ∧ w = w' := by
  obtain ⟨c, hc⟩ : ∃ c, Fl.clamp n = c := ⟨_, rfl⟩
  have hcb : -3000 ≤ c ∧ c ≤ 3000 := by rw [← hc]; unfold Fl.clamp; omega
  have hc2 : max (min n 3000) (-3000) = c := hc
  have H := Lib.hid (fun w => Ldexp_any a c w ha (by omega))
  have HV := Lib.hid (show Fl.fscale a n = Fl.told (Fl.fldexp a c) by unfold Fl.fscale; rw [hc])
  rw [HV.out]
  generalize Fl.fldexp a c = r at *
  clear hc
  go_enter Tryz.func17, Tryz.ntmps17
  go_wp2_with fail
  refine (of_any _ _).mono ?_
  rintro e w' ⟨rfl, rfl⟩
  go_wp2_with fail
  refine (H.out _).mono ?_
  rintro e w' ⟨rfl, rfl⟩
  go_wp2_with fail
  refine (told_any _ _).mono ?_
  rintro e w' ⟨rfl, rfl⟩
  go_wp2_with fail
  go_ret
  exact ⟨rfl, rfl⟩
end Go.Proofs.YtgdohmaljbggjaaGreatDoor
namespace Go.Proofs.YtgdohmaljbggjaaGreatDoor
open Go.RowKit Go.Lib
/-- A float without what is behind its point (of all but no number). -/
def Fl.ftrunc (a : Nat) : Nat := FloatKind.f64.encode ((FloatKind.f64.decode a).integral .zero)
theorem integral_good (name : String) (way : Ieee.Toward) (a : Nat) (h : Fl.isNan a = false) : Extern.MathFloor.toIntegral name way #[.float .f64 a] = pure (.float .f64 (FloatKind.f64.encode ((FloatKind.f64.decode a).integral way))) := by
  have hg : Fl.Good (FloatKind.f64.decode a) := Fl.good_read h
  change Extern.MathFloor.toIntegral.match_1 _ (FloatKind.f64.decode a) _ _ = _
  generalize FloatKind.f64.decode a = d at hg
  cases d with
  | number s m i => rfl
  | infinity s => rfl
  | nan s f => exact hg.elim
theorem run_trunc (a : Nat) (w : World) (h : Fl.isNan a = false) : (callFunc 115 #[.float .f64 a]).run Tryz.prog w = .ok (.value (.float .f64 (Fl.ftrunc a))) w := by
  rw [run_callFunc_extern Tryz.func115 (by kernel_rfl) (by kernel_rfl) (by kernel_rfl) (show Extern.find _ = some (Extern.MathFloor.toIntegral "math.archTrunc" .zero) by kernel_rfl), integral_good _ _ _ h]
  rfl
theorem trunc_num (a : Nat) (w : World) (h : Fl.isNan a = false) : Calls Tryz.prog 69 #[.float .f64 a] w fun e w' => e = .returned (.float .f64 (Fl.ftrunc a)) ∧ w = w' := by
  have h1 := fun w => run_trunc a w h
  generalize Fl.ftrunc a = b at *
  go_enter Tryz.func69, Tryz.ntmps69
  go_wp2_with fail
  go_ret
  exact ⟨rfl, rfl⟩
/-- A fraction and a power of two. -/
def FrexpIs (a f : Nat) (e : Int) : Prop := ∀ w, Calls Tryz.prog 68 #[.float .f64 a] w fun en w' => en = .returned (.tuple #[.float .f64 f, .int .i64 e]) ∧ w = w'
theorem frexp_zero (a : Nat) (hz : FloatKind.f64.format.order a 0 = some .eq) (w : World) : Calls Tryz.prog 114 #[.float .f64 a] w fun en w' => en = .returned (.tuple #[.float .f64 a, .int .i64 0]) ∧ w = w' := by
  go_enter Tryz.func114, Tryz.ntmps114
  go_wp2_with fail
  go_ret2
  exact ⟨rfl, rfl⟩
set_option maxHeartbeats 1000000 in
theorem frexp_core (a y m z : Nat) (s : Bool) (e0 : Int) (w : World) (ha : a < 18446744073709551616) (hf : a % 9223372036854775808 < 9218868437227405312) (hz : a % 9223372036854775808 ≠ 0)
    (hn : ∀ w, Calls Tryz.prog 148 #[.float .f64 a] w (NormOk y e0 w)) (hy : y = Fl.D.word s (z * 4503599627370496 + m)) (h1 : 4503599627370496 ≤ m) (h2 : m < 9007199254740992) (hzz : z ≤ 2045) (he0 : -52 ≤ e0 ∧ e0 ≤ 0) :
    Calls Tryz.prog 114 #[.float .f64 a] w fun en w' => en = .returned (.tuple #[.float .f64 (Fl.D.word s (1021 * 4503599627370496 + m)), .int .i64 (z - 1021 + e0)]) ∧ w = w' := by
  have HZ0 : FloatKind.f64.format.order a 0 = some .lt ∨ FloatKind.f64.format.order a 0 = some .gt := Fl.order_zero hf hz
  have HI := Lib.hid (fun w => isInf0_any a ha w)
  rw [decide_eq_false (by omega)] at HI
  have HNN := Lib.hid (fun w => isNaN_no a (by simp [Fl.isNan]; omega) w)
  have HN := Lib.hid hn
  have hb := run_bits
  have hfb := run_frombits
  obtain ⟨r1, r2, r3⟩ := Fl.read_full s h1 h2 hzz
  rw [← hy] at r2
  have hyw : y = (if s then 9223372036854775808 else 0) + (z * 4503599627370496 + m) := by rw [hy, Fl.word_is]
  obtain ⟨Z, hZ⟩ : ∃ Z, z + 1 = Z := ⟨_, rfl⟩
  have hex : bits .and .u64 ((y : Int) / 4503599627370496) 2047 = (Z : Int) := by
    rw [bits_exu y r2, ← hZ]
    congr 1
    rw [hyw]; cases s <;> simp <;> omega
  have HZ := Lib.hid (show (z : Int) - 1021 + e0 = e0 + ((Z : Int) - 1023 + 1) by omega)
  have hZb : 1 ≤ Z ∧ Z ≤ 2046 := by omega
  obtain ⟨X0, hX0⟩ : ∃ X0 : Nat, (if s then 9223372036854775808 else 0) + (m - 4503599627370496) = X0 := ⟨_, rfl⟩
  have hand : bits .andNot .u64 (y : Int) 9218868437227405312 = (X0 : Int) := by rw [hy, andnot_ex s h1 h2 hzz, hX0]
  obtain ⟨X1, hX1⟩ : ∃ X1, Fl.D.word s (1021 * 4503599627370496 + m) = X1 := ⟨_, rfl⟩
  have hor : bits .or .u64 (X0 : Int) 4602678819172646912 = (X1 : Int) := by
    have := or_ex s h1 h2 (z := 1021) (by omega)
    rw [hX0, hX1] at this
    exact this
  rw [hX1, HZ.out]
  clear hn hy r1 r3 hyw hZ hX0 hf hz h1 h2 hzz hX1 HZ
  rcases HZ0 with ho | ho
  all_goals
    go_enter Tryz.func114, Tryz.ntmps114
    go_wp2_with fail
    refine (HI.out _).mono ?_
    rintro e w' ⟨rfl, rfl⟩
    go_wp2_with fail
    refine (HNN.out _).mono ?_
    rintro e w' ⟨rfl, rfl⟩
    go_wp2_with fail
    refine (HN.out _).mono ?_
    rintro e w' ⟨rfl, rfl⟩
    go_wp2_with fail
    go_ret2
    exact ⟨rfl, rfl⟩
theorem frexp_wrap (a f : Nat) (e : Int) (h : ∀ w, Calls Tryz.prog 114 #[.float .f64 a] w fun en w' => en = .returned (.tuple #[.float .f64 f, .int .i64 e]) ∧ w = w') : FrexpIs a f e := by
  intro w
  go_enter Tryz.func68, Tryz.ntmps68
  go_wp2_with fail
  refine (h _).mono ?_
  rintro e w' ⟨rfl, rfl⟩
  go_wp2_with fail
  go_ret2
  exact ⟨rfl, rfl⟩
/-- What Fraction answers of a number, where the difference is a number. -/
theorem fraction_num (a d : Nat) (w : World) (ha : a < 18446744073709551616) (hf : a % 9223372036854775808 < 9218868437227405312) (hd : Fl.D.sub a (Fl.ftrunc a) = some d) :
    Calls Tryz.prog 29 #[.int .u64 a] w fun e w' => e = .returned (.int .u64 (if Fl.D.order d 0 = some .eq then 0 else Fl.told d : Nat)) ∧ w = w' := by
  have hnn : Fl.isNan a = false := by simp [Fl.isNan]; omega
  have HF := Lib.hid (fun w => finite_any a ha w)
  rw [decide_eq_true hf] at HF
  have HT := Lib.hid (fun w => trunc_num a w hnn)
  have h2 := fun (t : TypeId) (w : World) => run_float_arith (P := Tryz.prog) w .sub t .f64 a (Fl.ftrunc a) d hd
  generalize Fl.ftrunc a = b at *
  obtain ⟨o, ho⟩ : ∃ o, FloatKind.f64.format.order d 0 = o := ⟨_, rfl⟩
  have ho' : Fl.D.order d 0 = o := ho
  rw [ho']
  clear hf hnn hd ho'
  rcases o with _ | o
  · rw [if_neg (by simp)]
    go_enter Tryz.func29, Tryz.ntmps29
    go_wp2_with (first | (refine (of_any _ _).mono ?_; rintro e w' ⟨rfl, rfl⟩) | (refine (HF.out _).mono ?_; rintro e w' ⟨rfl, rfl⟩) | (refine (HT.out _).mono ?_; rintro e w' ⟨rfl, rfl⟩))
    refine (told_any _ _).mono ?_
    rintro e w' ⟨rfl, rfl⟩
    go_wp2_with fail
    go_ret
    exact ⟨rfl, rfl⟩
  · cases o
    · rw [if_neg (by simp)]
      go_enter Tryz.func29, Tryz.ntmps29
      go_wp2_with (first | (refine (of_any _ _).mono ?_; rintro e w' ⟨rfl, rfl⟩) | (refine (HF.out _).mono ?_; rintro e w' ⟨rfl, rfl⟩) | (refine (HT.out _).mono ?_; rintro e w' ⟨rfl, rfl⟩))
      refine (told_any _ _).mono ?_
      rintro e w' ⟨rfl, rfl⟩
      go_wp2_with fail
      go_ret
      exact ⟨rfl, rfl⟩
    · rw [if_pos rfl]
      go_enter Tryz.func29, Tryz.ntmps29
      go_wp2_with (first | (refine (of_any _ _).mono ?_; rintro e w' ⟨rfl, rfl⟩) | (refine (HF.out _).mono ?_; rintro e w' ⟨rfl, rfl⟩) | (refine (HT.out _).mono ?_; rintro e w' ⟨rfl, rfl⟩))
      go_ret
      exact ⟨rfl, rfl⟩
    · rw [if_neg (by simp)]
      go_enter Tryz.func29, Tryz.ntmps29
      go_wp2_with (first | (refine (of_any _ _).mono ?_; rintro e w' ⟨rfl, rfl⟩) | (refine (HF.out _).mono ?_; rintro e w' ⟨rfl, rfl⟩) | (refine (HT.out _).mono ?_; rintro e w' ⟨rfl, rfl⟩))
      refine (told_any _ _).mono ?_
      rintro e w' ⟨rfl, rfl⟩
      go_wp2_with fail
      go_ret
      exact ⟨rfl, rfl⟩
end Go.Proofs.YtgdohmaljbggjaaGreatDoor
namespace Go.Proofs.YtgdohmaljbggjaaGreatDoor
open Go.RowKit Go.Lib
theorem shift_lof (M : Int) (k : Nat) (w : World) (hM : M.natAbs ≤ 9223372036854775808) (hk : k ≤ 2000) :
    Calls Tryz.prog 63 #[lof M, .int .i64 k] w fun e w' => e = .returned (.tuple #[lof (M * 2 ^ k), .int .i64 0]) ∧ Below w.heap.size w w' := by
  have hp : (9223372036854775808 : Nat) * 2 ^ k < 256 ^ 4096 := by
    obtain ⟨n, hn⟩ : ∃ n, n = 4096 := ⟨_, rfl⟩
    have e1 : (256 : Nat) ^ n = 2 ^ (8 * n) := by rw [Nat.pow_mul]
    rw [← hn, e1, show (9223372036854775808 : Nat) = 2 ^ 63 by decide, ← Nat.pow_add]
    exact Nat.pow_lt_pow_right (by decide) (by omega)
  have hV : M.natAbs * 2 ^ k < 256 ^ 4096 := Nat.lt_of_le_of_lt (Nat.mul_le_mul_right _ hM) hp
  have hV0 : M.natAbs < 256 ^ 4096 := Nat.lt_of_le_of_lt (Nat.le_mul_of_pos_right _ (Nat.pow_pos (by decide))) hV
  have h := shiftl_any (decide (M < 0)) (Pl.dgs M.natAbs) k w (Pl.dgs_len hV0) (Pl.chk_dgs hV0 (by simp; omega)) (by omega) (by rw [Pl.shl_is]; exact Pl.dgs_len hV)
  refine h.mono ?_
  rintro e w' ⟨rfl, hB⟩
  refine ⟨?_, hB⟩
  rw [Pl.shl_is, Pl.dgs_empty]
  unfold lof
  have hpp : (0 : Int) < 2 ^ k := Int.pow_pos (by decide)
  have hppn : 0 < 2 ^ k := Nat.pow_pos (by decide)
  have e1 : (M * 2 ^ k).natAbs = M.natAbs * 2 ^ k := by rw [Int.natAbs_mul, Int.natAbs_pow]; rfl
  have e2 : decide (M * 2 ^ k < 0) = (decide (M < 0) && !decide (M.natAbs * 2 ^ k = 0)) := by
    by_cases hn : M < 0
    · rw [decide_eq_true (Int.mul_neg_of_neg_of_pos hn hpp), decide_eq_true hn, decide_eq_false (by intro h0; rcases Nat.mul_eq_zero.1 h0 with h0 | h0 <;> omega)]; rfl
    · rw [decide_eq_false (by have := Int.mul_nonneg (show 0 ≤ M by omega) (Int.le_of_lt hpp); omega), decide_eq_false hn]; rfl
  rw [e1, e2]
set_option maxHeartbeats 1000000 in
theorem truncate_num (a b f c : Nat) (e M t : Int) (w : World) (ha : a < 18446744073709551616) (hf : a % 9223372036854775808 < 9218868437227405312) (hb : Fl.ftrunc a = b) (hx : FrexpIs b f e) (hfl : f < 18446744073709551616) (hc : Fl.fldexp f 53 = c)
    (hM : floatToIntVal .f64 c .i64 = some M) (hMb : M.natAbs ≤ 9007199254740992) (heb : -2000 ≤ e ∧ e ≤ 2000) (ht1 : e < 53 → floatToIntVal .f64 b .i64 = some t ∧ t.natAbs ≤ 9007199254740992) (ht2 : 53 ≤ e → t = M * 2 ^ (e - 53).toNat) :
    Calls Tryz.prog 27 #[.int .u64 a] w fun en w' => en = .returned (.tuple #[lof t, .int .i64 0]) ∧ Below w.heap.size w w' := by
  have hnn : Fl.isNan a = false := by simp [Fl.isNan]; omega
  have HF := Lib.hid (fun w => finite_any a ha w)
  rw [decide_eq_true hf] at HF
  have HT := Lib.hid (fun w => trunc_num a w hnn)
  rw [hb] at HT
  have HX := Lib.hid hx
  have HL := Lib.hid (fun w => Ldexp_any f 53 w hfl (by omega))
  rw [hc] at HL
  have HC1 := fun w => run_convert_float_int (P := Tryz.prog) (w := w) 51 2 .f64 .i64 c M (by kernel_rfl) (by kernel_rfl) hM
  have HO := Lib.hid (fun w => ofn_any M w (by omega) (by omega))
  rw [ofv_is (by omega) (by omega)] at HO
  obtain ⟨k, hk⟩ : ∃ k : Nat, max (e - 53) 0 = k := ⟨(e - 53).toNat, by omega⟩
  have HS := Lib.hid (fun w => shift_lof M k w (by omega) (by omega))
  by_cases he : e < 53
  · obtain ⟨hq, htb⟩ := ht1 he
    have HC2 := fun w => run_convert_float_int (P := Tryz.prog) (w := w) 51 2 .f64 .i64 b t (by kernel_rfl) (by kernel_rfl) hq
    have HO2 := Lib.hid (fun w => ofn_any t w (by omega) (by omega))
    rw [ofv_is (by omega) (by omega)] at HO2
    clear ht1 ht2 hq hM hc hx hb hf
    go_enter Tryz.func27, Tryz.ntmps27
    go_wp2_with (first | (refine (of_any _ _).mono ?_; rintro e w' ⟨rfl, rfl⟩) | (refine (HF.out _).mono ?_; rintro e w' ⟨rfl, rfl⟩) | (refine (HT.out _).mono ?_; rintro e w' ⟨rfl, rfl⟩) | (refine (HX.out _).mono ?_; rintro e w' ⟨rfl, rfl⟩) | (refine (HL.out _).mono ?_; rintro e w' ⟨rfl, rfl⟩))
    refine (HO.out _).mono ?_
    rintro e' w2 ⟨rfl, hB⟩
    have hB2 : Below (w.heap.size + 1) (w.alloc (.cells #[.bool false, .string ⟨#[]⟩] 42)) w2 := hB.mono (by simp)
    have hR : w2.heap[w.heap.size]? = some (.cells #[.bool false, .string ⟨#[]⟩] 42) := by rw [hB2.block _ (by omega)]; exact heap_alloc_at _ _
    have HBW := Lib.hid (show Below w.heap.size w w2 from ((Below.refl _ _).alloc (Nat.le_refl _) _).trans (hB2.mono (by omega)))
    have HR := Lib.hid hR
    clear hB hB2 hR
    have HE := Lib.hid (show lof M = .agg #[.bool (decide (M < 0)), .string (bs (Pl.dgs M.natAbs))] from rfl)
    rw [HE.out]
    generalize decide (M < 0) = g at HE ⊢
    generalize bs (Pl.dgs M.natAbs) = S at HE ⊢
    go_wp2_with fail
    rw [← HE.out]
    refine (HS.out _).mono ?_
    rintro e' w3 ⟨rfl, hB3⟩
    have hB3' : Below w2.heap.size w2 w3 := ((Below.refl _ _).alloc (Nat.le_refl _) _).trans (hB3.mono (by simp))
    have HR3 := Lib.hid (show w3.heap[w.heap.size]? = some (.cells #[.bool false, .string ⟨#[]⟩] 42) by rw [hB3'.block _ (Array.getElem?_eq_some_iff.1 HR.out).1]; exact HR.out)
    have HBW3 := Lib.hid (HBW.out.trans (hB3'.mono HBW.out.size))
    clear HE hB3 hB3' HBW HR
    have HE := Lib.hid (show lof (M * 2 ^ k) = .agg #[.bool (decide (M * 2 ^ k < 0)), .string (bs (Pl.dgs (M * 2 ^ k).natAbs))] from rfl)
    rw [HE.out]
    generalize decide (M * 2 ^ k < 0) = g1 at HE ⊢
    generalize bs (Pl.dgs (M * 2 ^ k).natAbs) = S1 at HE ⊢
    go_wp2_with (first | (refine (HT.out _).mono ?_; rintro e w' ⟨rfl, rfl⟩))
    refine (HO2.out _).mono ?_
    rintro e' w4 ⟨rfl, hB4⟩
    obtain ⟨B3, hB3⟩ : ∃ B3, w3.heap.size = B3 := ⟨_, rfl⟩
    have hB4' : Below (B3 + 1) (w3.alloc (.cells #[.bool g1, .string S1] 42)) w4 := hB4.mono (by simp; omega)
    have hlt : w.heap.size < B3 := by rw [← hB3]; exact (Array.getElem?_eq_some_iff.1 HR3.out).1
    have h4a : w4.heap[B3]? = some (.cells #[.bool g1, .string S1] 42) := by rw [hB4'.block _ (by omega), ← hB3]; exact heap_alloc_at _ _
    have h4b : w4.heap[w.heap.size]? = some (.cells #[.bool false, .string ⟨#[]⟩] 42) := by rw [hB4'.block _ (by omega), ((Below.refl w3.heap.size w3).alloc (Nat.le_refl _) _).block _ (by omega)]; exact HR3.out
    have HBW4 := Lib.hid (show Below w.heap.size w w4 from HBW3.out.trans (((Below.refl _ _).alloc (Nat.le_of_lt (by omega)) _).trans (hB4'.mono (by omega))))
    have a0 : w4.cell? ⟨B3, 0, none⟩ = some (.bool g1) := by simp [World.cell?, h4a]
    have a1 : w4.cell? ⟨B3, 1, none⟩ = some (.string S1) := by simp [World.cell?, h4a]
    have af0 : w4.frozen? ⟨B3, 0, none⟩ = false := by simp [World.frozen?, h4a]
    have af1 : w4.frozen? ⟨B3, 1, none⟩ = false := by simp [World.frozen?, h4a]
    have r0 : w4.cell? ⟨w.heap.size, 0, none⟩ = some (.bool false) := by simp [World.cell?, h4b]
    have r1 : w4.cell? ⟨w.heap.size, 1, none⟩ = some (.string ⟨#[]⟩) := by simp [World.cell?, h4b]
    have f0 : w4.frozen? ⟨w.heap.size, 0, none⟩ = false := by simp [World.frozen?, h4b]
    have f1 : w4.frozen? ⟨w.heap.size, 1, none⟩ = false := by simp [World.frozen?, h4b]
    have hne : B3 ≠ w.heap.size := by omega
    have hne' : w.heap.size ≠ B3 := by omega
    clear HR3 HBW3 hB4 hB4' HE h4a h4b
    have HE := Lib.hid (show lof t = .agg #[.bool (decide (t < 0)), .string (bs (Pl.dgs t.natAbs))] from rfl)
    rw [HE.out]
    generalize decide (t < 0) = g2 at HE ⊢
    generalize bs (Pl.dgs t.natAbs) = S2 at HE ⊢
    go_wp2_with fail
    obtain ⟨_, _, kB1⟩ := two_set w4 B3 (.bool g2) (.string S2) a0 a1
    generalize (w4.setCell ⟨B3, 0, none⟩ (.bool g2)).setCell ⟨B3, 1, none⟩ (.string S2) = w5 at kB1 ⊢
    have s0 : w5.cell? ⟨w.heap.size, 0, none⟩ = some (.bool false) := by rw [kB1.cell (p := ⟨w.heap.size, 0, none⟩) hlt]; exact r0
    have s1 : w5.cell? ⟨w.heap.size, 1, none⟩ = some (.string ⟨#[]⟩) := by rw [kB1.cell (p := ⟨w.heap.size, 1, none⟩) hlt]; exact r1
    obtain ⟨k0, k1, kB⟩ := two_set w5 w.heap.size (.bool g2) (.string S2) s0 s1
    refine bodyPost_ret (v := .tuple #[.agg #[.bool g2, .string S2], .int .i64 0]) (by simp [results, Tryz.results27, go_sem, k0, k1]) rfl ⟨by rw [HE.out], (HBW4.out.trans (kB1.mono (by omega))).trans kB⟩
  · have ht := ht2 (by omega)
    have hke : k = (e - 53).toNat := by omega
    rw [← hke] at ht
    rw [ht]
    clear ht1 ht2 ht hM hc hx hb hf hke
    go_enter Tryz.func27, Tryz.ntmps27
    go_wp2_with (first | (refine (of_any _ _).mono ?_; rintro e w' ⟨rfl, rfl⟩) | (refine (HF.out _).mono ?_; rintro e w' ⟨rfl, rfl⟩) | (refine (HT.out _).mono ?_; rintro e w' ⟨rfl, rfl⟩) | (refine (HX.out _).mono ?_; rintro e w' ⟨rfl, rfl⟩) | (refine (HL.out _).mono ?_; rintro e w' ⟨rfl, rfl⟩))
    refine (HO.out _).mono ?_
    rintro e' w2 ⟨rfl, hB⟩
    have hB2 : Below (w.heap.size + 1) (w.alloc (.cells #[.bool false, .string ⟨#[]⟩] 42)) w2 := hB.mono (by simp)
    have hR : w2.heap[w.heap.size]? = some (.cells #[.bool false, .string ⟨#[]⟩] 42) := by rw [hB2.block _ (by omega)]; exact heap_alloc_at _ _
    have HBW := Lib.hid (show Below w.heap.size w w2 from ((Below.refl _ _).alloc (Nat.le_refl _) _).trans (hB2.mono (by omega)))
    have HR := Lib.hid hR
    clear hB hB2 hR
    have HE := Lib.hid (show lof M = .agg #[.bool (decide (M < 0)), .string (bs (Pl.dgs M.natAbs))] from rfl)
    rw [HE.out]
    generalize decide (M < 0) = g at HE ⊢
    generalize bs (Pl.dgs M.natAbs) = S at HE ⊢
    go_wp2_with fail
    rw [← HE.out]
    refine (HS.out _).mono ?_
    rintro e' w3 ⟨rfl, hB3⟩
    have hB3' : Below w2.heap.size w2 w3 := ((Below.refl _ _).alloc (Nat.le_refl _) _).trans (hB3.mono (by simp))
    have HR3 := Lib.hid (show w3.heap[w.heap.size]? = some (.cells #[.bool false, .string ⟨#[]⟩] 42) by rw [hB3'.block _ (Array.getElem?_eq_some_iff.1 HR.out).1]; exact HR.out)
    have HBW3 := Lib.hid (HBW.out.trans (hB3'.mono HBW.out.size))
    clear HE hB3 hB3' HBW HR
    have HE := Lib.hid (show lof (M * 2 ^ k) = .agg #[.bool (decide (M * 2 ^ k < 0)), .string (bs (Pl.dgs (M * 2 ^ k).natAbs))] from rfl)
    rw [HE.out]
    have hR3 := HR3.out
    have r0 : w3.cell? ⟨w.heap.size, 0, none⟩ = some (.bool false) := by simp [World.cell?, hR3]
    have r1 : w3.cell? ⟨w.heap.size, 1, none⟩ = some (.string ⟨#[]⟩) := by simp [World.cell?, hR3]
    have f0 : w3.frozen? ⟨w.heap.size, 0, none⟩ = false := by simp [World.frozen?, hR3]
    have f1 : w3.frozen? ⟨w.heap.size, 1, none⟩ = false := by simp [World.frozen?, hR3]
    have hlt : w.heap.size < w3.heap.size := (Array.getElem?_eq_some_iff.1 hR3).1
    have hne : w3.heap.size ≠ w.heap.size := by omega
    have hne' : w.heap.size ≠ w3.heap.size := by omega
    clear hR3
    generalize decide (M * 2 ^ k < 0) = g1 at HE ⊢
    generalize bs (Pl.dgs (M * 2 ^ k).natAbs) = S1 at HE ⊢
    go_wp2_with fail
    obtain ⟨k0, k1, kB⟩ := two_set w3 w.heap.size (.bool g1) (.string S1) r0 r1
    generalize (w3.setCell ⟨w.heap.size, 0, none⟩ (.bool g1)).setCell ⟨w.heap.size, 1, none⟩ (.string S1) = w5 at k0 k1 kB ⊢
    have h5 : w3.heap.size ≤ w5.heap.size := kB.size
    have kC : Below w5.heap.size w5 (w5.alloc (.cells #[.bool g1, .string S1] 42)) := (Below.refl _ _).alloc (Nat.le_refl _) _
    have q0 : (w5.alloc (.cells #[.bool g1, .string S1] 42)).cell? ⟨w.heap.size, 0, none⟩ = some (.bool g1) := by rw [kC.cell (p := ⟨w.heap.size, 0, none⟩) (by show w.heap.size < _; omega)]; exact k0
    have q1 : (w5.alloc (.cells #[.bool g1, .string S1] 42)).cell? ⟨w.heap.size, 1, none⟩ = some (.string S1) := by rw [kC.cell (p := ⟨w.heap.size, 1, none⟩) (by show w.heap.size < _; omega)]; exact k1
    generalize w5.alloc (.cells #[.bool g1, .string S1] 42) = w6 at q0 q1 kC ⊢
    refine bodyPost_ret (v := .tuple #[.agg #[.bool g1, .string S1], .int .i64 0]) (by simp [results, Tryz.results27, go_sem, q0, q1]) rfl ⟨by rw [HE.out], (HBW3.out.trans kB).trans (kC.mono (by omega))⟩
end Go.Proofs.YtgdohmaljbggjaaGreatDoor
namespace Go.Proofs.YtgdohmaljbggjaaGreatDoor.Fl
open Ieee
theorem cut_zero (s : Bool) (n d : Nat) : Toward.zero.cut s n d = n / 2 ^ d := by
  unfold Toward.cut
  simp only [Nat.shiftLeft_eq, Nat.one_mul, Bool.toNat_false, Nat.add_zero]
  rcases Nat.lt_or_ge d (n.log2 + 2) with h | h
  · rw [Nat.min_eq_left (by omega)]
  · rw [Nat.min_eq_right h]
    have h1 : n < 2 ^ (n.log2 + 1) := Nat.lt_log2_self
    have h2 : 2 ^ (n.log2 + 1) ≤ 2 ^ (n.log2 + 2) := Nat.pow_le_pow_right (by omega) (by omega)
    have h3 : 2 ^ (n.log2 + 2) ≤ 2 ^ d := Nat.pow_le_pow_right (by omega) h
    rw [Nat.div_eq_of_lt (by omega), Nat.div_eq_of_lt (by omega)]
theorem whole_is (m : Nat) {i : Int} (hi : -1074 ≤ i) : m <<< i.toNat / 2 ^ (-i).toNat = m * 2 ^ (i + 1074).toNat / 2 ^ E74 := by
  have hE := E74_is
  rw [Nat.shiftLeft_eq]
  rcases Int.le_total 0 i with h | h
  · rw [show (-i).toNat = 0 by omega, Nat.pow_zero, Nat.div_one, show (i + 1074).toNat = i.toNat + E74 by omega, Nat.pow_add, ← Nat.mul_assoc, Nat.mul_div_cancel _ (Nat.two_pow_pos _)]
  · rw [show i.toNat = 0 by omega, Nat.pow_zero, Nat.mul_one]
    obtain ⟨u, v, h1, h2, h3⟩ : ∃ u v : Nat, (i + 1074).toNat = u ∧ (-i).toNat = v ∧ E74 = v + u := ⟨_, _, rfl, rfl, by omega⟩
    rw [h1, h2, h3, Nat.pow_add, Nat.mul_div_mul_right _ _ (Nat.two_pow_pos _)]
/-- The whole part of a number in units of the least float. -/
noncomputable def cutI (x : Int) : Int := if x < 0 then -((x.natAbs / 2 ^ E74 : Nat) : Int) else ((x.natAbs / 2 ^ E74 : Nat) : Int)
theorem cutI_abs (x : Int) : (cutI x).natAbs = x.natAbs / 2 ^ E74 := by
  unfold cutI
  generalize x.natAbs / 2 ^ E74 = q
  split <;> omega
theorem fldexp_word (s : Bool) {M : Nat} (h1 : M < 9007199254740992) (hM : 4503599627370496 ≤ M) : fldexp (D.word s (1021 * 4503599627370496 + M)) 53 = D.nearest s M 0 := by
  obtain ⟨v1, v2, v3⟩ := word_mod s (r := 1021 * 4503599627370496 + M) (by omega)
  have hnn : isNan (D.word s (1021 * 4503599627370496 + M)) = false := by unfold isNan; rw [v1]; exact decide_eq_false (by omega)
  unfold fldexp
  rw [hnn, if_neg (by decide), read_word s h1 (.inl hM) (by omega)]
  simp only [scaled, Format.write]
  rw [show ((1021 : Nat) : Int) - 1074 + 53 = 0 by decide]
theorem toInt_fin {a : Nat} (h : a % 9223372036854775808 < 9218868437227405312) : (D.read a).toInt .zero = some (cutI (V a)) := by
  obtain ⟨m, i, hr, _, hi, _, hv, hA⟩ := fin_read h
  rw [hr]
  simp only [Datum.toInt, Datum.integral, cut_zero, whole_is m hi]
  rw [signed_is, Nat.pow_zero, Nat.mul_one, ← hA]
  have hs := V_sign h
  unfold cutI
  congr 1
  generalize V a = x at *
  clear hr hv hA
  cases hsg : sg a
  · rw [hsg, if_neg (by simp)] at hs
    rw [if_neg (by simp), if_neg (by omega)]
  · rw [hsg, if_pos rfl] at hs
    rw [if_pos rfl]
    by_cases h0 : x < 0
    · rw [if_pos h0]
    · have : x = 0 := by omega
      subst this
      simp
theorem trunc_rung {a : Nat} (h : a % 9223372036854775808 < 9218868437227405312) : ftrunc a = D.word (sg a) (rung ((V a).natAbs / 2 ^ E74 * 2 ^ E74) 1) := by
  obtain ⟨m, i, hr, _, hi, _, hv, hA⟩ := fin_read h
  unfold ftrunc
  show D.write (Datum.integral .zero (D.read a)) = _
  rw [hr]
  simp only [Datum.integral, cut_zero, whole_is m hi, Format.write]
  have hE := E74_is
  rw [nearest_rung, hA, show ((0 : Int) + 1074).toNat = E74 by omega, show (-((0 : Int) + 1074)).toNat = 0 by omega, Nat.pow_zero]
theorem fits_of {a : Nat} {x : Int} (h : Is a x) : ∃ m u, x.natAbs = m * 2 ^ u ∧ m < 9007199254740992 ∧ u ≤ 2045 := by
  obtain ⟨m, i, hr, hm, hi, hi2, hv, hA⟩ := fin_read h.fin
  exact ⟨m, _, by rw [← is_V h, hA], hm, by omega⟩
theorem fits_whole {n m u : Nat} (h : n = m * 2 ^ u) (hm : m < 9007199254740992) (hu : u ≤ 2045) : Fits (n / 2 ^ E74 * 2 ^ E74) := by
  subst h
  have hE := E74_is
  rcases Nat.lt_or_ge u E74 with h | h
  · refine ⟨_, E74, rfl, ?_, by omega⟩
    obtain ⟨k, hk⟩ : ∃ k, E74 = k + u := ⟨E74 - u, by omega⟩
    rw [hk, Nat.pow_add, Nat.mul_div_mul_right _ _ (Nat.two_pow_pos _)]
    exact Nat.lt_of_le_of_lt (Nat.div_le_self _ _) hm
  · refine ⟨m, u, ?_, hm, hu⟩
    obtain ⟨k, hk⟩ : ∃ k, u = k + E74 := ⟨u - E74, by omega⟩
    rw [hk, Nat.pow_add, ← Nat.mul_assoc, Nat.mul_div_cancel _ (Nat.two_pow_pos _)]
theorem fits_rest {n m u : Nat} (h : n = m * 2 ^ u) (hm : m < 9007199254740992) (hu : u ≤ 2045) : Fits (n % 2 ^ E74) := by
  subst h
  have hE := E74_is
  rcases Nat.lt_or_ge u E74 with h | h
  · obtain ⟨k, hk⟩ : ∃ k, E74 = k + u := ⟨E74 - u, by omega⟩
    refine ⟨m % 2 ^ k, u, ?_, ?_, hu⟩
    · rw [hk, Nat.pow_add, Nat.mul_mod_mul_right]
    · exact Nat.lt_of_le_of_lt (Nat.mod_le _ _) hm
  · refine ⟨0, 0, ?_, by omega, by omega⟩
    obtain ⟨k, hk⟩ : ∃ k, u = k + E74 := ⟨u - E74, by omega⟩
    rw [hk, Nat.pow_add, ← Nat.mul_assoc, Nat.mul_mod_left]
theorem sign_of {a : Nat} {x : Int} (h : Is a x) : (sg a = true → x ≤ 0) ∧ (sg a = false → 0 ≤ x) := by
  have := V_sign h.fin
  rw [is_V h] at this
  constructor <;> intro h1 <;> rw [h1] at this <;> simp at this <;> omega
theorem is_trunc {a : Nat} {x : Int} (h : Is a x) : Is (ftrunc a) (cutI x * 2 ^ E74) := by
  rw [trunc_rung h.fin, is_V h]
  obtain ⟨m, u, h1, h2, h3⟩ := fits_of h
  refine (is_rung _ (by omega) (Nat.mul_one _).symm (fits_whole h1 h2 h3)).of_eq ?_
  obtain ⟨s1, s2⟩ := sign_of h
  unfold cutI
  push_cast
  generalize (2 : Int) ^ E74 = P
  cases hs : sg a
  · have := s2 hs
    rw [if_neg (by simp), if_neg (by omega)]
  · have := s1 hs
    rw [if_pos rfl]
    by_cases h0 : x < 0
    · rw [if_pos h0, Int.neg_mul]
    · have : x = 0 := by omega
      subst this
      simp
/-- What is left behind the point. -/
noncomputable def restI (x : Int) : Int := x - cutI x * 2 ^ E74
theorem restI_abs (x : Int) : (restI x).natAbs = x.natAbs % 2 ^ E74 ∧ (0 ≤ x → 0 ≤ restI x) ∧ (x ≤ 0 → restI x ≤ 0) := by
  unfold restI cutI
  have h1 := Nat.div_add_mod x.natAbs (2 ^ E74)
  have hp : (2 : Int) ^ E74 = ((2 ^ E74 : Nat) : Int) := by push_cast; rfl
  rw [hp]
  generalize (2 : Nat) ^ E74 = P at *
  generalize hq : x.natAbs / P = q at *
  generalize hr : x.natAbs % P = r at *
  have h2 : (P : Int) * q + r = x.natAbs := by rw [← h1]; push_cast; rfl
  have h3 : (q : Int) * P = P * q := Int.mul_comm _ _
  split
  · rw [Int.neg_mul]
    refine ⟨?_, ?_, ?_⟩ <;> omega
  · refine ⟨?_, ?_, ?_⟩ <;> omega
/-- What Fraction answers of a number. -/
def ffr (a : Nat) : Nat := match D.sub a (ftrunc a) with
  | some d => if D.order d 0 = some .eq then 0 else told d
  | none => none'
theorem is_zero : Is 0 0 := ⟨by omega, by omega, by decide +kernel⟩
theorem order_eq_zero {d : Nat} {x : Int} (h : Is d x) : D.order d 0 = some .eq ↔ x = 0 := by
  rw [order_key h.nan is_zero.nan, h.val, is_zero.val]
  constructor
  · intro e
    have := Option.some.inj e
    rcases Int.lt_trichotomy x 0 with h1 | h1 | h1
    · rw [cmp_lt h1] at this; cases this
    · exact h1
    · rw [cmp_gt h1] at this; cases this
  · intro e; rw [e, cmp_eq]
theorem sub_trunc {a : Nat} {x : Int} (h : Is a x) : ∃ d, D.sub a (ftrunc a) = some d ∧ Is d (restI x) := by
  have ht := is_trunc h
  refine ⟨_, fsub_rung h.fin ht.fin, ?_⟩
  rw [is_V h, is_V ht]
  obtain ⟨m, u, h1, h2, h3⟩ := fits_of h
  have hf := fits_rest h1 h2 h3
  rw [← (restI_abs x).1] at hf
  change Is (D.word (if restI x = 0 then _ else decide (restI x < 0)) (rung (restI x).natAbs 1)) (restI x)
  refine (is_rung _ (by omega) (Nat.mul_one _).symm hf).of_eq ?_
  generalize restI x = y
  by_cases h0 : y = 0
  · subst h0; simp
  · rw [if_neg h0]
    by_cases h1 : y < 0
    · rw [decide_eq_true h1, if_pos rfl]; omega
    · rw [decide_eq_false h1, if_neg (by simp)]; omega
theorem is_ffr {a : Nat} {x : Int} (h : Is a x) : Is (ffr a) (restI x) := by
  obtain ⟨d, h1, h2⟩ := sub_trunc h
  unfold ffr
  rw [h1]
  simp only
  by_cases h0 : D.order d 0 = some .eq
  · rw [if_pos h0, (order_eq_zero h2).1 h0]; exact is_zero
  · rw [if_neg h0]
    unfold told; rw [h2.nan]; exact h2
theorem ffr_is {a d : Nat} (h1 : D.sub a (ftrunc a) = some d) : ffr a = if D.order d 0 = some .eq then 0 else told d := by unfold ffr; rw [h1]
end Go.Proofs.YtgdohmaljbggjaaGreatDoor.Fl
namespace Go.Proofs.YtgdohmaljbggjaaGreatDoor
open Go.RowKit Go.Lib
theorem fraction_fin (a : Nat) (x : Int) (w : World) (h : Fl.Is a x) : Calls Tryz.prog 29 #[.int .u64 a] w fun e w' => e = .returned (.int .u64 (Fl.ffr a : Nat)) ∧ w = w' := by
  obtain ⟨d, h1, h2⟩ := Fl.sub_trunc h
  rw [Fl.ffr_is h1]
  exact fraction_num a d w h.lt h.fin h1
theorem toVal {a : Nat} (h : a % 9223372036854775808 < 9218868437227405312) (hb : (Fl.cutI (Fl.V a)).natAbs ≤ 9007199254740992) : floatToIntVal .f64 a .i64 = some (Fl.cutI (Fl.V a)) := by
  unfold floatToIntVal
  have : (FloatKind.f64.decode a).toInt .zero = some (Fl.cutI (Fl.V a)) := Fl.toInt_fin h
  rw [this]
  simp only
  rw [if_pos]
  constructor
  · have : IntKind.i64.min = -9223372036854775808 := by decide
    omega
  · have : IntKind.i64.max = 9223372036854775807 := by decide
    omega
theorem cutI_mul (n : Int) : Fl.cutI (n * 2 ^ Fl.E74) = n := by
  unfold Fl.cutI
  have hp : (0 : Int) < 2 ^ Fl.E74 := Int.pow_pos (by decide)
  rw [Int.natAbs_mul, Int.natAbs_pow, show (2 : Int).natAbs = 2 from rfl, Nat.mul_div_cancel _ (Nat.two_pow_pos _)]
  generalize (2 : Int) ^ Fl.E74 = P at *
  by_cases h : n < 0
  · rw [if_pos (Int.mul_neg_of_neg_of_pos h hp)]; omega
  · have := Int.mul_nonneg (show 0 ≤ n by omega) (Int.le_of_lt hp)
    rw [if_neg (by omega)]; omega
theorem truncate_fin (a : Nat) (x : Int) (w : World) (h : Fl.Is a x) :
    Calls Tryz.prog 27 #[.int .u64 a] w fun en w' => en = .returned (.tuple #[lof (Fl.cutI x), .int .i64 0]) ∧ Below w.heap.size w w' := by
  have ht := Fl.is_trunc h
  have hE := Fl.E74_is
  have hcut : (Fl.cutI x).natAbs = x.natAbs / 2 ^ Fl.E74 := Fl.cutI_abs x
  by_cases h0 : Fl.cutI x = 0
  · have hz : Fl.ftrunc a % 9223372036854775808 = 0 := by
      rw [Fl.trunc_rung h.fin, Fl.is_V h]
      rw [h0] at hcut
      have : x.natAbs / 2 ^ Fl.E74 = 0 := by omega
      rw [this, Nat.zero_mul, Fl.rung_zero]
      exact (Fl.word_mod _ (by omega)).1
    have hx : FrexpIs (Fl.ftrunc a) (Fl.ftrunc a) 0 := frexp_wrap _ _ _ (fun w => frexp_zero _ (Fl.order_zero_eq hz) w)
    have hv : floatToIntVal .f64 (Fl.ftrunc a) .i64 = some (Fl.cutI x) := by
      have := toVal ht.fin (by rw [Fl.is_V ht, cutI_mul, h0]; decide)
      rw [Fl.is_V ht, cutI_mul] at this
      exact this
    exact truncate_num a (Fl.ftrunc a) (Fl.ftrunc a) (Fl.ftrunc a) 0 (Fl.cutI x) (Fl.cutI x) w h.lt h.fin rfl hx ht.lt (Fl.fldexp_zero _ ht.lt hz) hv (by omega) (by omega) (fun _ => ⟨hv, by omega⟩) (fun h => by omega)
  · obtain ⟨m, u, h1, h2, h3⟩ := Fl.fits_of h
    obtain ⟨m', u', k1, k2, k3⟩ := Fl.fits_whole h1 h2 h3
    obtain ⟨M, U, e, q1, q2, q3⟩ := Fl.full_of k2 k3
    rw [← e] at k1
    have hT : x.natAbs / 2 ^ Fl.E74 ≠ 0 := by omega
    have hM : 4503599627370496 ≤ M ∧ 1022 ≤ U := by
      have : 2 ^ Fl.E74 ≤ M * 2 ^ U := by
        rw [← k1]
        have := Nat.mul_le_mul_right (2 ^ Fl.E74) (show 1 ≤ x.natAbs / 2 ^ Fl.E74 by omega)
        omega
      have hU : 1022 ≤ U := by
        rcases Nat.lt_or_ge U 1022 with hl | hl
        · exfalso
          have a1 : M * 2 ^ U < 2 ^ 53 * 2 ^ U := Nat.mul_lt_mul_of_pos_right (by simpa using q1) (Nat.two_pow_pos _)
          rw [← Nat.pow_add] at a1
          have a2 : (2 : Nat) ^ (53 + U) ≤ 2 ^ Fl.E74 := Nat.pow_le_pow_right (by omega) (by omega)
          omega
        · exact hl
      constructor
      · rcases q2 with q2 | q2
        · exact q2
        · omega
      · exact hU
    obtain ⟨hM1, hU⟩ := hM
    have hb : Fl.ftrunc a = Fl.D.word (Fl.sg a) (U * 4503599627370496 + M) := by
      rw [Fl.trunc_rung h.fin, Fl.is_V h, k1, Fl.rung_fits_eq q1 q2 q3]
    obtain ⟨w1, w2, w3⟩ := Fl.word_mod (Fl.sg a) (r := U * 4503599627370496 + M) (by omega)
    have hn : ∀ w, Calls Tryz.prog 148 #[.float .f64 (Fl.ftrunc a)] w (NormOk (Fl.ftrunc a) 0 w) := fun w => norm_big _ ht.lt ht.fin (by rw [hb, w1]; omega) w
    have hx : FrexpIs (Fl.ftrunc a) (Fl.D.word (Fl.sg a) (1021 * 4503599627370496 + M)) (U - 1021) := frexp_wrap _ _ _ (fun w => by
      have := frexp_core (Fl.ftrunc a) (Fl.ftrunc a) M U (Fl.sg a) 0 w ht.lt ht.fin (by rw [hb, w1]; omega) hn hb hM1 q1 q3 (by omega)
      rw [Int.add_zero] at this
      exact this)
    obtain ⟨v1, v2, v3⟩ := Fl.word_mod (Fl.sg a) (r := 1021 * 4503599627370496 + M) (by omega)
    obtain ⟨sM, hsM⟩ : ∃ sM : Int, (if Fl.sg a then -(M : Int) else M) = sM := ⟨_, rfl⟩
    have hsMa : sM.natAbs = M := by rw [← hsM]; split <;> omega
    have hc : Fl.Is (Fl.fldexp (Fl.D.word (Fl.sg a) (1021 * 4503599627370496 + M)) 53) (sM * 2 ^ Fl.E74) := by
      rw [Fl.fldexp_word _ q1 hM1, Fl.nearest_rung, show ((0 : Int) + 1074).toNat = Fl.E74 by omega, show (-((0 : Int) + 1074)).toNat = 0 by omega, Nat.pow_zero]
      refine (Fl.is_rung _ (n := M * 2 ^ Fl.E74) (by omega) (Nat.mul_one _).symm ⟨_, _, rfl, q1, by omega⟩).of_eq ?_
      rw [← hsM]
      push_cast
      split
      · rw [Int.neg_mul]
      · rfl
    have hv : floatToIntVal .f64 (Fl.fldexp (Fl.D.word (Fl.sg a) (1021 * 4503599627370496 + M)) 53) .i64 = some sM := by
      have := toVal hc.fin (by rw [Fl.is_V hc, cutI_mul]; omega)
      rw [Fl.is_V hc, cutI_mul] at this
      exact this
    have hTM : x.natAbs / 2 ^ Fl.E74 * 2 ^ Fl.E74 = M * 2 ^ U := k1
    obtain ⟨s1, s2⟩ := Fl.sign_of h
    have hcs : Fl.cutI x = if Fl.sg a then -((x.natAbs / 2 ^ Fl.E74 : Nat) : Int) else ((x.natAbs / 2 ^ Fl.E74 : Nat) : Int) := by
      unfold Fl.cutI
      cases hs : Fl.sg a
      · have := s2 hs
        rw [if_neg (by omega), if_neg (by simp)]
      · have := s1 hs
        rw [if_pos rfl, if_pos (by
          rcases Int.lt_or_le x 0 with h | h
          · exact h
          · exfalso
            have : x = 0 := by omega
            subst this
            simp at hT)]
    refine truncate_num a (Fl.ftrunc a) _ _ (U - 1021) sM (Fl.cutI x) w h.lt h.fin rfl hx v3 rfl hv (by omega) (by omega) ?_ ?_
    · intro he
      have hUb : U < 1074 := by omega
      have hb2 : (Fl.cutI x).natAbs ≤ 9007199254740992 := by
        rw [hcut]
        have a1 : M * 2 ^ U ≤ 9007199254740992 * 2 ^ Fl.E74 := Nat.mul_le_mul (by omega) (Nat.pow_le_pow_right (by omega) (by omega))
        rw [← hTM] at a1
        exact Nat.le_of_mul_le_mul_right a1 (Nat.two_pow_pos _)
      refine ⟨?_, hb2⟩
      have := toVal ht.fin (by rw [Fl.is_V ht, cutI_mul]; exact hb2)
      rw [Fl.is_V ht, cutI_mul] at this
      exact this
    · intro he
      have hUk : ((U : Int) - 1021 - 53).toNat + Fl.E74 = U := by omega
      generalize ((U : Int) - 1021 - 53).toNat = k at hUk ⊢
      have hT2 : x.natAbs / 2 ^ Fl.E74 = M * 2 ^ k := by
        rw [← hUk, Nat.pow_add, ← Nat.mul_assoc] at hTM
        exact Nat.eq_of_mul_eq_mul_right (Nat.two_pow_pos _) hTM
      rw [hcs, hT2, ← hsM]
      push_cast
      split
      · rw [Int.neg_mul]
      · rfl
end Go.Proofs.YtgdohmaljbggjaaGreatDoor
namespace Go.Proofs.YtgdohmaljbggjaaGreatDoor.Fl
open Ieee
theorem rhe_le {p e : Nat} (h : p / 2 ^ e < 9007199254740992) : rhe p (2 ^ e) ≤ 9007199254740992 := by
  unfold rhe
  have : (decide (2 ^ e < 2 * (p % 2 ^ e)) || (2 ^ e == 2 * (p % 2 ^ e) && p / 2 ^ e % 2 == 1)).toNat ≤ 1 := by
    cases (decide (2 ^ e < 2 * (p % 2 ^ e)) || (2 ^ e == 2 * (p % 2 ^ e) && p / 2 ^ e % 2 == 1)) <;> simp
  omega
theorem rung_one (p : Nat) : rung p 1 = min ((p.log2 - 52) * 4503599627370496 + rhe p (2 ^ (p.log2 - 52))) 9218868437227405312 := by
  unfold rung; rw [Nat.div_one, Nat.one_mul]
theorem top_lt (p : Nat) : p / 2 ^ (p.log2 - 52) < 9007199254740992 := by
  rw [Nat.div_lt_iff_lt_mul (Nat.two_pow_pos _), show (9007199254740992 : Nat) = 2 ^ 53 from rfl, ← Nat.pow_add]
  exact Nat.lt_of_lt_of_le Nat.lt_log2_self (Nat.pow_le_pow_right (by decide) (by omega))
theorem top_ge {p : Nat} (h : 52 ≤ p.log2) : 4503599627370496 ≤ p / 2 ^ (p.log2 - 52) := by
  have h0 : p ≠ 0 := by intro h0; subst h0; simp at h
  rw [Nat.le_div_iff_mul_le (Nat.two_pow_pos _), show (4503599627370496 : Nat) = 2 ^ 52 from rfl, ← Nat.pow_add, show 52 + (p.log2 - 52) = p.log2 by omega]
  exact Nat.log2_self_le h0
/-- The rung of a number with few digits, wherever its point lies. -/
theorem rung_few {M U : Nat} (h1 : M ≤ 9007199254740992) (h2 : 4503599627370496 ≤ M) : rung (M * 2 ^ U) 1 = min (U * 4503599627370496 + M) 9218868437227405312 := by
  rw [rung_one]
  by_cases h : M = 9007199254740992
  · subst h
    have e : (9007199254740992 : Nat) * 2 ^ U = 2 ^ (U + 53) := by rw [show (9007199254740992 : Nat) = 2 ^ 53 from rfl, ← Nat.pow_add, Nat.add_comm]
    have hl : (9007199254740992 * 2 ^ U).log2 = U + 53 := by rw [e, Nat.log2_two_pow]
    rw [hl, rhe_cut, e, show U + 53 - 52 = U + 1 by omega, show U + 53 = 52 + (U + 1) by omega, Nat.pow_add]
    have := cutS_scale (2 ^ 52) 0 (U + 1)
    rw [Nat.zero_add] at this
    rw [this, cutS_zero, show (U + 1) * 4503599627370496 + 2 ^ 52 = U * 4503599627370496 + 9007199254740992 by omega]
  · have hM0 : M ≠ 0 := by omega
    have hl : (M * 2 ^ U).log2 = U + 52 := by
      rw [log2_mul_pow hM0, log2_between (l := 52) (by omega) (by omega)]; omega
    rw [hl, rhe_cut, show U + 52 - 52 = U by omega]
    have := cutS_scale M 0 U
    rw [Nat.zero_add] at this
    rw [this, cutS_zero]
theorem sum_shift {a b c d C : Nat} (k : Nat) (h : a * C + b = c * C + d) : (a + k) * C + b = (c + k) * C + d := by rw [Nat.add_mul, Nat.add_mul]; omega
/-- A number rounded and scaled is the scaled one, rounded. -/
theorem fldexp_int {m k : Nat} (h0 : m ≠ 0) (hm : m < 18446744073709551616) : fldexp (fint m) k = D.word false (rung (m * 2 ^ E74 * 2 ^ k) 1) := by
  have hE := E74_is
  have hp0 : m * 2 ^ E74 ≠ 0 := Nat.mul_ne_zero h0 (by have := Nat.two_pow_pos E74; omega)
  have hlog : (m * 2 ^ E74).log2 = m.log2 + E74 := log2_mul_pow h0 _
  have hml : m.log2 < 64 := (Nat.log2_lt h0).2 (by omega)
  obtain ⟨e, he⟩ : ∃ e, (m * 2 ^ E74).log2 - 52 = e := ⟨_, rfl⟩
  obtain ⟨M, hM⟩ : ∃ M, rhe (m * 2 ^ E74) (2 ^ e) = M := ⟨_, rfl⟩
  have hM1 : M ≤ 9007199254740992 := by
    rw [← hM]; apply rhe_le; rw [← he]; exact top_lt _
  have hM2 : 4503599627370496 ≤ M := by
    have := top_ge (p := m * 2 ^ E74) (by omega)
    rw [he] at this
    rw [← hM]; unfold rhe; omega
  have hr : rung (m * 2 ^ E74) 1 = e * 4503599627370496 + M := by
    rw [rung_one, he, hM]
    refine Nat.min_eq_left ?_
    omega
  have hr2 : rung (m * 2 ^ E74 * 2 ^ k) 1 = min ((e + k) * 4503599627370496 + M) 9218868437227405312 := by
    rw [rung_one, log2_mul_pow hp0, show (m * 2 ^ E74).log2 + k - 52 = e + k by omega, Nat.pow_add, rhe_scale _ _ (Nat.two_pow_pos _), hM]
  have hf : fint m = D.word false (e * 4503599627370496 + M) := by
    rw [fint_rung, Int.natAbs_natCast, hr, decide_eq_false (by omega)]
  -- the same with a full significand
  obtain ⟨M', e', q1, q2, q3, q4⟩ : ∃ M' e', M' < 9007199254740992 ∧ 4503599627370496 ≤ M' ∧ e' * 4503599627370496 + M' = e * 4503599627370496 + M ∧ e' ≤ 2045 := by
    by_cases h : M = 9007199254740992
    · exact ⟨4503599627370496, e + 1, by omega, by omega, by omega, by omega⟩
    · exact ⟨M, e, by omega, by omega, rfl, by omega⟩
  have q5 : (e' + k) * 4503599627370496 + M' = (e + k) * 4503599627370496 + M := sum_shift k q3
  rw [hf, ← q3]
  obtain ⟨v1, v2, v3⟩ := word_mod false (r := e' * 4503599627370496 + M') (by omega)
  have hnn : isNan (D.word false (e' * 4503599627370496 + M')) = false := by unfold isNan; rw [v1]; exact decide_eq_false (by omega)
  unfold fldexp
  rw [hnn, if_neg (by decide), read_word false q1 (.inl q2) q4]
  simp only [scaled, Format.write]
  rw [nearest_rung, show ((e' : Int) - 1074 + (k : Int) + 1074).toNat = e' + k by omega, show (-((e' : Int) - 1074 + (k : Int) + 1074)).toNat = 0 by omega, Nat.pow_zero, rung_few (by omega) q2, q5]
  exact congrArg _ hr2.symm
/-- What is looked at of a great number: its first digits, and one that stands for the others. -/
def heads (V k : Nat) : Nat := if V / 2 ^ k * 2 ^ k = V then V / 2 ^ k else V / 2 ^ k ||| 1
theorem or_one (T : Nat) : T ||| 1 = 2 * (T / 2) + 1 := by
  have h := Nat.two_pow_add_eq_or_of_lt (i := 1) (b := 1) (by decide) (T / 2)
  apply Nat.eq_of_testBit_eq
  intro i
  cases i with
  | zero => simp
  | succ i =>
    rw [Nat.testBit_or, Nat.testBit_succ, Nat.testBit_succ, Nat.testBit_succ, show (2 * (T / 2) + 1) / 2 = T / 2 by omega]
    simp
theorem heads_stick (V k : Nat) : heads V k = stick V (2 ^ (k + 1)) := by
  have hk : 0 < 2 ^ k := Nat.two_pow_pos k
  have h1 : V / 2 ^ (k + 1) = V / 2 ^ k / 2 := by rw [Nat.pow_succ, Nat.div_div_eq_div_mul]
  have h2 : V % 2 ^ (k + 1) = V % 2 ^ k + 2 ^ k * (V / 2 ^ k % 2) := by rw [Nat.pow_succ, Nat.mod_mul]
  have h3 := Nat.div_add_mod V (2 ^ k)
  have h4 : V / 2 ^ k * 2 ^ k = V ↔ V % 2 ^ k = 0 := by rw [Nat.mul_comm]; omega
  unfold heads stick
  rw [h1, h2]
  by_cases hr : V % 2 ^ k = 0
  · rw [if_pos (h4.2 hr), hr, Nat.zero_add]
    rcases Nat.mod_two_eq_zero_or_one (V / 2 ^ k) with h | h
    · rw [h, Nat.mul_zero]; simp; omega
    · rw [h, Nat.mul_one, show (2 ^ k != 0) = true by simp]; simp; omega
  · rw [if_neg (fun h => hr (h4.1 h)), or_one, show (V % 2 ^ k + 2 ^ k * (V / 2 ^ k % 2) != 0) = true by simp; omega]
    rfl
theorem heads_rung {V k : Nat} (h : k = 0 ∨ 18014398509481984 ≤ V / 2 ^ k) : rung (heads V k * 2 ^ E74 * 2 ^ k) 1 = rung (V * 2 ^ E74) 1 := by
  rcases h with h | h
  · subst h; unfold heads; simp
  · have h1 : 9007199254740992 ≤ V / 2 ^ (k + 1) := by rw [Nat.pow_succ, ← Nat.div_div_eq_div_mul]; omega
    have := rung_stick V (2 ^ (k + 1)) (E74 + k) 0 (Nat.two_pow_pos _) h1
    rw [Nat.pow_zero, Nat.mul_one, ← heads_stick, Nat.pow_add 2 E74 k, ← Nat.mul_assoc] at this
    rw [← this, show E74 + k + 1 = E74 + (k + 1) by omega, Nat.pow_add 2 E74 (k + 1), ← Nat.mul_assoc]
    have e := rung_scale (V * 2 ^ E74) 1 (Nat.two_pow_pos (k + 1))
    rw [Nat.one_mul] at e
    exact e
theorem rung_great {V : Nat} (h0 : V ≠ 0) (h : 1100 ≤ V.log2) : rung (V * 2 ^ E74) 1 = 9218868437227405312 := by
  have hE := E74_is
  rw [rung_one, log2_mul_pow h0]
  refine Nat.min_eq_right ?_
  omega
end Go.Proofs.YtgdohmaljbggjaaGreatDoor.Fl
namespace Go.Proofs
open Go.Shelf
def Tryz.lays128_ren : Go.Shelf.Ren := ⟨fun | 128 => 151 | n => n, fun | 3 => 3 | 4 => 4 | 5 => 5 | 9 => 9 | 46 => 69 | 51 => 90 | n => n, fun | n => n⟩
theorem Tryz.lays128 : Go.Proofs.Lays.n128 Tryz.prog Tryz.lays128_ren := {
  mixed := by kernel_rfl
  f128 := Tryz.func151.trans (congrArg some (by kernel_rfl))
  t3 := Tryz.underlying3
  a3 := Tryz.isAgg3
  z3 := Tryz.sizeOf3
  v3 := Tryz.zeroValue3
  t4 := Tryz.underlying4
  a4 := Tryz.isAgg4
  z4 := Tryz.sizeOf4
  v4 := Tryz.zeroValue4
  t5 := Tryz.underlying5
  a5 := Tryz.isAgg5
  z5 := Tryz.sizeOf5
  v5 := Tryz.zeroValue5
  t9 := Tryz.underlying9
  a9 := Tryz.isAgg9
  z9 := Tryz.sizeOf9
  v9 := Tryz.zeroValue9
  t46 := Tryz.underlying69
  a46 := Tryz.isAgg69
  z46 := Tryz.sizeOf69
  v46 := Tryz.zeroValue69
  t51 := Tryz.underlying90
  a51 := Tryz.isAgg90
  z51 := Tryz.sizeOf90
  v51 := Tryz.zeroValue90 }
theorem Tryz.bits_Len32 (x : Int) (w : World) (h0 : 0 ≤ x) (h1 : x ≤ 4294967295) :
    Calls Tryz.prog 151 #[.int .u32 x] w fun e w' => e = .returned (.int .i64 (Lib.bitLen x.toNat)) ∧ w' = w := Any.bits_Len32 Tryz.lays128 x w h0 h1
end Go.Proofs
