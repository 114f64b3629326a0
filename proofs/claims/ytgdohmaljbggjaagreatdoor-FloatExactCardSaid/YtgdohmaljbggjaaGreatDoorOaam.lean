/- The contracts of Ldexp and Scale. Whole numbers of floats: the contracts of Trunc, Frexp and Fraction. The contract of Truncate, where the parts are told. Texts that are no infinity: the contract of special at digits. A number divided by a power of ten: the contract of atof64exact at powers below nought; that of atof64 there, and where the power is too great. The contracts of ParseFloat and Read. The reading of a float's digits: the contract of readFloat at one form of texts. -/
import Derived.Test.YtgdohmaljbggjaaGreatDoorOaal
import Derived.Test.YtgdohmaljbggjaaGreatDoorOaak
import Derived.Test.YtgdohmaljbggjaaGreatDoorOaah
import Derived.Test.YtgdohmaljbggjaaGreatDoorOaac
import Derived.LaidEql
namespace Go.Proofs.YtgdohmaljbggjaaGreatDoor.Fl
open Ieee
theorem fldexp_zero {a : Nat} (k : Int) (ha : a < 18446744073709551616) (hz : a % 9223372036854775808 = 0) : fldexp a k = a := by
  have hnn : isNan a = false := by simp [isNan]; omega
  unfold fldexp
  rw [hnn, if_neg (by decide)]
  have h1 := word_of ha
  rw [hz] at h1
  rw [read_eq, if_pos (by omega), hz]
  show D.nearest _ 0 (-1074 + k) = a
  unfold Format.nearest
  rw [if_pos rfl]
  exact h1
theorem fldexp_inf {a : Nat} (k : Int) (ha : a < 18446744073709551616) (hz : a % 9223372036854775808 = 9218868437227405312) : fldexp a k = a := by
  have hnn : isNan a = false := by simp [isNan]; omega
  have h := write_read ha hnn
  have hr : D.read a = .infinity (a / 9223372036854775808 % 2 == 1) := by rw [read_eq, if_neg (by omega), if_neg (by omega), if_pos hz]
  unfold fldexp
  rw [hnn, if_neg (by decide)]
  rw [hr] at h ⊢
  exact h
theorem order_zero_eq {a : Nat} (hz : a % 9223372036854775808 = 0) : D.order a 0 = some .eq := by
  rw [order_key (by simp [isNan]; omega) (by decide)]
  have h0 : val (D.read 0) = 0 := by rw [read_eq]; decide +kernel
  have h1 : val (D.read a) = 0 := by
    rw [read_eq, if_pos (by omega), hz]
    simp only [val]
    unfold Ieee.signed
    simp
  rw [h0, h1]; rfl
set_option exponentiation.threshold 3000 in
theorem order_inf {a : Nat} (ha : a % 9223372036854775808 = 9218868437227405312) : D.order a 0 = some .lt ∨ D.order a 0 = some .gt := by
  rw [order_key (by simp [isNan]; omega) (by decide)]
  have h0 : val (D.read 0) = 0 := by rw [read_eq]; decide +kernel
  rw [h0, read_eq, if_neg (by omega), if_neg (by omega), if_pos ha]
  simp only [val]
  have hp : (0 : Nat) < 2 ^ 2200 := Nat.pow_pos (by decide)
  unfold Ieee.signed
  rw [Nat.shiftLeft_eq, Nat.one_mul]
  generalize 2 ^ 2200 = v at hp
  cases (a / 9223372036854775808 % 2 == 1)
  · right; rw [cmp_gt (by simp; omega)]
  · left; rw [cmp_lt (by simp; omega)]
end Go.Proofs.YtgdohmaljbggjaaGreatDoor.Fl
namespace Go.Proofs.YtgdohmaljbggjaaGreatDoor
open Go.RowKit Go.Lib
theorem ldexp_inf (a : Nat) (k : Int) (w : World) (ha : a < 18446744073709551616) (hi : a % 9223372036854775808 = 9218868437227405312) :
    Calls Tryz.prog 105 #[.float .f64 a, .int .i64 k] w fun e w' => e = .returned (.float .f64 a) ∧ w = w' := by
  have HI := Lib.hid (fun w => isInf0_any a ha w)
  rw [decide_eq_true hi] at HI
  have ho : FloatKind.f64.format.order a 0 = some .lt ∨ FloatKind.f64.format.order a 0 = some .gt := Fl.order_inf hi
  clear hi
  rcases ho with ho | ho
  all_goals
    go_enter Tryz.func105, Tryz.ntmps105
    go_wp2_with fail
    refine (HI.out _).mono ?_
    rintro e w' ⟨rfl, rfl⟩
    go_wp2_with fail
    go_ret
    exact ⟨rfl, rfl⟩
theorem ldexp_nan (a : Nat) (k : Int) (w : World) (ha : a < 18446744073709551616) (hn : Fl.isNan a = true) :
    Calls Tryz.prog 105 #[.float .f64 a, .int .i64 k] w fun e w' => e = .returned (.float .f64 a) ∧ w = w' := by
  have hi : ¬ a % 9223372036854775808 = 9218868437227405312 := by simp [Fl.isNan] at hn; omega
  have HI := Lib.hid (fun w => isInf0_any a ha w)
  rw [decide_eq_false hi] at HI
  have HN := Lib.hid (fun w => isNaN_yes a hn w)
  have ho : FloatKind.f64.format.order a 0 = none := Fl.order_nan_left 0 hn
  clear hi hn
  go_enter Tryz.func105, Tryz.ntmps105
  go_wp2_with fail
  refine (HI.out _).mono ?_
  rintro e w' ⟨rfl, rfl⟩
  go_wp2_with fail
  refine (HN.out _).mono ?_
  rintro e w' ⟨rfl, rfl⟩
  go_wp2_with fail
  go_ret
  exact ⟨rfl, rfl⟩
theorem ldexp_all (a : Nat) (k : Int) (w : World) (ha : a < 18446744073709551616) (hk : -6000 ≤ k ∧ k ≤ 6000) :
    Calls Tryz.prog 105 #[.float .f64 a, .int .i64 k] w fun e w' => e = .returned (.float .f64 (Fl.fldexp a k)) ∧ w = w' := by
  by_cases h0 : a % 9223372036854775808 = 0
  · rw [Fl.fldexp_zero k ha h0]; exact ldexp_zero a k w (Fl.order_zero_eq h0)
  · rcases Nat.lt_trichotomy (a % 9223372036854775808) 9218868437227405312 with h | h | h
    · exact ldexp_num a k w ha h h0 hk
    · rw [Fl.fldexp_inf k ha h]; exact ldexp_inf a k w ha h
    · have hn : Fl.isNan a = true := by simp [Fl.isNan]; omega
      have e : Fl.fldexp a k = a := by unfold Fl.fldexp; rw [hn]; rfl
      rw [e]; exact ldexp_nan a k w ha hn
theorem Ldexp_any (a : Nat) (k : Int) (w : World) (ha : a < 18446744073709551616) (hk : -6000 ≤ k ∧ k ≤ 6000) :
    Calls Tryz.prog 57 #[.float .f64 a, .int .i64 k] w fun e w' => e = .returned (.float .f64 (Fl.fldexp a k)) ∧ w = w' := by
  have H := Lib.hid (fun w => ldexp_all a k w ha hk)
  generalize Fl.fldexp a k = r at *
  go_enter Tryz.func57, Tryz.ntmps57
  go_wp2_with fail
  refine (H.out _).mono ?_
  rintro e w' ⟨rfl, rfl⟩
  go_wp2_with fail
  go_ret
  exact ⟨rfl, rfl⟩
theorem scale_any (a : Nat) (n : Int) (w : World) (ha : a < 18446744073709551616) :
    Calls Tryz.prog 17 #[.int .u64 a, .int .i64 n] w fun e w' => e = .returned (.int .u64 (Fl.fscale a n)) ∧ w = w' := by
  obtain ⟨c, hc⟩ : ∃ c, Fl.clamp n = c := ⟨_, rfl⟩
  have hcb : -3000 ≤ c ∧ c ≤ 3000 := by rw [← hc]; unfold Fl.clamp; omega
  have hc2 : max (min n 3000) (-3000) = c := hc
  have H := Lib.hid (fun w => Ldexp_any a c w ha (by omega))
  have HV := Lib.hid (show Fl.fscale a n = Fl.told (Fl.fldexp a c) by unfold Fl.fscale; rw [hc])
  rw [HV.out]
  generalize Fl.fldexp a c = r at *
  clear hc
  go_enter Tryz.func17, Tryz.ntmps17
  go_wp2_with fail
  refine (of_any _ _).mono ?_
  rintro e w' ⟨rfl, rfl⟩
  go_wp2_with fail
  refine (H.out _).mono ?_
  rintro e w' ⟨rfl, rfl⟩
  go_wp2_with fail
  refine (told_any _ _).mono ?_
  rintro e w' ⟨rfl, rfl⟩
  go_wp2_with fail
  go_ret
  exact ⟨rfl, rfl⟩
end Go.Proofs.YtgdohmaljbggjaaGreatDoor
namespace Go.Proofs.YtgdohmaljbggjaaGreatDoor
open Go.RowKit Go.Lib
/-- A float without what is behind its point (of all but no number). -/
def Fl.ftrunc (a : Nat) : Nat := FloatKind.f64.encode ((FloatKind.f64.decode a).integral .zero)
theorem integral_good (name : String) (way : Ieee.Toward) (a : Nat) (h : Fl.isNan a = false) : Extern.MathFloor.toIntegral name way #[.float .f64 a] = pure (.float .f64 (FloatKind.f64.encode ((FloatKind.f64.decode a).integral way))) := by
  have hg : Fl.Good (FloatKind.f64.decode a) := Fl.good_read h
  change Extern.MathFloor.toIntegral.match_1 _ (FloatKind.f64.decode a) _ _ = _
  generalize FloatKind.f64.decode a = d at hg
  cases d with
  | number s m i => rfl
  | infinity s => rfl
  | nan s f => exact hg.elim
theorem run_trunc (a : Nat) (w : World) (h : Fl.isNan a = false) : (callFunc 115 #[.float .f64 a]).run Tryz.prog w = .ok (.value (.float .f64 (Fl.ftrunc a))) w := by
  rw [run_callFunc_extern Tryz.func115 (by kernel_rfl) (by kernel_rfl) (by kernel_rfl) (show Extern.find _ = some (Extern.MathFloor.toIntegral "math.archTrunc" .zero) by kernel_rfl), integral_good _ _ _ h]
  rfl
theorem trunc_num (a : Nat) (w : World) (h : Fl.isNan a = false) : Calls Tryz.prog 69 #[.float .f64 a] w fun e w' => e = .returned (.float .f64 (Fl.ftrunc a)) ∧ w = w' := by
  have h1 := fun w => run_trunc a w h
  generalize Fl.ftrunc a = b at *
  go_enter Tryz.func69, Tryz.ntmps69
  go_wp2_with fail
  go_ret
  exact ⟨rfl, rfl⟩
/-- A fraction and a power of two. -/
def FrexpIs (a f : Nat) (e : Int) : Prop := ∀ w, Calls Tryz.prog 68 #[.float .f64 a] w fun en w' => en = .returned (.tuple #[.float .f64 f, .int .i64 e]) ∧ w = w'
theorem frexp_zero (a : Nat) (hz : FloatKind.f64.format.order a 0 = some .eq) (w : World) : Calls Tryz.prog 114 #[.float .f64 a] w fun en w' => en = .returned (.tuple #[.float .f64 a, .int .i64 0]) ∧ w = w' := by
  go_enter Tryz.func114, Tryz.ntmps114
  go_wp2_with fail
  go_ret2
  exact ⟨rfl, rfl⟩
set_option maxHeartbeats 1000000 in
theorem frexp_core (a y m z : Nat) (s : Bool) (e0 : Int) (w : World) (ha : a < 18446744073709551616) (hf : a % 9223372036854775808 < 9218868437227405312) (hz : a % 9223372036854775808 ≠ 0)
    (hn : ∀ w, Calls Tryz.prog 148 #[.float .f64 a] w (NormOk y e0 w)) (hy : y = Fl.D.word s (z * 4503599627370496 + m)) (h1 : 4503599627370496 ≤ m) (h2 : m < 9007199254740992) (hzz : z ≤ 2045) (he0 : -52 ≤ e0 ∧ e0 ≤ 0) :
    Calls Tryz.prog 114 #[.float .f64 a] w fun en w' => en = .returned (.tuple #[.float .f64 (Fl.D.word s (1021 * 4503599627370496 + m)), .int .i64 (z - 1021 + e0)]) ∧ w = w' := by
  have HZ0 : FloatKind.f64.format.order a 0 = some .lt ∨ FloatKind.f64.format.order a 0 = some .gt := Fl.order_zero hf hz
  have HI := Lib.hid (fun w => isInf0_any a ha w)
  rw [decide_eq_false (by omega)] at HI
  have HNN := Lib.hid (fun w => isNaN_no a (by simp [Fl.isNan]; omega) w)
  have HN := Lib.hid hn
  have hb := run_bits
  have hfb := run_frombits
  obtain ⟨r1, r2, r3⟩ := Fl.read_full s h1 h2 hzz
  rw [← hy] at r2
  have hyw : y = (if s then 9223372036854775808 else 0) + (z * 4503599627370496 + m) := by rw [hy, Fl.word_is]
  obtain ⟨Z, hZ⟩ : ∃ Z, z + 1 = Z := ⟨_, rfl⟩
  have hex : bits .and .u64 ((y : Int) / 4503599627370496) 2047 = (Z : Int) := by
    rw [bits_exu y r2, ← hZ]
    congr 1
    rw [hyw]; cases s <;> simp <;> omega
  have HZ := Lib.hid (show (z : Int) - 1021 + e0 = e0 + ((Z : Int) - 1023 + 1) by omega)
  have hZb : 1 ≤ Z ∧ Z ≤ 2046 := by omega
  obtain ⟨X0, hX0⟩ : ∃ X0 : Nat, (if s then 9223372036854775808 else 0) + (m - 4503599627370496) = X0 := ⟨_, rfl⟩
  have hand : bits .andNot .u64 (y : Int) 9218868437227405312 = (X0 : Int) := by rw [hy, andnot_ex s h1 h2 hzz, hX0]
  obtain ⟨X1, hX1⟩ : ∃ X1, Fl.D.word s (1021 * 4503599627370496 + m) = X1 := ⟨_, rfl⟩
  have hor : bits .or .u64 (X0 : Int) 4602678819172646912 = (X1 : Int) := by
    have := or_ex s h1 h2 (z := 1021) (by omega)
    rw [hX0, hX1] at this
    exact this
  rw [hX1, HZ.out]
  clear hn hy r1 r3 hyw hZ hX0 hf hz h1 h2 hzz hX1 HZ
  rcases HZ0 with ho | ho
  all_goals
    go_enter Tryz.func114, Tryz.ntmps114
    go_wp2_with fail
    refine (HI.out _).mono ?_
    rintro e w' ⟨rfl, rfl⟩
    go_wp2_with fail
    refine (HNN.out _).mono ?_
    rintro e w' ⟨rfl, rfl⟩
    go_wp2_with fail
    refine (HN.out _).mono ?_
    rintro e w' ⟨rfl, rfl⟩
    go_wp2_with fail
    go_ret2
    exact ⟨rfl, rfl⟩
theorem frexp_wrap (a f : Nat) (e : Int) (h : ∀ w, Calls Tryz.prog 114 #[.float .f64 a] w fun en w' => en = .returned (.tuple #[.float .f64 f, .int .i64 e]) ∧ w = w') : FrexpIs a f e := by
  intro w
  go_enter Tryz.func68, Tryz.ntmps68
  go_wp2_with fail
  refine (h _).mono ?_
  rintro e w' ⟨rfl, rfl⟩
  go_wp2_with fail
  go_ret2
  exact ⟨rfl, rfl⟩
/-- What Fraction answers of a number, where the difference is a number. -/
theorem fraction_num (a d : Nat) (w : World) (ha : a < 18446744073709551616) (hf : a % 9223372036854775808 < 9218868437227405312) (hd : Fl.D.sub a (Fl.ftrunc a) = some d) :
    Calls Tryz.prog 29 #[.int .u64 a] w fun e w' => e = .returned (.int .u64 (if Fl.D.order d 0 = some .eq then 0 else Fl.told d : Nat)) ∧ w = w' := by
  have hnn : Fl.isNan a = false := by simp [Fl.isNan]; omega
  have HF := Lib.hid (fun w => finite_any a ha w)
  rw [decide_eq_true hf] at HF
  have HT := Lib.hid (fun w => trunc_num a w hnn)
  have h2 := fun (t : TypeId) (w : World) => run_float_arith (P := Tryz.prog) w .sub t .f64 a (Fl.ftrunc a) d hd
  generalize Fl.ftrunc a = b at *
  obtain ⟨o, ho⟩ : ∃ o, FloatKind.f64.format.order d 0 = o := ⟨_, rfl⟩
  have ho' : Fl.D.order d 0 = o := ho
  rw [ho']
  clear hf hnn hd ho'
  rcases o with _ | o
  · rw [if_neg (by simp)]
    go_enter Tryz.func29, Tryz.ntmps29
    go_wp2_with (first | (refine (of_any _ _).mono ?_; rintro e w' ⟨rfl, rfl⟩) | (refine (HF.out _).mono ?_; rintro e w' ⟨rfl, rfl⟩) | (refine (HT.out _).mono ?_; rintro e w' ⟨rfl, rfl⟩))
    refine (told_any _ _).mono ?_
    rintro e w' ⟨rfl, rfl⟩
    go_wp2_with fail
    go_ret
    exact ⟨rfl, rfl⟩
  · cases o
    · rw [if_neg (by simp)]
      go_enter Tryz.func29, Tryz.ntmps29
      go_wp2_with (first | (refine (of_any _ _).mono ?_; rintro e w' ⟨rfl, rfl⟩) | (refine (HF.out _).mono ?_; rintro e w' ⟨rfl, rfl⟩) | (refine (HT.out _).mono ?_; rintro e w' ⟨rfl, rfl⟩))
      refine (told_any _ _).mono ?_
      rintro e w' ⟨rfl, rfl⟩
      go_wp2_with fail
      go_ret
      exact ⟨rfl, rfl⟩
    · rw [if_pos rfl]
      go_enter Tryz.func29, Tryz.ntmps29
      go_wp2_with (first | (refine (of_any _ _).mono ?_; rintro e w' ⟨rfl, rfl⟩) | (refine (HF.out _).mono ?_; rintro e w' ⟨rfl, rfl⟩) | (refine (HT.out _).mono ?_; rintro e w' ⟨rfl, rfl⟩))
      go_ret
      exact ⟨rfl, rfl⟩
    · rw [if_neg (by simp)]
      go_enter Tryz.func29, Tryz.ntmps29
      go_wp2_with (first | (refine (of_any _ _).mono ?_; rintro e w' ⟨rfl, rfl⟩) | (refine (HF.out _).mono ?_; rintro e w' ⟨rfl, rfl⟩) | (refine (HT.out _).mono ?_; rintro e w' ⟨rfl, rfl⟩))
      refine (told_any _ _).mono ?_
      rintro e w' ⟨rfl, rfl⟩
      go_wp2_with fail
      go_ret
      exact ⟨rfl, rfl⟩
end Go.Proofs.YtgdohmaljbggjaaGreatDoor
namespace Go.Proofs.YtgdohmaljbggjaaGreatDoor
open Go.RowKit Go.Lib
theorem shift_lof (M : Int) (k : Nat) (w : World) (hM : M.natAbs ≤ 9223372036854775808) (hk : k ≤ 2000) :
    Calls Tryz.prog 63 #[lof M, .int .i64 k] w fun e w' => e = .returned (.tuple #[lof (M * 2 ^ k), .int .i64 0]) ∧ Below w.heap.size w w' := by
  have hp : (9223372036854775808 : Nat) * 2 ^ k < 256 ^ 4096 := by
    obtain ⟨n, hn⟩ : ∃ n, n = 4096 := ⟨_, rfl⟩
    have e1 : (256 : Nat) ^ n = 2 ^ (8 * n) := by rw [Nat.pow_mul]
    rw [← hn, e1, show (9223372036854775808 : Nat) = 2 ^ 63 by decide, ← Nat.pow_add]
    exact Nat.pow_lt_pow_right (by decide) (by omega)
  have hV : M.natAbs * 2 ^ k < 256 ^ 4096 := Nat.lt_of_le_of_lt (Nat.mul_le_mul_right _ hM) hp
  have hV0 : M.natAbs < 256 ^ 4096 := Nat.lt_of_le_of_lt (Nat.le_mul_of_pos_right _ (Nat.pow_pos (by decide))) hV
  have h := shiftl_any (decide (M < 0)) (Pl.dgs M.natAbs) k w (Pl.dgs_len hV0) (Pl.chk_dgs hV0 (by simp; omega)) (by omega) (by rw [Pl.shl_is]; exact Pl.dgs_len hV)
  refine h.mono ?_
  rintro e w' ⟨rfl, hB⟩
  refine ⟨?_, hB⟩
  rw [Pl.shl_is, Pl.dgs_empty]
  unfold lof
  have hpp : (0 : Int) < 2 ^ k := Int.pow_pos (by decide)
  have hppn : 0 < 2 ^ k := Nat.pow_pos (by decide)
  have e1 : (M * 2 ^ k).natAbs = M.natAbs * 2 ^ k := by rw [Int.natAbs_mul, Int.natAbs_pow]; rfl
  have e2 : decide (M * 2 ^ k < 0) = (decide (M < 0) && !decide (M.natAbs * 2 ^ k = 0)) := by
    by_cases hn : M < 0
    · rw [decide_eq_true (Int.mul_neg_of_neg_of_pos hn hpp), decide_eq_true hn, decide_eq_false (by intro h0; rcases Nat.mul_eq_zero.1 h0 with h0 | h0 <;> omega)]; rfl
    · rw [decide_eq_false (by have := Int.mul_nonneg (show 0 ≤ M by omega) (Int.le_of_lt hpp); omega), decide_eq_false hn]; rfl
  rw [e1, e2]
set_option maxHeartbeats 1000000 in
theorem truncate_num (a b f c : Nat) (e M t : Int) (w : World) (ha : a < 18446744073709551616) (hf : a % 9223372036854775808 < 9218868437227405312) (hb : Fl.ftrunc a = b) (hx : FrexpIs b f e) (hfl : f < 18446744073709551616) (hc : Fl.fldexp f 53 = c)
    (hM : floatToIntVal .f64 c .i64 = some M) (hMb : M.natAbs ≤ 9007199254740992) (heb : -2000 ≤ e ∧ e ≤ 2000) (ht1 : e < 53 → floatToIntVal .f64 b .i64 = some t ∧ t.natAbs ≤ 9007199254740992) (ht2 : 53 ≤ e → t = M * 2 ^ (e - 53).toNat) :
    Calls Tryz.prog 27 #[.int .u64 a] w fun en w' => en = .returned (.tuple #[lof t, .int .i64 0]) ∧ Below w.heap.size w w' := by
  have hnn : Fl.isNan a = false := by simp [Fl.isNan]; omega
  have HF := Lib.hid (fun w => finite_any a ha w)
  rw [decide_eq_true hf] at HF
  have HT := Lib.hid (fun w => trunc_num a w hnn)
  rw [hb] at HT
  have HX := Lib.hid hx
  have HL := Lib.hid (fun w => Ldexp_any f 53 w hfl (by omega))
  rw [hc] at HL
  have HC1 := fun w => run_convert_float_int (P := Tryz.prog) (w := w) 51 2 .f64 .i64 c M (by kernel_rfl) (by kernel_rfl) hM
  have HO := Lib.hid (fun w => ofn_any M w (by omega) (by omega))
  rw [ofv_is (by omega) (by omega)] at HO
  obtain ⟨k, hk⟩ : ∃ k : Nat, max (e - 53) 0 = k := ⟨(e - 53).toNat, by omega⟩
  have HS := Lib.hid (fun w => shift_lof M k w (by omega) (by omega))
  by_cases he : e < 53
  · obtain ⟨hq, htb⟩ := ht1 he
    have HC2 := fun w => run_convert_float_int (P := Tryz.prog) (w := w) 51 2 .f64 .i64 b t (by kernel_rfl) (by kernel_rfl) hq
    have HO2 := Lib.hid (fun w => ofn_any t w (by omega) (by omega))
    rw [ofv_is (by omega) (by omega)] at HO2
    clear ht1 ht2 hq hM hc hx hb hf
    go_enter Tryz.func27, Tryz.ntmps27
    go_wp2_with (first | (refine (of_any _ _).mono ?_; rintro e w' ⟨rfl, rfl⟩) | (refine (HF.out _).mono ?_; rintro e w' ⟨rfl, rfl⟩) | (refine (HT.out _).mono ?_; rintro e w' ⟨rfl, rfl⟩) | (refine (HX.out _).mono ?_; rintro e w' ⟨rfl, rfl⟩) | (refine (HL.out _).mono ?_; rintro e w' ⟨rfl, rfl⟩))
    refine (HO.out _).mono ?_
    rintro e' w2 ⟨rfl, hB⟩
    have hB2 : Below (w.heap.size + 1) (w.alloc (.cells #[.bool false, .string ⟨#[]⟩] 42)) w2 := hB.mono (by simp)
    have hR : w2.heap[w.heap.size]? = some (.cells #[.bool false, .string ⟨#[]⟩] 42) := by rw [hB2.block _ (by omega)]; exact heap_alloc_at _ _
    have HBW := Lib.hid (show Below w.heap.size w w2 from ((Below.refl _ _).alloc (Nat.le_refl _) _).trans (hB2.mono (by omega)))
    have HR := Lib.hid hR
    clear hB hB2 hR
    have HE := Lib.hid (show lof M = .agg #[.bool (decide (M < 0)), .string (bs (Pl.dgs M.natAbs))] from rfl)
    rw [HE.out]
    generalize decide (M < 0) = g at HE ⊢
    generalize bs (Pl.dgs M.natAbs) = S at HE ⊢
    go_wp2_with fail
    rw [← HE.out]
    refine (HS.out _).mono ?_
    rintro e' w3 ⟨rfl, hB3⟩
    have hB3' : Below w2.heap.size w2 w3 := ((Below.refl _ _).alloc (Nat.le_refl _) _).trans (hB3.mono (by simp))
    have HR3 := Lib.hid (show w3.heap[w.heap.size]? = some (.cells #[.bool false, .string ⟨#[]⟩] 42) by rw [hB3'.block _ (Array.getElem?_eq_some_iff.1 HR.out).1]; exact HR.out)
    have HBW3 := Lib.hid (HBW.out.trans (hB3'.mono HBW.out.size))
    clear HE hB3 hB3' HBW HR
    have HE := Lib.hid (show lof (M * 2 ^ k) = .agg #[.bool (decide (M * 2 ^ k < 0)), .string (bs (Pl.dgs (M * 2 ^ k).natAbs))] from rfl)
    rw [HE.out]
    generalize decide (M * 2 ^ k < 0) = g1 at HE ⊢
    generalize bs (Pl.dgs (M * 2 ^ k).natAbs) = S1 at HE ⊢
    go_wp2_with (first | (refine (HT.out _).mono ?_; rintro e w' ⟨rfl, rfl⟩))
    refine (HO2.out _).mono ?_
    rintro e' w4 ⟨rfl, hB4⟩
    obtain ⟨B3, hB3⟩ : ∃ B3, w3.heap.size = B3 := ⟨_, rfl⟩
    have hB4' : Below (B3 + 1) (w3.alloc (.cells #[.bool g1, .string S1] 42)) w4 := hB4.mono (by simp; omega)
    have hlt : w.heap.size < B3 := by rw [← hB3]; exact (Array.getElem?_eq_some_iff.1 HR3.out).1
    have h4a : w4.heap[B3]? = some (.cells #[.bool g1, .string S1] 42) := by rw [hB4'.block _ (by omega), ← hB3]; exact heap_alloc_at _ _
    have h4b : w4.heap[w.heap.size]? = some (.cells #[.bool false, .string ⟨#[]⟩] 42) := by rw [hB4'.block _ (by omega), ((Below.refl w3.heap.size w3).alloc (Nat.le_refl _) _).block _ (by omega)]; exact HR3.out
    have HBW4 := Lib.hid (show Below w.heap.size w w4 from HBW3.out.trans (((Below.refl _ _).alloc (Nat.le_of_lt (by omega)) _).trans (hB4'.mono (by omega))))
    have a0 : w4.cell? ⟨B3, 0, none⟩ = some (.bool g1) := by simp [World.cell?, h4a]
    have a1 : w4.cell? ⟨B3, 1, none⟩ = some (.string S1) := by simp [World.cell?, h4a]
    have af0 : w4.frozen? ⟨B3, 0, none⟩ = false := by simp [World.frozen?, h4a]
    have af1 : w4.frozen? ⟨B3, 1, none⟩ = false := by simp [World.frozen?, h4a]
    have r0 : w4.cell? ⟨w.heap.size, 0, none⟩ = some (.bool false) := by simp [World.cell?, h4b]
    have r1 : w4.cell? ⟨w.heap.size, 1, none⟩ = some (.string ⟨#[]⟩) := by simp [World.cell?, h4b]
    have f0 : w4.frozen? ⟨w.heap.size, 0, none⟩ = false := by simp [World.frozen?, h4b]
    have f1 : w4.frozen? ⟨w.heap.size, 1, none⟩ = false := by simp [World.frozen?, h4b]
    have hne : B3 ≠ w.heap.size := by omega
    have hne' : w.heap.size ≠ B3 := by omega
    clear HR3 HBW3 hB4 hB4' HE h4a h4b
    have HE := Lib.hid (show lof t = .agg #[.bool (decide (t < 0)), .string (bs (Pl.dgs t.natAbs))] from rfl)
    rw [HE.out]
    generalize decide (t < 0) = g2 at HE ⊢
    generalize bs (Pl.dgs t.natAbs) = S2 at HE ⊢
    go_wp2_with fail
    obtain ⟨_, _, kB1⟩ := two_set w4 B3 (.bool g2) (.string S2) a0 a1
    generalize (w4.setCell ⟨B3, 0, none⟩ (.bool g2)).setCell ⟨B3, 1, none⟩ (.string S2) = w5 at kB1 ⊢
    have s0 : w5.cell? ⟨w.heap.size, 0, none⟩ = some (.bool false) := by rw [kB1.cell (p := ⟨w.heap.size, 0, none⟩) hlt]; exact r0
    have s1 : w5.cell? ⟨w.heap.size, 1, none⟩ = some (.string ⟨#[]⟩) := by rw [kB1.cell (p := ⟨w.heap.size, 1, none⟩) hlt]; exact r1
    obtain ⟨k0, k1, kB⟩ := two_set w5 w.heap.size (.bool g2) (.string S2) s0 s1
    refine bodyPost_ret (v := .tuple #[.agg #[.bool g2, .string S2], .int .i64 0]) (by simp [results, Tryz.results27, go_sem, k0, k1]) rfl ⟨by rw [HE.out], (HBW4.out.trans (kB1.mono (by omega))).trans kB⟩
  · have ht := ht2 (by omega)
    have hke : k = (e - 53).toNat := by omega
    rw [← hke] at ht
    rw [ht]
    clear ht1 ht2 ht hM hc hx hb hf hke
    go_enter Tryz.func27, Tryz.ntmps27
    go_wp2_with (first | (refine (of_any _ _).mono ?_; rintro e w' ⟨rfl, rfl⟩) | (refine (HF.out _).mono ?_; rintro e w' ⟨rfl, rfl⟩) | (refine (HT.out _).mono ?_; rintro e w' ⟨rfl, rfl⟩) | (refine (HX.out _).mono ?_; rintro e w' ⟨rfl, rfl⟩) | (refine (HL.out _).mono ?_; rintro e w' ⟨rfl, rfl⟩))
    refine (HO.out _).mono ?_
    rintro e' w2 ⟨rfl, hB⟩
    have hB2 : Below (w.heap.size + 1) (w.alloc (.cells #[.bool false, .string ⟨#[]⟩] 42)) w2 := hB.mono (by simp)
    have hR : w2.heap[w.heap.size]? = some (.cells #[.bool false, .string ⟨#[]⟩] 42) := by rw [hB2.block _ (by omega)]; exact heap_alloc_at _ _
    have HBW := Lib.hid (show Below w.heap.size w w2 from ((Below.refl _ _).alloc (Nat.le_refl _) _).trans (hB2.mono (by omega)))
    have HR := Lib.hid hR
    clear hB hB2 hR
    have HE := Lib.hid (show lof M = .agg #[.bool (decide (M < 0)), .string (bs (Pl.dgs M.natAbs))] from rfl)
    rw [HE.out]
    generalize decide (M < 0) = g at HE ⊢
    generalize bs (Pl.dgs M.natAbs) = S at HE ⊢
    go_wp2_with fail
    rw [← HE.out]
    refine (HS.out _).mono ?_
    rintro e' w3 ⟨rfl, hB3⟩
    have hB3' : Below w2.heap.size w2 w3 := ((Below.refl _ _).alloc (Nat.le_refl _) _).trans (hB3.mono (by simp))
    have HR3 := Lib.hid (show w3.heap[w.heap.size]? = some (.cells #[.bool false, .string ⟨#[]⟩] 42) by rw [hB3'.block _ (Array.getElem?_eq_some_iff.1 HR.out).1]; exact HR.out)
    have HBW3 := Lib.hid (HBW.out.trans (hB3'.mono HBW.out.size))
    clear HE hB3 hB3' HBW HR
    have HE := Lib.hid (show lof (M * 2 ^ k) = .agg #[.bool (decide (M * 2 ^ k < 0)), .string (bs (Pl.dgs (M * 2 ^ k).natAbs))] from rfl)
    rw [HE.out]
    have hR3 := HR3.out
    have r0 : w3.cell? ⟨w.heap.size, 0, none⟩ = some (.bool false) := by simp [World.cell?, hR3]
    have r1 : w3.cell? ⟨w.heap.size, 1, none⟩ = some (.string ⟨#[]⟩) := by simp [World.cell?, hR3]
    have f0 : w3.frozen? ⟨w.heap.size, 0, none⟩ = false := by simp [World.frozen?, hR3]
    have f1 : w3.frozen? ⟨w.heap.size, 1, none⟩ = false := by simp [World.frozen?, hR3]
    have hlt : w.heap.size < w3.heap.size := (Array.getElem?_eq_some_iff.1 hR3).1
    have hne : w3.heap.size ≠ w.heap.size := by omega
    have hne' : w.heap.size ≠ w3.heap.size := by omega
    clear hR3
    generalize decide (M * 2 ^ k < 0) = g1 at HE ⊢
    generalize bs (Pl.dgs (M * 2 ^ k).natAbs) = S1 at HE ⊢
    go_wp2_with fail
    obtain ⟨k0, k1, kB⟩ := two_set w3 w.heap.size (.bool g1) (.string S1) r0 r1
    generalize (w3.setCell ⟨w.heap.size, 0, none⟩ (.bool g1)).setCell ⟨w.heap.size, 1, none⟩ (.string S1) = w5 at k0 k1 kB ⊢
    have h5 : w3.heap.size ≤ w5.heap.size := kB.size
    have kC : Below w5.heap.size w5 (w5.alloc (.cells #[.bool g1, .string S1] 42)) := (Below.refl _ _).alloc (Nat.le_refl _) _
    have q0 : (w5.alloc (.cells #[.bool g1, .string S1] 42)).cell? ⟨w.heap.size, 0, none⟩ = some (.bool g1) := by rw [kC.cell (p := ⟨w.heap.size, 0, none⟩) (by show w.heap.size < _; omega)]; exact k0
    have q1 : (w5.alloc (.cells #[.bool g1, .string S1] 42)).cell? ⟨w.heap.size, 1, none⟩ = some (.string S1) := by rw [kC.cell (p := ⟨w.heap.size, 1, none⟩) (by show w.heap.size < _; omega)]; exact k1
    generalize w5.alloc (.cells #[.bool g1, .string S1] 42) = w6 at q0 q1 kC ⊢
    refine bodyPost_ret (v := .tuple #[.agg #[.bool g1, .string S1], .int .i64 0]) (by simp [results, Tryz.results27, go_sem, q0, q1]) rfl ⟨by rw [HE.out], (HBW3.out.trans kB).trans (kC.mono (by omega))⟩
end Go.Proofs.YtgdohmaljbggjaaGreatDoor
namespace Go.Proofs.YtgdohmaljbggjaaGreatDoor
open Go.RowKit Go.Lib
set_option maxHeartbeats 1000000 in
theorem common_zero (t : ByteArray) (w : World) (q : 0 < t.size) (hs : t.size ≤ 100000) (hd : 48 ≤ (t[0]'q).toNat ∧ (t[0]'q).toNat ≤ 57) :
    Calls Tryz.prog 232 #[.string t, .string ⟨#[105, 110, 102, 105, 110, 105, 116, 121]⟩] w fun e w' => e = .returned (.int .i64 0) ∧ w = w' := by
  obtain ⟨c, hc⟩ : ∃ c, t[0]'q = c := ⟨_, rfl⟩
  rw [hc] at hd
  obtain ⟨h1, h2⟩ := hd
  have b1 : ((c.toNat : Int) != ((((⟨#[105, 110, 102, 105, 110, 105, 116, 121]⟩ : ByteArray)[0]'(by decide)).toNat : Nat) : Int)) = true := by rw [bne_iff_ne]; show (c.toNat : Int) ≠ 105; omega
  obtain ⟨N, hN⟩ : ∃ N, t.size = N := ⟨_, rfl⟩
  have hn1 : 0 < N := by omega
  have hn2 : N ≤ 100000 := by omega
  obtain ⟨k, hk⟩ : ∃ k : Int, min 8 (N : Int) = k := ⟨_, rfl⟩
  have hk1 : 0 < k := by omega
  go_enter Tryz.func232, Tryz.ntmps232
  go_wp2_with fail
  refine wp_loop_rounds 1 ?_
  rw [rounds_succ]
  go_wp2_with fail
  go_ret
  exact ⟨rfl, rfl⟩
set_option maxHeartbeats 1000000 in
theorem special_pos (s : ByteArray) (w : World) (q : 0 < s.size) (hs : s.size ≤ 100000) (hd : 48 ≤ (s[0]'q).toNat ∧ (s[0]'q).toNat ≤ 57) :
    Calls Tryz.prog 192 #[.string s] w fun e w' => e = .returned (.tuple #[.float .f64 0, .int .i64 0, .bool false]) ∧ w = w' := by
  obtain ⟨c, hc⟩ : ∃ c, s[0]'q = c := ⟨_, rfl⟩
  rw [hc] at hd
  obtain ⟨h1, h2⟩ := hd
  have b1 : ((c.toNat : Int) == 43) = false := by rw [beq_eq_false_iff_ne]; omega
  have b2 : ((c.toNat : Int) == 45) = false := by rw [beq_eq_false_iff_ne]; omega
  have b3 : ((c.toNat : Int) == 105) = false := by rw [beq_eq_false_iff_ne]; omega
  have b4 : ((c.toNat : Int) == 73) = false := by rw [beq_eq_false_iff_ne]; omega
  have b5 : ((c.toNat : Int) == 110) = false := by rw [beq_eq_false_iff_ne]; omega
  have b6 : ((c.toNat : Int) == 78) = false := by rw [beq_eq_false_iff_ne]; omega
  obtain ⟨N, hN⟩ : ∃ N, s.size = N := ⟨_, rfl⟩
  have hn0 : ((N : Int) == 0) = false := by rw [beq_eq_false_iff_ne]; omega
  have hn1 : 0 < N := by omega
  go_enter Tryz.func192, Tryz.ntmps192
  go_wp2_with fail
  go_ret3
  exact ⟨rfl, rfl⟩
set_option maxHeartbeats 1000000 in
theorem special_neg (s : ByteArray) (w : World) (q0 : 0 < s.size) (q : 1 < s.size) (hs : s.size ≤ 100000) (h0 : s[0]'q0 = 45) (hd : 48 ≤ (s[1]'q).toNat ∧ (s[1]'q).toNat ≤ 57) :
    Calls Tryz.prog 192 #[.string s] w fun e w' => e = .returned (.tuple #[.float .f64 0, .int .i64 0, .bool false]) ∧ w = w' := by
  have HC := Lib.hid (fun (w : World) => common_zero (s.extract 1 s.size) w (by rw [ByteArray.size_extract]; omega) (by rw [ByteArray.size_extract]; omega) (by rw [ByteArray.getElem_extract]; exact hd))
  obtain ⟨N, hN⟩ : ∃ N, s.size = N := ⟨_, rfl⟩
  have hn0 : ((N : Int) == 0) = false := by rw [beq_eq_false_iff_ne]; omega
  have hn1 : 1 < N := by omega
  have hn2 : N ≤ 100000 := by omega
  rw [hN] at HC
  clear hd q
  go_enter Tryz.func192, Tryz.ntmps192
  go_wp2_with fail
  refine (HC.out _).mono ?_
  rintro e w' ⟨rfl, rfl⟩
  go_wp2_with fail
  go_ret3
  exact ⟨rfl, rfl⟩
end Go.Proofs.YtgdohmaljbggjaaGreatDoor
namespace Go.Proofs.YtgdohmaljbggjaaGreatDoor
open Go.RowKit Go.Lib
theorem ret3v {a b c a' b' c' : Value} (h1 : a = a') (h2 : b = b') (h3 : c = c') : Ending.returned (.tuple #[a, b, c]) = .returned (.tuple #[a', b', c']) := by rw [h1, h2, h3]
set_option maxHeartbeats 1000000 in
theorem exact_div (m k p r x : Nat) (neg : Bool) (w : World) (hm : m < 4503599627370496) (hk : k ≤ 22) (hk0 : 0 < k) (he : Env w) (hp : Pl.f10[k]? = some p) (hx : (if neg then floatOfInt .f64 (m : Int) ^^^ 9223372036854775808 else floatOfInt .f64 (m : Int)) = x) (hr : Fl.D.div x p = some r) :
    Calls Tryz.prog 203 #[.int .u64 m, .int .i64 (-(k : Int)), .bool neg] w fun e w' => e = .returned (.tuple #[.float .f64 r, .bool true]) ∧ w = w' := by
  have h1 := he.info
  obtain ⟨a, cap, h2, h3, h4⟩ := he.f10
  have h5 := h4 k p hp
  have h6 := fun (t : TypeId) (w : World) => run_float_arith (P := Tryz.prog) w .quo t .f64 x p r hr
  have b1 : ((m : Int) / 4503599627370496 != 0) = false := by rw [bne_eq_false_iff_eq]; omega
  have b2 : (-(k : Int) == 0) = false := by rw [beq_eq_false_iff_ne]; omega
  clear h4 hp hr he h3
  cases neg
  · have hx' : floatOfInt .f64 (m : Int) = x := by simpa using hx
    clear hx
    go_enter Tryz.func203, Tryz.ntmps203
    go_wp2_with fail
    go_ret2
    exact ⟨rfl, rfl⟩
  · have hx' : floatOfInt .f64 (m : Int) ^^^ 9223372036854775808 = x := by simpa using hx
    clear hx
    obtain ⟨y, hy⟩ : ∃ y, floatOfInt .f64 (m : Int) = y := ⟨_, rfl⟩
    rw [hy] at hx'
    have hn : ∀ w : World, (Op.unary .neg (.float .f64 y)).run Tryz.prog w = .ok (.float .f64 x) w := fun w => by rw [run_neg, hx']
    clear hx'
    go_enter Tryz.func203, Tryz.ntmps203
    go_wp2_with fail
    go_ret2
    exact ⟨rfl, rfl⟩
theorem run_sfrom (n : Int) (w : World) : (callFunc 202 #[.int .u64 n]).run Tryz.prog w = .ok (.value (.float .f64 n.toNat)) w := by
  rw [run_callFunc_extern Tryz.func202 (by kernel_rfl) (by kernel_rfl) (by kernel_rfl) (show Extern.find _ = some Extern.MathFloatBits.float64frombits by kernel_rfl)]
  rfl
def IsSpecial (s : ByteArray) : Prop := ∀ w, Calls Tryz.prog 192 #[.string s] w fun e w' => e = .returned (.tuple #[.float .f64 0, .int .i64 0, .bool false]) ∧ w = w'
def ReadsAs (s : ByteArray) (m : Nat) (e : Int) (neg tr : Bool) (n : Nat) : Prop := ∀ w, Calls Tryz.prog 193 #[.string s] w fun en w' => en = .returned (.tuple #[.int .u64 m, .int .i64 e, .bool neg, .bool tr, .bool false, .int .i64 n, .bool true]) ∧ w' = w
set_option maxHeartbeats 1000000 in
theorem atof_div (s : ByteArray) (n m k p r x : Nat) (neg : Bool) (w : World) (hs : IsSpecial s) (hr : ReadsAs s m (-(k : Int)) neg false n) (hm : m < 4503599627370496) (hm0 : 0 < m) (hk : k ≤ 22) (hk0 : 0 < k) (he : Env w) (hp : Pl.f10[k]? = some p) (hx : (if neg then floatOfInt .f64 (m : Int) ^^^ 9223372036854775808 else floatOfInt .f64 (m : Int)) = x) (hd : Fl.D.div x p = some r) :
    Calls Tryz.prog 163 #[.string s] w fun e w' => e = .returned (.tuple #[.float .f64 r, .int .i64 n, .nilIface]) ∧ w = w' := by
  have HX := Lib.hid (exact_div m k p r x neg w hm hk hk0 he hp hx hd)
  have h1 := he.opt
  have b1 : ((m : Int) == 0) = false := by rw [beq_eq_false_iff_ne]; omega
  clear hp hx hd
  cases neg
  all_goals
    go_enter Tryz.func163, Tryz.ntmps163
    go_wp2_with fail
    refine (hs _).mono ?_
    rintro e w' ⟨rfl, rfl⟩
    go_wp2_with fail
    refine (hr _).mono ?_
    rintro e w' ⟨rfl, rfl⟩
    go_wp2_with fail
    refine (bool2u_any _ _).mono ?_
    rintro e w' ⟨rfl, rfl⟩
    go_wp2_with fail
    refine HX.out.mono ?_
    rintro e w' ⟨rfl, rfl⟩
    go_wp2_with fail
    go_ret3
    exact ⟨rfl, rfl⟩
set_option maxHeartbeats 1000000 in
theorem atof_far (s : ByteArray) (n m : Nat) (e : Int) (tr : Bool) (w : World) (hs : IsSpecial s) (hr : ReadsAs s m e false tr n) (hm0 : 0 < m) (he : Env w) (h3 : 310 < e) :
    Calls Tryz.prog 163 #[.string s] w fun e w' => e = .returned (.tuple #[.float .f64 9218868437227405312, .int .i64 n, .iface 129 (.int .i64 1)]) ∧ w = w' := by
  have h1 := he.opt
  have h2 := run_sfrom
  have b1 : ((m : Int) == 0) = false := by rw [beq_eq_false_iff_ne]; omega
  have b2 : bits .or .u64 0 9218868437227405312 = 9218868437227405312 := by decide
  go_enter Tryz.func163, Tryz.ntmps163
  go_wp2_with fail
  refine (hs _).mono ?_
  rintro e w' ⟨rfl, rfl⟩
  go_wp2_with fail
  refine (hr _).mono ?_
  rintro e w' ⟨rfl, rfl⟩
  go_wp2_with fail
  refine (bool2u_any _ _).mono ?_
  rintro e w' ⟨rfl, rfl⟩
  go_wp2_with fail
  go_ret3
  exact ⟨rfl, rfl⟩
end Go.Proofs.YtgdohmaljbggjaaGreatDoor
namespace Go.Proofs.YtgdohmaljbggjaaGreatDoor
open Go.RowKit Go.Lib
/-- What atof64 answers of a text. -/
def AtofAs (s : ByteArray) (w : World) (r n : Nat) (v : Value) : Prop := Calls Tryz.prog 163 #[.string s] w fun e w' => e = .returned (.tuple #[.float .f64 r, .int .i64 n, v]) ∧ w = w'
theorem pre_any (s : ByteArray) (w : World) (r n : Nat) (v : Value) (h : AtofAs s w r n v) :
    Calls Tryz.prog 128 #[.string s, .int .i64 64] w fun e w' => e = .returned (.tuple #[.float .f64 r, .int .i64 n, v]) ∧ w = w' := by
  go_enter Tryz.func128, Tryz.ntmps128
  go_wp2_with fail
  refine h.mono ?_
  rintro e w' ⟨rfl, rfl⟩
  go_wp2_with fail
  go_ret3
  exact ⟨rfl, rfl⟩
theorem iparse_any (s : ByteArray) (w : World) (r n : Nat) (v : Value) (h : AtofAs s w r n v) (hn : Hid (s.size = n)) :
    Calls Tryz.prog 86 #[.string s, .int .i64 64] w fun e w' => e = .returned (.tuple #[.float .f64 r, v]) ∧ w = w' := by
  have hn' := hn.out
  have b1 : ((n : Int) != (n : Int)) = false := by simp
  go_enter Tryz.func86, Tryz.ntmps86
  go_wp2_with fail
  refine (pre_any s _ r n v h).mono ?_
  rintro e w' ⟨rfl, rfl⟩
  go_wp2_with fail
  go_ret2
  exact ⟨rfl, rfl⟩
theorem parse_ok (s : ByteArray) (w : World) (r n : Nat) (h : AtofAs s w r n .nilIface) (hn : Hid (s.size = n)) :
    Calls Tryz.prog 44 #[.string s, .int .i64 64] w fun e w' => e = .returned (.tuple #[.float .f64 r, .nilIface]) ∧ w = w' := by
  go_enter Tryz.func44, Tryz.ntmps44
  go_wp2_with fail
  refine (iparse_any s _ r n _ h hn).mono ?_
  rintro e w' ⟨rfl, rfl⟩
  go_wp2_with fail
  go_ret2
  exact ⟨rfl, rfl⟩
theorem info140 : (Tryz.prog.info? 129).map (fun i => i.comparable) = some true := by kernel_rfl
theorem run_err_eq (w : World) (a b : Int) : (binOp .eql 53 (.iface 129 (.int .i64 a)) (.iface 129 (.int .i64 b))).run Tryz.prog w = .ok (.bool (a == b)) w := by
  have hi := Tryz.underlying53
  have hn := Tryz.underlying129
  have h0 := info140
  cases hinfo : Tryz.prog.info? 129 with
  | none => rw [hinfo] at h0; cases h0
  | some i =>
    rw [hinfo] at h0
    have hcomp : i.comparable = true := by simpa using h0
    have key : ∀ d, (Op.equalIn (d + 2) 53 (.iface 129 (.int .i64 a)) (.iface 129 (.int .i64 b))).run Tryz.prog w = .ok (a == b) w := by
      intro d
      simp [Op.equalIn, run_underlying hi, run_underlying hn, typeInfo, hinfo, hcomp]
    simp only [binOp]
    simp [Op.equal, Op.maxDepth, key 9998]
set_option maxHeartbeats 1000000 in
theorem toError_range (fn s : ByteArray) (w : World) (hs : s.size ≤ 100000) (he : Env w) :
    Calls Tryz.prog 87 #[.string fn, .string s, .int .i64 0, .int .i64 64, .iface 129 (.int .i64 1)] w fun e w' => ∃ a, e = .returned (.iface 130 (.pointer (some a))) ∧ Below w.heap.size w w' := by
  obtain ⟨ev, hv1, hv2⟩ := he.err
  have HR := Lib.hid (Tryz.strconv_rangeError fn s ev w (by omega) hv1 hv2)
  have h1 := run_err_eq
  clear hv1 hv2
  go_enter Tryz.func87, Tryz.ntmps87
  go_wp2_with fail
  refine HR.out.mono ?_
  rintro e w1 ⟨N, rfl, _, _, hB⟩
  go_wp2_with fail
  go_ret
  exact ⟨_, rfl, hB⟩
set_option maxHeartbeats 1000000 in
theorem parse_far (s : ByteArray) (w : World) (r n : Nat) (h : AtofAs s w r n (.iface 129 (.int .i64 1))) (hn : Hid (s.size = n)) (hs : s.size ≤ 100000) (he : Env w) :
    Calls Tryz.prog 44 #[.string s, .int .i64 64] w fun e w' => ∃ a, e = .returned (.tuple #[.float .f64 r, .iface 130 (.pointer (some a))]) ∧ Below w.heap.size w w' := by
  go_enter Tryz.func44, Tryz.ntmps44
  go_wp2_with fail
  refine (iparse_any s _ r n _ h hn).mono ?_
  rintro e w' ⟨rfl, rfl⟩
  go_wp2_with fail
  refine (toError_range _ s _ hs he).mono ?_
  rintro e w1 ⟨a, rfl, hB⟩
  go_wp2_with fail
  go_ret2
  exact ⟨_, rfl, hB⟩
theorem read_no (l : List UInt8) (w : World) (hl : l.length ≤ 1000000) (hf : Pl.formed l = false) :
    Calls Tryz.prog 13 #[.string (bs l)] w fun e w' => e = .returned (.tuple #[.int .u64 0, .int .i64 100]) ∧ Below w.heap.size w w' := by
  have HF := Lib.hid (formed_any l w hl)
  rw [hf] at HF
  generalize bs l = s at *
  go_enter Tryz.func13, Tryz.ntmps13
  go_wp2_with fail
  refine HF.out.mono ?_
  rintro e w1 ⟨rfl, hB⟩
  go_wp2_with fail
  go_ret2
  exact ⟨rfl, hB⟩
theorem read_far (l : List UInt8) (w : World) (hl : l.length ≤ 1000) (hf : Pl.formed l = true) (he : Env w) (r : Nat) (h : ∀ w, Env w → AtofAs (bs l) w r l.length (.iface 129 (.int .i64 1))) :
    Calls Tryz.prog 13 #[.string (bs l)] w fun e w' => e = .returned (.tuple #[.int .u64 0, .int .i64 101]) ∧ Below w.heap.size w w' := by
  have HF := Lib.hid (formed_any l w (by omega))
  have HP := Lib.hid (fun w he => parse_far (bs l) w r l.length (h w he) (Lib.hid rfl) (by rw [bs_size]; omega) he)
  rw [hf] at HF
  clear h
  generalize bs l = s at *
  go_enter Tryz.func13, Tryz.ntmps13
  go_wp2_with fail
  refine HF.out.mono ?_
  rintro e w1 ⟨rfl, hB⟩
  go_wp2_with fail
  refine (HP.out _ (he.below hB)).mono ?_
  rintro e w2 ⟨a, rfl, hB2⟩
  go_wp2_with fail
  go_ret2
  exact ⟨rfl, hB.trans (hB2.mono hB.size)⟩
theorem read_ok (l : List UInt8) (w : World) (hl : l.length ≤ 1000) (hf : Pl.formed l = true) (he : Env w) (r : Nat) (h : ∀ w, Env w → AtofAs (bs l) w r l.length .nilIface) :
    Calls Tryz.prog 13 #[.string (bs l)] w fun e w' => e = .returned (.tuple #[.int .u64 (Fl.told r), .int .i64 0]) ∧ Below w.heap.size w w' := by
  have HF := Lib.hid (formed_any l w (by omega))
  have HP := Lib.hid (fun w he => parse_ok (bs l) w r l.length (h w he) (Lib.hid rfl))
  rw [hf] at HF
  clear h
  generalize bs l = s at *
  go_enter Tryz.func13, Tryz.ntmps13
  go_wp2_with fail
  refine HF.out.mono ?_
  rintro e w1 ⟨rfl, hB⟩
  go_wp2_with fail
  refine (HP.out _ (he.below hB)).mono ?_
  rintro e w2 ⟨rfl, rfl⟩
  go_wp2_with fail
  refine (told_any _ _).mono ?_
  rintro e w2 ⟨rfl, rfl⟩
  go_wp2_with fail
  go_ret2
  exact ⟨rfl, hB⟩
end Go.Proofs.YtgdohmaljbggjaaGreatDoor
namespace Go.Proofs.YtgdohmaljbggjaaGreatDoor
open Go.RowKit Go.Lib

set_option maxHeartbeats 4000000 in
set_option maxRecDepth 100000 in
theorem read_pos_none (s : ByteArray) (M : List UInt8) (w : World) (hsz : Hid (s.size = 0 + M.length)) (hM : MantOk M) (h3 : 3 ≤ M.length) (hl : M.length ≤ 1000) (hat : At s 0 M) (hdig : (Pl.run M).dig = true) (hdot : (Pl.run M).dot = true)
    (hd0 : Pl.digit M[0]) :
    Calls Tryz.prog 193 #[.string s] w (rfOk (Pl.run M) 0 false (0 + M.length) w) := by
  have hs0 : s.size = 0 + M.length := hsz.out
  obtain ⟨N, hN⟩ : ∃ N, 0 + M.length = N := ⟨_, rfl⟩
  rw [hN] at hs0 ⊢
  have hN3 : 0 + 3 ≤ N := by omega
  have hN4 : N ≤ 2002 := by omega
  have q0 : 0 < s.size := by omega
  have q1 : 0 + 1 < s.size := by omega
  have a0 : s[0]'q0 = M[0] := hat 0 (by omega) (by omega)
  have a1 : s[0 + 1]'q1 = M[1] := hat 1 (by omega) (by omega)
  have hc1 : (bits .or .u8 (M[1].toNat : Int) 32 == 120) = false := low_x (hM.1 _ (List.getElem_mem _))
  generalize M[0] = c0 at a0 hd0
  generalize M[1] = c1 at a1 hc1
  unfold Pl.digit at hd0
  have b1 : ((c0.toNat : Int) == 43) = false := by rw [beq_eq_false_iff_ne]; omega
  have b2 : ((c0.toNat : Int) == 45) = false := by rw [beq_eq_false_iff_ne]; omega
  obtain ⟨bb, b3⟩ : ∃ bb : Bool, ((c0.toNat : Int) == 48) = bb := ⟨_, rfl⟩
  have HN := Lib.hid hN
  have hM1 := Lib.hid hl
  clear hN h3 hl hsz
  have HA := Lib.hid hat
  have HM := Lib.hid hM
  have HG := Lib.hid (show (Pl.run M).dig = true ∧ (Pl.run M).dot = true from ⟨hdig, hdot⟩)
  clear hat hM hdig hdot
  cases bb
  all_goals
    go_enter Tryz.func193, Tryz.ntmps193
    go_wp2_with fail
    go_step3
    go_wp2_with (refine (Tryz.internal_strconv_lower _ _).mono ?_; rintro e w' ⟨rfl, rfl⟩)
    go_step3
    go_wp2_with fail
    go_loop [2, 5, 7, 9, 13, 14, 15, 16, 17] (fun v2 v5 v7 v9 v13 v14 v15 v16 v17 => ∃ (i m nd nm : Nat) (dp : Int) (dot dig tr : Bool), 0 ≤ i ∧ i ≤ 0 + M.length ∧ Hid (Pl.run (M.take (i - 0)) = ⟨m, nd, nm, dp, dot, dig, tr⟩) ∧ v7 = .int .i64 i ∧ v2 = .int .u64 m ∧ v5 = .bool tr ∧ v9 = .bool false ∧ v13 = .bool dot ∧ v14 = .bool dig ∧ v15 = .int .i64 nd ∧ v16 = .int .i64 nm ∧ v17 = .int .i64 dp) (fun _ _ v7 _ _ _ _ _ _ => N - (RowKit.intOf v7).toNat)
    case atStart => exact ⟨0, 0, 0, 0, 0, false, false, false, Nat.le_refl _, by omega, Lib.hid rfl, rfl, rfl, rfl, rfl, rfl, rfl, rfl, rfl, rfl⟩
    case round =>
      obtain ⟨i, m, nd, nm, dp, dot, dig, tr, hi0, hk, hst, rfl, rfl, rfl, rfl, rfl, rfl, rfl, rfl, rfl⟩ := hrel
      have hok := Pl.run_ok (M.take (i - 0)) (fun c hc => HM.out.1 c (List.mem_of_mem_take hc))
      rw [hst.out, List.length_take, Nat.min_eq_left (by omega)] at hok
      have o1 := hok.m
      have o2 : nm ≤ 19 := hok.nm
      have o3 : nd ≤ 1001 := by have := hok.nd; have := hM1.out; simp only at *; omega
      have o4 : -1001 ≤ dp := by have := hok.lo; have := hM1.out; simp only at *; omega
      have o5 : dp ≤ 1001 := by have := hok.up; have := hM1.out; simp only at *; omega
      have hk1 : i ≤ N := by have := HN.out; omega
      have o6 : m < 10000000000000000000 := Nat.lt_of_lt_of_le o1 (Nat.pow_le_pow_right (n := 10) (by decide) o2)
      have o7 : nm < 19 → m < 1000000000000000000 := fun h => Nat.lt_of_lt_of_le o1 (Nat.pow_le_pow_right (n := 10) (j := 18) (by decide) (by simp only; omega))
      clear hok o1
      by_cases hlt : i < 0 + M.length
      · have hk2 : i < N := by have := HN.out; omega
        have qk : i < s.size := by omega
        have hlt2 : i - 0 < M.length := by omega
        have ak : s[i]'qk = M[i - 0] := HA.out.get hlt2 qk (by omega)
        have hck := HM.out.1 M[i - 0] (List.getElem_mem _)
        have hdk := Lib.hid (HM.out.2 (i - 0) hlt2)
        have HT := Lib.hid (show Pl.run (M.take (i + 1 - 0)) = Pl.step ⟨m, nd, nm, dp, dot, dig, tr⟩ M[i - 0] by rw [show i + 1 - 0 = i - 0 + 1 by omega, List.take_succ_eq_append_getElem hlt2, Pl.run_snoc, hst.out])
        generalize M[i - 0] = c at ak hck hdk HT
        rcases hck with rfl | hck
        · obtain rfl : dot = false := by have := hdk.out rfl; rw [hst.out] at this; exact this
          clear hdk o6 o7
          go_wp2_with fail
          go_round
          case rel => exact ⟨i + 1, m, nd, nm, nd, true, dig, tr, by omega, by omega, Lib.hid (by rw [HT.out]; rfl), by go_num, rfl, rfl, rfl, rfl, rfl, rfl, rfl, rfl⟩
          case measure => simp [RowKit.intOf]; omega
        · unfold Pl.digit at hck
          obtain ⟨hc1, hc2⟩ := hck
          have d95 : ((c.toNat : Int) == 95) = false := by rw [beq_eq_false_iff_ne]; omega
          have d46 : ((c.toNat : Int) == 46) = false := by rw [beq_eq_false_iff_ne]; omega
          have HC := Lib.hid (show 48 ≤ c.toNat from hc1)
          clear hdk
          by_cases e48 : c.toNat = 48
          · have d48 : ((c.toNat : Int) == 48) = true := by rw [beq_iff_eq]; omega
            have d48n : ((c.toNat : Int) != 48) = false := by simp; omega
            by_cases end0 : nd = 0
            · have n0 : ((nd : Int) == 0) = true := by rw [beq_iff_eq]; omega
              have HS := Lib.hid (HT.out.trans (Pl.step_zero e48 end0))
              clear e48 end0 HT o6 o7
              go_wp2_with fail
              go_round
              case rel => exact ⟨i + 1, m, nd, nm, dp - 1, dot, true, tr, by omega, by omega, HS, by go_num, rfl, rfl, rfl, rfl, rfl, rfl, rfl, rfl⟩
              case measure => simp [RowKit.intOf]; omega
            · have n0 : ((nd : Int) == 0) = false := by rw [beq_eq_false_iff_ne]; omega
              by_cases h19 : nm < 19
              · have o8 := o7 h19
                have HS := Lib.hid (HT.out.trans (Pl.step_in hc1 (by omega) h19))
                clear e48 end0 HT o6 o7
                go_wp2_with fail
                go_round
                case rel => exact ⟨i + 1, m * 10 + (c.toNat - 48), nd + 1, nm + 1, dp, dot, true, tr, by omega, by omega, HS, by go_num, int_eq (by have := HC.out; omega), rfl, rfl, rfl, rfl, by go_num, by go_num, rfl⟩
                case measure => simp [RowKit.intOf]; omega
              · have HS := Lib.hid (HT.out.trans (Pl.step_out hc1 (by omega) h19))
                rw [if_pos e48] at HS
                clear e48 end0 HT o6 o7
                go_wp2_with fail
                go_round
                case rel => exact ⟨i + 1, m, nd + 1, nm, dp, dot, true, tr, by omega, by omega, HS, by go_num, rfl, rfl, rfl, rfl, rfl, by go_num, rfl, rfl⟩
                case measure => simp [RowKit.intOf]; omega
          · have d48 : ((c.toNat : Int) == 48) = false := by rw [beq_eq_false_iff_ne]; omega
            have d48n : ((c.toNat : Int) != 48) = true := by simp; omega
            by_cases h19 : nm < 19
            · have o8 := o7 h19
              have HS := Lib.hid (HT.out.trans (Pl.step_in hc1 (by omega) h19))
              clear e48 HT o6 o7
              go_wp2_with fail
              go_round
              case rel => exact ⟨i + 1, m * 10 + (c.toNat - 48), nd + 1, nm + 1, dp, dot, true, tr, by omega, by omega, HS, by go_num, int_eq (by have := HC.out; omega), rfl, rfl, rfl, rfl, by go_num, by go_num, rfl⟩
              case measure => simp [RowKit.intOf]; omega
            · have HS := Lib.hid (HT.out.trans (Pl.step_out hc1 (by omega) h19))
              rw [if_neg e48] at HS
              clear e48 HT o6 o7
              go_wp2_with fail
              go_round
              case rel => exact ⟨i + 1, m, nd + 1, nm, dp, dot, true, true, by omega, by omega, HS, by go_num, rfl, rfl, rfl, rfl, rfl, by go_num, rfl, rfl⟩
              case measure => simp [RowKit.intOf]; omega
      · obtain rfl : i = 0 + M.length := by omega
        rw [show 0 + M.length - 0 = M.length by omega, List.take_length] at hst
        obtain rfl : dig = true := by have := HG.out.1; rw [hst.out] at this; exact this
        obtain rfl : dot = true := by have := HG.out.2; rw [hst.out] at this; exact this
        rw [HN.out]
        clear o7 hlt
        by_cases hm0 : m = 0
        · have g0 : ((m : Int) != 0) = false := by simp; omega
          have HM0 := Lib.hid hm0
          clear hm0
          go_wp2_with fail
          refine bodyPost_ret (v := .tuple #[.int .u64 m, .int .i64 0, .bool false, .bool tr, .bool false, .int .i64 N, .bool true]) (by simp [results, Tryz.results193, go_sem]) rfl ⟨?_, rfl⟩
          rw [hst.out, show Pl.expOf ⟨m, nd, nm, dp, true, true, tr⟩ 0 = 0 by unfold Pl.expOf; rw [if_pos HM0.out]]
        · have g0 : ((m : Int) != 0) = true := by simp; omega
          go_wp2_with fail
          refine bodyPost_ret (v := .tuple #[.int .u64 m, .int .i64 (dp - nm), .bool false, .bool tr, .bool false, .int .i64 N, .bool true]) (by simp [results, Tryz.results193, go_sem]) rfl ⟨?_, rfl⟩
          rw [hst.out, show Pl.expOf ⟨m, nd, nm, dp, true, true, tr⟩ 0 = dp - nm by unfold Pl.expOf; rw [if_neg hm0]; simp]
end Go.Proofs.YtgdohmaljbggjaaGreatDoor
