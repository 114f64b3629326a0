/- Floats times powers of two: the contracts of normalize and ldexp. Floats times powers of two: the contract of ldexp. Floats times powers of two: the contracts of ldexp, Ldexp and Scale. The contracts of Ldexp and Scale. Whole numbers of floats: the contracts of Trunc, Frexp and Fraction. The contract of Truncate, where the parts are told. Texts that are no infinity: the contract of special at digits. A number divided by a power of ten: the contract of atof64exact at powers below nought; that of atof64 there, and where the power is too great. -/
import Derived.Test.YtpilniljhmkedaaGreatDoorRaak
import Derived.Test.YtpilniljhmkedaaGreatDoorRaai
import Derived.Test.YtpilniljhmkedaaGreatDoorRaag
import Derived.Test.YtpilniljhmkedaaGreatDoorRaac
namespace Go.Proofs.YtpilniljhmkedaaGreatDoor.Fl
open Ieee
theorem read_tiny : D.read 4503599627370496 = .number false 4503599627370496 (-1074) := by rw [read_eq]; decide +kernel
theorem val_tiny : val (D.read 4503599627370496) = 4503599627370496 := by rw [read_tiny]; decide +kernel
/-- Below the smallest number with full digits. -/
theorem order_tiny {r : Nat} (hr : r < 9218868437227405312) : D.order r 4503599627370496 = some (compare (r : Nat) 4503599627370496) := by
  have hn : isNan r = false := by simp [isNan]; omega
  rw [order_key hn (by decide), val_tiny]
  have hr2 : r % 9223372036854775808 = r := by omega
  have hs : (r / 9223372036854775808 % 2 == 1) = false := by
    have : r / 9223372036854775808 = 0 := by omega
    rw [this]; rfl
  rw [read_eq, hr2, hs]
  by_cases h : r < 4503599627370496
  · rw [if_pos h]
    have hv : val (.number false r (-1074)) = (r : Int) := by simp [val, signed]
    rw [hv, cmp_lt (by omega)]
    simp [compare, compareOfLessAndEq, h]
  · rw [if_neg h, if_pos hr]
    have hv : val (.number false (4503599627370496 + r % 4503599627370496) (-1074 + (r / 4503599627370496 - 1 : Nat))) = (((4503599627370496 + r % 4503599627370496) * 2 ^ (r / 4503599627370496 - 1) : Nat) : Int) := by
      simp only [val, signed, Nat.shiftLeft_eq]
      have e : (-1074 + ((r / 4503599627370496 - 1 : Nat) : Int) + 1074).toNat = r / 4503599627370496 - 1 := by omega
      rw [e]; rfl
    rw [hv]
    by_cases h2 : r = 4503599627370496
    · subst h2; rfl
    · have hp : 1 ≤ 2 ^ (r / 4503599627370496 - 1) := Nat.one_le_two_pow
      have hgt : 4503599627370496 < (4503599627370496 + r % 4503599627370496) * 2 ^ (r / 4503599627370496 - 1) := by
        by_cases h3 : r % 4503599627370496 = 0
        · have h4 : 2 ≤ r / 4503599627370496 := by omega
          have : 2 ^ 1 ≤ 2 ^ (r / 4503599627370496 - 1) := Nat.pow_le_pow_right (by decide) (by omega)
          rw [h3]; omega
        · have : (4503599627370496 + r % 4503599627370496) * 1 ≤ (4503599627370496 + r % 4503599627370496) * 2 ^ (r / 4503599627370496 - 1) := Nat.mul_le_mul_left _ hp
          omega
      generalize (4503599627370496 + r % 4503599627370496) * 2 ^ (r / 4503599627370496 - 1) = v at hgt
      rw [cmp_gt (by omega)]
      have h5 : ¬ r < 4503599627370496 := h
      simp [compare, compareOfLessAndEq, h5, h2]
/-- A number's form with full digits. -/
theorem normal_form {a : Nat} (ha : a < 18446744073709551616) (hf : a % 9223372036854775808 < 9218868437227405312) (hz : a % 9223372036854775808 ≠ 0) :
    ∃ (s : Bool) (m z : Nat), 4503599627370496 ≤ m ∧ m < 9007199254740992 ∧ z ≤ 2045 ∧ s = (a / 9223372036854775808 % 2 == 1) ∧
      ((4503599627370496 ≤ a % 9223372036854775808 ∧ a = D.word s (z * 4503599627370496 + m) ∧ ∀ k, D.write (scaled k (D.read a)) = D.nearest s m (z - 1074 + k)) ∨
       (a % 9223372036854775808 < 4503599627370496 ∧ D.mul a 4841369599423283200 = some (D.word s (z * 4503599627370496 + m)) ∧ ∀ k, D.write (scaled k (D.read a)) = D.nearest s m (z - 1126 + k))) := by
  obtain ⟨r, hr⟩ : ∃ r, a % 9223372036854775808 = r := ⟨_, rfl⟩
  obtain ⟨s, hs⟩ : ∃ s, (a / 9223372036854775808 % 2 == 1) = s := ⟨_, rfl⟩
  have hread := read_eq a
  rw [hr, hs] at hread
  rw [hr] at hf hz
  by_cases h : r < 4503599627370496
  · rw [if_pos h] at hread
    obtain ⟨l1, l2, l3, l4⟩ := full_sub hz h
    refine ⟨s, r * 2 ^ (52 - r.log2), r.log2, l2, l3, by omega, hs.symm, .inr ⟨by omega, ?_, fun k => ?_⟩⟩
    · rw [mul_52 s r _ hread, l4, nearest_exact s (by omega) l3 (.inl l2) (by omega)]
      have e : (-1074 + 52 - ((52 - r.log2 : Nat) : Int) + 1074).toNat = r.log2 := by omega
      rw [e]
    · rw [hread]
      show D.nearest s r (-1074 + k) = _
      rw [l4]
      congr 1
      omega
  · rw [if_neg h, if_pos hf] at hread
    refine ⟨s, 4503599627370496 + r % 4503599627370496, r / 4503599627370496 - 1, by omega, by omega, by omega, hs.symm, .inl ⟨by omega, ?_, fun k => ?_⟩⟩
    · have h1 := word_of ha
      rw [hr, hs] at h1
      rw [← h1]
      congr 1
      omega
    · rw [hread]
      show D.nearest s _ (-1074 + ((r / 4503599627370496 - 1 : Nat) : Int) + k) = _
      have e : -1074 + ((r / 4503599627370496 - 1 : Nat) : Int) + k = ((r / 4503599627370496 - 1 : Nat) : Int) - 1074 + k := by omega
      rw [e]
end Go.Proofs.YtpilniljhmkedaaGreatDoor.Fl
namespace Go.Proofs.YtpilniljhmkedaaGreatDoor
open Go.RowKit Go.Lib
/-- What normalize answers of a number: full digits, and the power that was taken. -/
def NormOk (y : Nat) (e : Int) (w : World) (en : Ending) (w' : World) : Prop := en = .returned (.tuple #[.float .f64 y, .int .i64 e]) ∧ w = w'
set_option maxHeartbeats 1000000 in
theorem norm_big (a : Nat) (ha : a < 18446744073709551616) (hf : a % 9223372036854775808 < 9218868437227405312) (h : 4503599627370496 ≤ a % 9223372036854775808) (w : World) :
    Calls Tryz.prog 90 #[.float .f64 a] w (NormOk a 0 w) := by
  have HA := Lib.hid (abs_any a ha)
  have ho0 := Fl.order_tiny hf
  generalize a % 9223372036854775808 = r at *
  have ho : FloatKind.f64.format.order r 4503599627370496 = some .eq ∨ FloatKind.f64.format.order r 4503599627370496 = some .gt := by
    have e : FloatKind.f64.format.order r 4503599627370496 = some (compare (r : Nat) 4503599627370496) := ho0
    rw [e]
    by_cases h2 : r = 4503599627370496
    · left; subst h2; rfl
    · right
      have h5 : ¬ r < 4503599627370496 := by omega
      simp [compare, compareOfLessAndEq, h5, h2]
  clear ho0 h hf
  rcases ho with ho | ho
  all_goals
    go_enter Tryz.func90, Tryz.ntmps90
    go_wp2_with fail
    refine (HA.out _).mono ?_
    rintro e w' ⟨rfl, rfl⟩
    go_wp2_with fail
    go_ret2
    exact ⟨rfl, rfl⟩
set_option maxHeartbeats 1000000 in
theorem norm_small (a y : Nat) (ha : a < 18446744073709551616) (h : a % 9223372036854775808 < 4503599627370496) (hy : Fl.D.mul a 4841369599423283200 = some y) (w : World) :
    Calls Tryz.prog 90 #[.float .f64 a] w (NormOk y (-52) w) := by
  have HA := Lib.hid (abs_any a ha)
  have ho0 := Fl.order_tiny (r := a % 9223372036854775808) (by omega)
  have h2 := fun (t : TypeId) (w : World) => run_float_arith (P := Tryz.prog) w .mul t .f64 a 4841369599423283200 y hy
  generalize a % 9223372036854775808 = r at *
  have ho : FloatKind.f64.format.order r 4503599627370496 = some .lt := by
    have e : FloatKind.f64.format.order r 4503599627370496 = some (compare (r : Nat) 4503599627370496) := ho0
    rw [e]
    simp [compare, compareOfLessAndEq, h]
  clear ho0 h hy
  go_enter Tryz.func90, Tryz.ntmps90
  go_wp2_with fail
  refine (HA.out _).mono ?_
  rintro e w' ⟨rfl, rfl⟩
  go_wp2_with fail
  go_ret2
  exact ⟨rfl, rfl⟩
theorem isNaN_no (a : Nat) (h : Fl.isNan a = false) (w : World) : Calls Tryz.prog 89 #[.float .f64 a] w fun e w' => e = .returned (.bool false) ∧ w = w' := by
  have ho : FloatKind.f64.format.order a a = some .eq := by rw [Fl.order_self, h]; rfl
  go_enter Tryz.func89, Tryz.ntmps89
  go_wp2_with fail
  go_ret
  exact ⟨rfl, rfl⟩
theorem isNaN_yes (a : Nat) (h : Fl.isNan a = true) (w : World) : Calls Tryz.prog 89 #[.float .f64 a] w fun e w' => e = .returned (.bool true) ∧ w = w' := by
  have ho : FloatKind.f64.format.order a a = none := by rw [Fl.order_self, h]; rfl
  go_enter Tryz.func89, Tryz.ntmps89
  go_wp2_with fail
  go_ret
  exact ⟨rfl, rfl⟩
theorem inf_any (n : Int) (w : World) (hn : n = 1 ∨ n = -1) : Calls Tryz.prog 92 #[.int .i64 n] w fun e w' => e = .returned (.float .f64 (if n = 1 then 9218868437227405312 else 18442240474082181120)) ∧ w = w' := by
  have h1 := run_frombits
  rcases hn with rfl | rfl
  all_goals
    go_enter Tryz.func92, Tryz.ntmps92
    go_wp2_with fail
    go_ret
    exact ⟨rfl, rfl⟩
end Go.Proofs.YtpilniljhmkedaaGreatDoor
namespace Go.Proofs.YtpilniljhmkedaaGreatDoor
open Go.RowKit Go.Lib
namespace Fl
open Ieee
theorem word_is (s : Bool) (r : Nat) : D.word s r = (if s then 9223372036854775808 else 0) + r := by
  unfold Format.word
  have : D.signWeight = 9223372036854775808 := by decide
  rw [this]
  cases s
  · simp
  · rfl
theorem order_sign (s : Bool) {m z : Nat} (h1 : 4503599627370496 ≤ m) (h2 : m < 9007199254740992) (hz : z ≤ 2045) : D.order (D.word s (z * 4503599627370496 + m)) 0 = some (if s then .lt else .gt) := by
  obtain ⟨r1, r2, r3⟩ := read_full s h1 h2 hz
  rw [order_key r3 (by decide), r1]
  have h0 : val (D.read 0) = 0 := by rw [read_eq]; decide +kernel
  rw [h0]
  simp only [val]
  unfold Ieee.signed
  rw [Nat.shiftLeft_eq]
  have hp : 0 < m * 2 ^ ((z : Int) - 1074 + 1074).toNat := Nat.mul_pos (by omega) (Nat.pow_pos (by decide))
  generalize m * 2 ^ ((z : Int) - 1074 + 1074).toNat = v at *
  cases s
  · rw [cmp_gt (by simp; omega)]; rfl
  · rw [cmp_lt (by simp; omega)]; rfl
end Fl
theorem andnot_ex (s : Bool) {m z : Nat} (h1 : 4503599627370496 ≤ m) (h2 : m < 9007199254740992) (hz : z ≤ 2045) : bits .andNot .u64 ((Fl.D.word s (z * 4503599627370496 + m) : Nat) : Int) 9218868437227405312 = (((if s then 9223372036854775808 else 0) + (m - 4503599627370496) : Nat) : Int) := by
  rw [Fl.word_is]
  have h := u64_andNot_nat ((if s then 9223372036854775808 else 0) + (z * 4503599627370496 + m)) 9218868437227405312 (by cases s <;> simp <;> omega) (by omega)
  rw [show ((9218868437227405312 : Nat) : Int) = 9218868437227405312 from rfl] at h
  have key : ((if s then 9223372036854775808 else 0) + (z * 4503599627370496 + m)) &&& (18446744073709551615 - 9218868437227405312) = (if s then 9223372036854775808 else 0) + (m - 4503599627370496) := by
    have hc : 18446744073709551615 - 9218868437227405312 = 9223372036854775808 ||| (2 ^ 52 - 1) := by decide
    rw [hc, Nat.and_or_distrib_left, Nat.and_two_pow_sub_one_eq_mod]
    have e1 : ((if s then 9223372036854775808 else 0) + (z * 4503599627370496 + m)) % 2 ^ 52 = m - 4503599627370496 := by
      have : (2 : Nat) ^ 52 = 4503599627370496 := by decide
      rw [this]; cases s <;> simp <;> omega
    have e2 : ((if s then 9223372036854775808 else 0) + (z * 4503599627370496 + m)) &&& 9223372036854775808 = (if s then 9223372036854775808 else 0) := by
      have hk : (9223372036854775808 : Nat) = 2 ^ 63 := by decide
      rw [hk]
      have ht : (((if s then 2 ^ 63 else 0) + (z * 4503599627370496 + m))).testBit 63 = s := by
        rw [Nat.testBit_eq_decide_div_mod_eq]
        cases s
        · have : ((if false = true then 2 ^ 63 else 0) + (z * 4503599627370496 + m)) / 2 ^ 63 % 2 = 0 := by simp; omega
          rw [this]; rfl
        · have : ((if true = true then 2 ^ 63 else 0) + (z * 4503599627370496 + m)) / 2 ^ 63 % 2 = 1 := by simp; omega
          rw [this]; rfl
      apply Nat.eq_of_testBit_eq
      intro i
      rw [Nat.testBit_and, Nat.testBit_two_pow]
      by_cases hi : 63 = i
      · subst hi
        rw [ht]
        cases s
        · simp
        · simp; decide
      · cases s
        · simp [hi]
        · have h2 := Nat.testBit_two_pow (n := 63) (m := i)
          rw [← hk] at h2
          simp [hi] at h2 ⊢
          exact h2
    rw [e1, e2]
    have hlt : m - 4503599627370496 < 2 ^ 63 := by omega
    cases s
    · simp
    · rw [if_pos rfl]
      have := Nat.two_pow_add_eq_or_of_lt (i := 63) hlt 1
      simpa using this.symm
  rw [h, key]
theorem or_ex (s : Bool) {m z : Nat} (h1 : 4503599627370496 ≤ m) (h2 : m < 9007199254740992) (hz : z ≤ 2045) : bits .or .u64 (((if s then 9223372036854775808 else 0) + (m - 4503599627370496) : Nat) : Int) (((z + 1) * 4503599627370496 : Nat) : Int) = ((Fl.D.word s (z * 4503599627370496 + m) : Nat) : Int) := by
  rw [bits_or (by cases s <;> simp <;> omega) (by omega), Fl.word_is]
  apply congrArg (fun n : Nat => (n : Int))
  have hlt : m - 4503599627370496 < 2 ^ 52 := by omega
  have e1 : (z + 1) * 4503599627370496 ||| (m - 4503599627370496) = (z + 1) * 4503599627370496 + (m - 4503599627370496) := by
    have := Nat.two_pow_add_eq_or_of_lt (i := 52) hlt (z + 1)
    rw [show (2 : Nat) ^ 52 = 4503599627370496 by decide] at this
    rw [Nat.mul_comm, ← this]
  cases s
  · simp only [Bool.false_eq_true, if_false, Nat.zero_add]
    rw [Nat.or_comm, e1]; omega
  · rw [if_pos rfl]
    have h63 : ∀ r, r < 2 ^ 63 → 9223372036854775808 + r = 9223372036854775808 ||| r := fun r hr => by
      have := Nat.two_pow_add_eq_or_of_lt (i := 63) hr 1
      simpa using this
    rw [h63 _ (by omega), Nat.or_assoc, Nat.or_comm (m - 4503599627370496), e1, ← h63 _ (by omega)]
    omega
theorem copysign_zero (s : Bool) (y r : Nat) (hy : y = (if s then 9223372036854775808 else 0) + r) (hr : r < 9223372036854775808) (w : World) :
    Calls Tryz.prog 91 #[.float .f64 0, .float .f64 y] w fun e w' => e = .returned (.float .f64 (if s then 9223372036854775808 else 0)) ∧ w = w' := by
  have h1 := run_bits
  have h2 := run_frombits
  have b1 : bits .andNot .u64 0 9223372036854775808 = 0 := by decide
  obtain ⟨t, ht⟩ : ∃ t : Nat, (if s then 9223372036854775808 else 0) = t := ⟨_, rfl⟩
  have b2 : bits .and .u64 (y : Int) 9223372036854775808 = (t : Int) := by
    have hy2 : y < 18446744073709551616 := by rw [hy]; cases s <;> simp <;> omega
    have h64 : (2 : Nat) ^ IntKind.u64.bits = 18446744073709551616 := rfl
    have e : (9223372036854775808 : Int) = ((9223372036854775808 : Nat) : Int) := rfl
    rw [e]
    simp only [bits, BitVec.ofInt_natCast, BitVec.toNat_and, BitVec.toNat_ofNat, h64]
    rw [Nat.mod_eq_of_lt hy2, Nat.mod_eq_of_lt (show 9223372036854775808 < 18446744073709551616 by decide)]
    have key : y &&& 9223372036854775808 = t := by
      have hk : (9223372036854775808 : Nat) = 2 ^ 63 := by decide
      rw [← ht, hk]
      apply Nat.eq_of_testBit_eq
      intro i
      rw [Nat.testBit_and, Nat.testBit_two_pow]
      by_cases hi : 63 = i
      · subst hi
        have hbit : y.testBit 63 = s := by
          rw [Nat.testBit_eq_decide_div_mod_eq]
          cases s
          · have : y / 2 ^ 63 % 2 = 0 := by simp at hy; omega
            rw [this]; rfl
          · have : y / 2 ^ 63 % 2 = 1 := by simp at hy; omega
            rw [this]; rfl
        rw [hbit]
        cases s
        · simp
        · simp; decide
      · cases s
        · simp [hi]
        · have h2 := Nat.testBit_two_pow (n := 63) (m := i)
          rw [← hk] at h2
          simp [hi] at h2 ⊢
          exact h2
    rw [key, wrap_nat (by rw [← ht]; cases s <;> decide)]
  have b3 : bits .or .u64 0 (t : Int) = (t : Int) := by
    have := bits_or (a := 0) (b := t) (by decide) (by rw [← ht]; cases s <;> decide)
    simpa using this
  rw [ht]
  clear hy hr ht
  go_enter Tryz.func91, Tryz.ntmps91
  go_wp2_with fail
  go_ret
  exact ⟨rfl, rfl⟩
end Go.Proofs.YtpilniljhmkedaaGreatDoor
namespace Go.Proofs.YtpilniljhmkedaaGreatDoor
open Go.RowKit Go.Lib
set_option maxHeartbeats 2000000 in
theorem ldexp_core (a y m z : Nat) (s : Bool) (k e0 : Int) (w : World) (ha : a < 18446744073709551616) (hf : a % 9223372036854775808 < 9218868437227405312) (hz : a % 9223372036854775808 ≠ 0)
    (hn : ∀ w, Calls Tryz.prog 90 #[.float .f64 a] w (NormOk y e0 w)) (hy : y = Fl.D.word s (z * 4503599627370496 + m)) (h1 : 4503599627370496 ≤ m) (h2 : m < 9007199254740992) (hzz : z ≤ 2045) (he0 : -52 ≤ e0 ∧ e0 ≤ 0) (hk : -40000 ≤ k ∧ k ≤ 40000) :
    Calls Tryz.prog 60 #[.float .f64 a, .int .i64 k] w fun e w' => e = .returned (.float .f64 (Fl.D.nearest s m (z - 1074 + e0 + k))) ∧ w = w' := by
  have HZ0 : FloatKind.f64.format.order a 0 = some .lt ∨ FloatKind.f64.format.order a 0 = some .gt := Fl.order_zero hf hz
  have HI := Lib.hid (fun w => isInf0_any a ha w)
  rw [decide_eq_false (by omega)] at HI
  have HNN := Lib.hid (fun w => isNaN_no a (by simp [Fl.isNan]; omega) w)
  have HN := Lib.hid hn
  have hb := run_bits
  have hfb := run_frombits
  obtain ⟨r1, r2, r3⟩ := Fl.read_full s h1 h2 hzz
  rw [← hy] at r2
  have HOS : FloatKind.f64.format.order y 0 = some (if s then .lt else .gt) := by rw [hy]; exact Fl.order_sign s h1 h2 hzz
  have hyw : y = (if s then 9223372036854775808 else 0) + (z * 4503599627370496 + m) := by rw [hy, Fl.word_is]
  obtain ⟨Z, hZ⟩ : ∃ Z, z + 1 = Z := ⟨_, rfl⟩
  have hex : bits .and .i64 ((y : Int) / 4503599627370496) 2047 = (Z : Int) := by
    rw [bits_ex y r2, ← hZ]
    congr 1
    rw [hyw]; cases s <;> simp <;> omega
  obtain ⟨E, hE⟩ : ∃ E : Int, k + e0 + ((Z : Int) - 1023) = E := ⟨_, rfl⟩
  have HR := Lib.hid (show Fl.D.nearest s m (z - 1074 + e0 + k) = Fl.D.nearest s m (E - 52) by congr 1; omega)
  rw [HR.out]
  have hEb : -43000 ≤ E ∧ E ≤ 43000 := by omega
  have hZb : 1 ≤ Z ∧ Z ≤ 2046 := by omega
  obtain ⟨X0, hX0⟩ : ∃ X0 : Nat, (if s then 9223372036854775808 else 0) + (m - 4503599627370496) = X0 := ⟨_, rfl⟩
  have hand : bits .andNot .u64 (y : Int) 9218868437227405312 = (X0 : Int) := by rw [hy, andnot_ex s h1 h2 hzz, hX0]
  have HOR := Lib.hid (fun (q : Nat) (hq : q ≤ 2045) => or_ex s h1 h2 hq)
  rw [hX0] at HOR
  have HCS := Lib.hid (fun w => copysign_zero s y (z * 4503599627370496 + m) hyw (by omega) w)
  have HM1 := Lib.hid (fun (q : Nat) (hq : q ≤ 2045) => Fl.mul_one s h1 h2 hq)
  have HMH := Lib.hid (fun (q : Nat) (hq : q ≤ 2045) => Fl.mul_half s h1 h2 hq)
  have HS := Lib.hid (fun (hx : E < -1075) => Fl.nearest_small s h1 h2 hx)
  have HG := Lib.hid (fun (hx : 1023 < E) => Fl.nearest_great s h1 h2 hx)
  clear hn hy r1 r3 hyw hZ hX0 hf hz HR h1 h2 hzz
  by_cases c1 : E < -1075
  · have HQ := Lib.hid (HS.out c1)
    rcases HZ0 with ho | ho
    all_goals
      go_enter Tryz.func60, Tryz.ntmps60
      go_wp2_with fail
      refine (HI.out _).mono ?_
      rintro e w' ⟨rfl, rfl⟩
      go_wp2_with fail
      refine (HNN.out _).mono ?_
      rintro e w' ⟨rfl, rfl⟩
      go_wp2_with fail
      refine (HN.out _).mono ?_
      rintro e w' ⟨rfl, rfl⟩
      go_wp2_with fail
      refine (HCS.out _).mono ?_
      rintro e w' ⟨rfl, rfl⟩
      generalize hg : (if s = true then 9223372036854775808 else 0) = t
      have HT := Lib.hid hg
      clear hg HOS
      go_wp2_with fail
      go_ret
      exact ⟨ret_float (by rw [HQ.out, Fl.word_is, HT.out]; rfl), rfl⟩
  by_cases c2 : 1023 < E
  · have HQ := Lib.hid (HG.out c2)
    cases s
    · have ho2 : FloatKind.f64.format.order y 0 = some .gt := HOS
      clear HOS
      rcases HZ0 with ho | ho
      all_goals
        go_enter Tryz.func60, Tryz.ntmps60
        go_wp2_with fail
        refine (HI.out _).mono ?_
        rintro e w' ⟨rfl, rfl⟩
        go_wp2_with fail
        refine (HNN.out _).mono ?_
        rintro e w' ⟨rfl, rfl⟩
        go_wp2_with fail
        refine (HN.out _).mono ?_
        rintro e w' ⟨rfl, rfl⟩
        go_wp2_with fail
        refine (inf_any 1 _ (.inl rfl)).mono ?_
        rintro e w' ⟨rfl, rfl⟩
        go_wp2_with fail
        go_ret
        exact ⟨ret_float (by rw [HQ.out, Fl.word_is]; rfl), rfl⟩
    · have ho2 : FloatKind.f64.format.order y 0 = some .lt := HOS
      clear HOS
      rcases HZ0 with ho | ho
      all_goals
        go_enter Tryz.func60, Tryz.ntmps60
        go_wp2_with fail
        refine (HI.out _).mono ?_
        rintro e w' ⟨rfl, rfl⟩
        go_wp2_with fail
        refine (HNN.out _).mono ?_
        rintro e w' ⟨rfl, rfl⟩
        go_wp2_with fail
        refine (HN.out _).mono ?_
        rintro e w' ⟨rfl, rfl⟩
        go_wp2_with fail
        refine (inf_any (-1) _ (.inr rfl)).mono ?_
        rintro e w' ⟨rfl, rfl⟩
        go_wp2_with fail
        go_ret
        exact ⟨ret_float (by rw [HQ.out, Fl.word_is]; rfl), rfl⟩
  clear HOS
  by_cases c3 : E < -1022
  · obtain ⟨Q, hQ⟩ : ∃ Q : Nat, E + 53 + 1023 = (Q : Int) := ⟨(E + 53 + 1023).toNat, by omega⟩
    have hQ1 : 1 ≤ Q ∧ Q ≤ 2046 := by omega
    obtain ⟨X1, hX1⟩ : ∃ X1, Fl.D.word s ((Q - 1) * 4503599627370496 + m) = X1 := ⟨_, rfl⟩
    have hor : bits .or .u64 (X0 : Int) ((Q : Int) * 4503599627370496) = (X1 : Int) := by
      have := HOR.out (Q - 1) (by omega)
      rw [hX1, show Q - 1 + 1 = Q by omega] at this
      rw [← this]; simp
    have hm := HMH.out (Q - 1) (by omega)
    rw [hX1, show ((Q - 1 : Nat) : Int) - 1127 = E - 52 by omega] at hm
    have h6 := fun (t : TypeId) (w : World) => run_float_arith (P := Tryz.prog) w .mul t .f64 4368491638549381120 X1 _ hm
    generalize Fl.D.nearest s m (E - 52) = R at *
    clear HOR HM1 HMH HS HG hm hX1
    rcases HZ0 with ho | ho
    all_goals
      go_enter Tryz.func60, Tryz.ntmps60
      go_wp2_with fail
      refine (HI.out _).mono ?_
      rintro e w' ⟨rfl, rfl⟩
      go_wp2_with fail
      refine (HNN.out _).mono ?_
      rintro e w' ⟨rfl, rfl⟩
      go_wp2_with fail
      refine (HN.out _).mono ?_
      rintro e w' ⟨rfl, rfl⟩
      go_wp2_with fail
      go_ret
      exact ⟨rfl, rfl⟩
  · obtain ⟨Q, hQ⟩ : ∃ Q : Nat, E + 1023 = (Q : Int) := ⟨(E + 1023).toNat, by omega⟩
    have hQ1 : 1 ≤ Q ∧ Q ≤ 2046 := by omega
    obtain ⟨X1, hX1⟩ : ∃ X1, Fl.D.word s ((Q - 1) * 4503599627370496 + m) = X1 := ⟨_, rfl⟩
    have hor : bits .or .u64 (X0 : Int) ((Q : Int) * 4503599627370496) = (X1 : Int) := by
      have := HOR.out (Q - 1) (by omega)
      rw [hX1, show Q - 1 + 1 = Q by omega] at this
      rw [← this]; simp
    have hm := HM1.out (Q - 1) (by omega)
    rw [hX1, show ((Q - 1 : Nat) : Int) - 1074 = E - 52 by omega] at hm
    have h6 := fun (t : TypeId) (w : World) => run_float_arith (P := Tryz.prog) w .mul t .f64 4607182418800017408 X1 _ hm
    generalize Fl.D.nearest s m (E - 52) = R at *
    clear HOR HM1 HMH HS HG hm hX1
    rcases HZ0 with ho | ho
    all_goals
      go_enter Tryz.func60, Tryz.ntmps60
      go_wp2_with fail
      refine (HI.out _).mono ?_
      rintro e w' ⟨rfl, rfl⟩
      go_wp2_with fail
      refine (HNN.out _).mono ?_
      rintro e w' ⟨rfl, rfl⟩
      go_wp2_with fail
      refine (HN.out _).mono ?_
      rintro e w' ⟨rfl, rfl⟩
      go_wp2_with fail
      go_ret
      exact ⟨rfl, rfl⟩
theorem ldexp_num (a : Nat) (k : Int) (w : World) (ha : a < 18446744073709551616) (hf : a % 9223372036854775808 < 9218868437227405312) (hz : a % 9223372036854775808 ≠ 0) (hk : -40000 ≤ k ∧ k ≤ 40000) :
    Calls Tryz.prog 60 #[.float .f64 a, .int .i64 k] w fun e w' => e = .returned (.float .f64 (Fl.fldexp a k)) ∧ w = w' := by
  have hnn : Fl.isNan a = false := by simp [Fl.isNan]; omega
  obtain ⟨s, m, z, h1, h2, h3, _, h⟩ := Fl.normal_form ha hf hz
  unfold Fl.fldexp
  rw [hnn]
  rcases h with ⟨hb, hy, hr⟩ | ⟨hb, hy, hr⟩
  · have := ldexp_core a a m z s k 0 w ha hf hz (fun w => norm_big a ha hf hb w) hy h1 h2 h3 (by omega) hk
    rw [show (z : Int) - 1074 + 0 + k = z - 1074 + k by omega] at this
    simpa [hr k] using this
  · have := ldexp_core a _ m z s k (-52) w ha hf hz (fun w => norm_small a _ ha hb hy w) rfl h1 h2 h3 (by omega) hk
    rw [show (z : Int) - 1074 + -52 + k = z - 1126 + k by omega] at this
    simpa [hr k] using this
theorem ldexp_zero (a : Nat) (k : Int) (w : World) (hz : FloatKind.f64.format.order a 0 = some .eq) :
    Calls Tryz.prog 60 #[.float .f64 a, .int .i64 k] w fun e w' => e = .returned (.float .f64 a) ∧ w = w' := by
  go_enter Tryz.func60, Tryz.ntmps60
  go_wp2_with fail
  go_ret
  exact ⟨rfl, rfl⟩
end Go.Proofs.YtpilniljhmkedaaGreatDoor
namespace Go.Proofs.YtpilniljhmkedaaGreatDoor.Fl
open Ieee
theorem fldexp_zero {a : Nat} (k : Int) (ha : a < 18446744073709551616) (hz : a % 9223372036854775808 = 0) : fldexp a k = a := by
  have hnn : isNan a = false := by simp [isNan]; omega
  unfold fldexp
  rw [hnn, if_neg (by decide)]
  have h1 := word_of ha
  rw [hz] at h1
  rw [read_eq, if_pos (by omega), hz]
  show D.nearest _ 0 (-1074 + k) = a
  unfold Format.nearest
  rw [if_pos rfl]
  exact h1
theorem fldexp_inf {a : Nat} (k : Int) (ha : a < 18446744073709551616) (hz : a % 9223372036854775808 = 9218868437227405312) : fldexp a k = a := by
  have hnn : isNan a = false := by simp [isNan]; omega
  have h := write_read ha hnn
  have hr : D.read a = .infinity (a / 9223372036854775808 % 2 == 1) := by rw [read_eq, if_neg (by omega), if_neg (by omega), if_pos hz]
  unfold fldexp
  rw [hnn, if_neg (by decide)]
  rw [hr] at h ⊢
  exact h
theorem order_zero_eq {a : Nat} (hz : a % 9223372036854775808 = 0) : D.order a 0 = some .eq := by
  rw [order_key (by simp [isNan]; omega) (by decide)]
  have h0 : val (D.read 0) = 0 := by rw [read_eq]; decide +kernel
  have h1 : val (D.read a) = 0 := by
    rw [read_eq, if_pos (by omega), hz]
    simp only [val]
    unfold Ieee.signed
    simp
  rw [h0, h1]; rfl
set_option exponentiation.threshold 3000 in
theorem order_inf {a : Nat} (ha : a % 9223372036854775808 = 9218868437227405312) : D.order a 0 = some .lt ∨ D.order a 0 = some .gt := by
  rw [order_key (by simp [isNan]; omega) (by decide)]
  have h0 : val (D.read 0) = 0 := by rw [read_eq]; decide +kernel
  rw [h0, read_eq, if_neg (by omega), if_neg (by omega), if_pos ha]
  simp only [val]
  have hp : (0 : Nat) < 2 ^ 2200 := Nat.pow_pos (by decide)
  unfold Ieee.signed
  rw [Nat.shiftLeft_eq, Nat.one_mul]
  generalize 2 ^ 2200 = v at hp
  cases (a / 9223372036854775808 % 2 == 1)
  · right; rw [cmp_gt (by simp; omega)]
  · left; rw [cmp_lt (by simp; omega)]
end Go.Proofs.YtpilniljhmkedaaGreatDoor.Fl
namespace Go.Proofs.YtpilniljhmkedaaGreatDoor
open Go.RowKit Go.Lib
theorem ldexp_inf (a : Nat) (k : Int) (w : World) (ha : a < 18446744073709551616) (hi : a % 9223372036854775808 = 9218868437227405312) :
    Calls Tryz.prog 60 #[.float .f64 a, .int .i64 k] w fun e w' => e = .returned (.float .f64 a) ∧ w = w' := by
  have HI := Lib.hid (fun w => isInf0_any a ha w)
  rw [decide_eq_true hi] at HI
  have ho : FloatKind.f64.format.order a 0 = some .lt ∨ FloatKind.f64.format.order a 0 = some .gt := Fl.order_inf hi
  clear hi
  rcases ho with ho | ho
  all_goals
    go_enter Tryz.func60, Tryz.ntmps60
    go_wp2_with fail
    refine (HI.out _).mono ?_
    rintro e w' ⟨rfl, rfl⟩
    go_wp2_with fail
    go_ret
    exact ⟨rfl, rfl⟩
theorem ldexp_nan (a : Nat) (k : Int) (w : World) (ha : a < 18446744073709551616) (hn : Fl.isNan a = true) :
    Calls Tryz.prog 60 #[.float .f64 a, .int .i64 k] w fun e w' => e = .returned (.float .f64 a) ∧ w = w' := by
  have hi : ¬ a % 9223372036854775808 = 9218868437227405312 := by simp [Fl.isNan] at hn; omega
  have HI := Lib.hid (fun w => isInf0_any a ha w)
  rw [decide_eq_false hi] at HI
  have HN := Lib.hid (fun w => isNaN_yes a hn w)
  have ho : FloatKind.f64.format.order a 0 = none := Fl.order_nan_left 0 hn
  clear hi hn
  go_enter Tryz.func60, Tryz.ntmps60
  go_wp2_with fail
  refine (HI.out _).mono ?_
  rintro e w' ⟨rfl, rfl⟩
  go_wp2_with fail
  refine (HN.out _).mono ?_
  rintro e w' ⟨rfl, rfl⟩
  go_wp2_with fail
  go_ret
  exact ⟨rfl, rfl⟩
theorem ldexp_all (a : Nat) (k : Int) (w : World) (ha : a < 18446744073709551616) (hk : -40000 ≤ k ∧ k ≤ 40000) :
    Calls Tryz.prog 60 #[.float .f64 a, .int .i64 k] w fun e w' => e = .returned (.float .f64 (Fl.fldexp a k)) ∧ w = w' := by
  by_cases h0 : a % 9223372036854775808 = 0
  · rw [Fl.fldexp_zero k ha h0]; exact ldexp_zero a k w (Fl.order_zero_eq h0)
  · rcases Nat.lt_trichotomy (a % 9223372036854775808) 9218868437227405312 with h | h | h
    · exact ldexp_num a k w ha h h0 hk
    · rw [Fl.fldexp_inf k ha h]; exact ldexp_inf a k w ha h
    · have hn : Fl.isNan a = true := by simp [Fl.isNan]; omega
      have e : Fl.fldexp a k = a := by unfold Fl.fldexp; rw [hn]; rfl
      rw [e]; exact ldexp_nan a k w ha hn
theorem Ldexp_any (a : Nat) (k : Int) (w : World) (ha : a < 18446744073709551616) (hk : -40000 ≤ k ∧ k ≤ 40000) :
    Calls Tryz.prog 31 #[.float .f64 a, .int .i64 k] w fun e w' => e = .returned (.float .f64 (Fl.fldexp a k)) ∧ w = w' := by
  have H := Lib.hid (fun w => ldexp_all a k w ha hk)
  generalize Fl.fldexp a k = r at *
  go_enter Tryz.func31, Tryz.ntmps31
  go_wp2_with fail
  refine (H.out _).mono ?_
  rintro e w' ⟨rfl, rfl⟩
  go_wp2_with fail
  go_ret
  exact ⟨rfl, rfl⟩
theorem scale_any (a : Nat) (n : Int) (w : World) (ha : a < 18446744073709551616) :
    Calls Tryz.prog 13 #[.int .u64 a, .int .i64 n] w fun e w' => e = .returned (.int .u64 (Fl.fscale a n)) ∧ w = w' := by
  obtain ⟨c, hc⟩ : ∃ c, Fl.clamp n = c := ⟨_, rfl⟩
  have hcb : -3000 ≤ c ∧ c ≤ 3000 := by rw [← hc]; unfold Fl.clamp; omega
  have hc2 : max (min n 3000) (-3000) = c := hc
  have H := Lib.hid (fun w => Ldexp_any a c w ha (by omega))
  have HV := Lib.hid (show Fl.fscale a n = Fl.told (Fl.fldexp a c) by unfold Fl.fscale; rw [hc])
  rw [HV.out]
  generalize Fl.fldexp a c = r at *
  clear hc
  go_enter Tryz.func13, Tryz.ntmps13
  go_wp2_with fail
  refine (of_any _ _).mono ?_
  rintro e w' ⟨rfl, rfl⟩
  go_wp2_with fail
  refine (H.out _).mono ?_
  rintro e w' ⟨rfl, rfl⟩
  go_wp2_with fail
  refine (told_any _ _).mono ?_
  rintro e w' ⟨rfl, rfl⟩
  go_wp2_with fail
  go_ret
  exact ⟨rfl, rfl⟩
end Go.Proofs.YtpilniljhmkedaaGreatDoor
namespace Go.Proofs.YtpilniljhmkedaaGreatDoor
open Go.RowKit Go.Lib
/-- A float without what is behind its point (of all but no number). -/
def Fl.ftrunc (a : Nat) : Nat := FloatKind.f64.encode ((FloatKind.f64.decode a).integral .zero)
theorem integral_good (name : String) (way : Ieee.Toward) (a : Nat) (h : Fl.isNan a = false) : Extern.MathFloor.toIntegral name way #[.float .f64 a] = pure (.float .f64 (FloatKind.f64.encode ((FloatKind.f64.decode a).integral way))) := by
  have hg : Fl.Good (FloatKind.f64.decode a) := Fl.good_read h
  change Extern.MathFloor.toIntegral.match_1 _ (FloatKind.f64.decode a) _ _ = _
  generalize FloatKind.f64.decode a = d at hg
  cases d with
  | number s m i => rfl
  | infinity s => rfl
  | nan s f => exact hg.elim
theorem run_trunc (a : Nat) (w : World) (h : Fl.isNan a = false) : (callFunc 57 #[.float .f64 a]).run Tryz.prog w = .ok (.value (.float .f64 (Fl.ftrunc a))) w := by
  rw [run_callFunc_extern Tryz.func57 (by kernel_rfl) (by kernel_rfl) (by kernel_rfl) (show Extern.find _ = some (Extern.MathFloor.toIntegral "math.archTrunc" .zero) by kernel_rfl), integral_good _ _ _ h]
  rfl
theorem trunc_num (a : Nat) (w : World) (h : Fl.isNan a = false) : Calls Tryz.prog 30 #[.float .f64 a] w fun e w' => e = .returned (.float .f64 (Fl.ftrunc a)) ∧ w = w' := by
  have h1 := fun w => run_trunc a w h
  generalize Fl.ftrunc a = b at *
  go_enter Tryz.func30, Tryz.ntmps30
  go_wp2_with fail
  go_ret
  exact ⟨rfl, rfl⟩
/-- A fraction and a power of two. -/
def FrexpIs (a f : Nat) (e : Int) : Prop := ∀ w, Calls Tryz.prog 29 #[.float .f64 a] w fun en w' => en = .returned (.tuple #[.float .f64 f, .int .i64 e]) ∧ w = w'
theorem frexp_zero (a : Nat) (hz : FloatKind.f64.format.order a 0 = some .eq) (w : World) : Calls Tryz.prog 56 #[.float .f64 a] w fun en w' => en = .returned (.tuple #[.float .f64 a, .int .i64 0]) ∧ w = w' := by
  go_enter Tryz.func56, Tryz.ntmps56
  go_wp2_with fail
  go_ret2
  exact ⟨rfl, rfl⟩
set_option maxHeartbeats 1000000 in
theorem frexp_core (a y m z : Nat) (s : Bool) (e0 : Int) (w : World) (ha : a < 18446744073709551616) (hf : a % 9223372036854775808 < 9218868437227405312) (hz : a % 9223372036854775808 ≠ 0)
    (hn : ∀ w, Calls Tryz.prog 90 #[.float .f64 a] w (NormOk y e0 w)) (hy : y = Fl.D.word s (z * 4503599627370496 + m)) (h1 : 4503599627370496 ≤ m) (h2 : m < 9007199254740992) (hzz : z ≤ 2045) (he0 : -52 ≤ e0 ∧ e0 ≤ 0) :
    Calls Tryz.prog 56 #[.float .f64 a] w fun en w' => en = .returned (.tuple #[.float .f64 (Fl.D.word s (1021 * 4503599627370496 + m)), .int .i64 (z - 1021 + e0)]) ∧ w = w' := by
  have HZ0 : FloatKind.f64.format.order a 0 = some .lt ∨ FloatKind.f64.format.order a 0 = some .gt := Fl.order_zero hf hz
  have HI := Lib.hid (fun w => isInf0_any a ha w)
  rw [decide_eq_false (by omega)] at HI
  have HNN := Lib.hid (fun w => isNaN_no a (by simp [Fl.isNan]; omega) w)
  have HN := Lib.hid hn
  have hb := run_bits
  have hfb := run_frombits
  obtain ⟨r1, r2, r3⟩ := Fl.read_full s h1 h2 hzz
  rw [← hy] at r2
  have hyw : y = (if s then 9223372036854775808 else 0) + (z * 4503599627370496 + m) := by rw [hy, Fl.word_is]
  obtain ⟨Z, hZ⟩ : ∃ Z, z + 1 = Z := ⟨_, rfl⟩
  have hex : bits .and .u64 ((y : Int) / 4503599627370496) 2047 = (Z : Int) := by
    rw [bits_exu y r2, ← hZ]
    congr 1
    rw [hyw]; cases s <;> simp <;> omega
  have HZ := Lib.hid (show (z : Int) - 1021 + e0 = e0 + ((Z : Int) - 1023 + 1) by omega)
  have hZb : 1 ≤ Z ∧ Z ≤ 2046 := by omega
  obtain ⟨X0, hX0⟩ : ∃ X0 : Nat, (if s then 9223372036854775808 else 0) + (m - 4503599627370496) = X0 := ⟨_, rfl⟩
  have hand : bits .andNot .u64 (y : Int) 9218868437227405312 = (X0 : Int) := by rw [hy, andnot_ex s h1 h2 hzz, hX0]
  obtain ⟨X1, hX1⟩ : ∃ X1, Fl.D.word s (1021 * 4503599627370496 + m) = X1 := ⟨_, rfl⟩
  have hor : bits .or .u64 (X0 : Int) 4602678819172646912 = (X1 : Int) := by
    have := or_ex s h1 h2 (z := 1021) (by omega)
    rw [hX0, hX1] at this
    exact this
  rw [hX1, HZ.out]
  clear hn hy r1 r3 hyw hZ hX0 hf hz h1 h2 hzz hX1 HZ
  rcases HZ0 with ho | ho
  all_goals
    go_enter Tryz.func56, Tryz.ntmps56
    go_wp2_with fail
    refine (HI.out _).mono ?_
    rintro e w' ⟨rfl, rfl⟩
    go_wp2_with fail
    refine (HNN.out _).mono ?_
    rintro e w' ⟨rfl, rfl⟩
    go_wp2_with fail
    refine (HN.out _).mono ?_
    rintro e w' ⟨rfl, rfl⟩
    go_wp2_with fail
    go_ret2
    exact ⟨rfl, rfl⟩
theorem frexp_wrap (a f : Nat) (e : Int) (h : ∀ w, Calls Tryz.prog 56 #[.float .f64 a] w fun en w' => en = .returned (.tuple #[.float .f64 f, .int .i64 e]) ∧ w = w') : FrexpIs a f e := by
  intro w
  go_enter Tryz.func29, Tryz.ntmps29
  go_wp2_with fail
  refine (h _).mono ?_
  rintro e w' ⟨rfl, rfl⟩
  go_wp2_with fail
  go_ret2
  exact ⟨rfl, rfl⟩
/-- What Fraction answers of a number, where the difference is a number. -/
theorem fraction_num (a d : Nat) (w : World) (ha : a < 18446744073709551616) (hf : a % 9223372036854775808 < 9218868437227405312) (hd : Fl.D.sub a (Fl.ftrunc a) = some d) :
    Calls Tryz.prog 12 #[.int .u64 a] w fun e w' => e = .returned (.int .u64 (if Fl.D.order d 0 = some .eq then 0 else Fl.told d : Nat)) ∧ w = w' := by
  have hnn : Fl.isNan a = false := by simp [Fl.isNan]; omega
  have HF := Lib.hid (fun w => finite_any a ha w)
  rw [decide_eq_true hf] at HF
  have HT := Lib.hid (fun w => trunc_num a w hnn)
  have h2 := fun (t : TypeId) (w : World) => run_float_arith (P := Tryz.prog) w .sub t .f64 a (Fl.ftrunc a) d hd
  generalize Fl.ftrunc a = b at *
  obtain ⟨o, ho⟩ : ∃ o, FloatKind.f64.format.order d 0 = o := ⟨_, rfl⟩
  have ho' : Fl.D.order d 0 = o := ho
  rw [ho']
  clear hf hnn hd ho'
  rcases o with _ | o
  · rw [if_neg (by simp)]
    go_enter Tryz.func12, Tryz.ntmps12
    go_wp2_with (first | (refine (of_any _ _).mono ?_; rintro e w' ⟨rfl, rfl⟩) | (refine (HF.out _).mono ?_; rintro e w' ⟨rfl, rfl⟩) | (refine (HT.out _).mono ?_; rintro e w' ⟨rfl, rfl⟩))
    refine (told_any _ _).mono ?_
    rintro e w' ⟨rfl, rfl⟩
    go_wp2_with fail
    go_ret
    exact ⟨rfl, rfl⟩
  · cases o
    · rw [if_neg (by simp)]
      go_enter Tryz.func12, Tryz.ntmps12
      go_wp2_with (first | (refine (of_any _ _).mono ?_; rintro e w' ⟨rfl, rfl⟩) | (refine (HF.out _).mono ?_; rintro e w' ⟨rfl, rfl⟩) | (refine (HT.out _).mono ?_; rintro e w' ⟨rfl, rfl⟩))
      refine (told_any _ _).mono ?_
      rintro e w' ⟨rfl, rfl⟩
      go_wp2_with fail
      go_ret
      exact ⟨rfl, rfl⟩
    · rw [if_pos rfl]
      go_enter Tryz.func12, Tryz.ntmps12
      go_wp2_with (first | (refine (of_any _ _).mono ?_; rintro e w' ⟨rfl, rfl⟩) | (refine (HF.out _).mono ?_; rintro e w' ⟨rfl, rfl⟩) | (refine (HT.out _).mono ?_; rintro e w' ⟨rfl, rfl⟩))
      go_ret
      exact ⟨rfl, rfl⟩
    · rw [if_neg (by simp)]
      go_enter Tryz.func12, Tryz.ntmps12
      go_wp2_with (first | (refine (of_any _ _).mono ?_; rintro e w' ⟨rfl, rfl⟩) | (refine (HF.out _).mono ?_; rintro e w' ⟨rfl, rfl⟩) | (refine (HT.out _).mono ?_; rintro e w' ⟨rfl, rfl⟩))
      refine (told_any _ _).mono ?_
      rintro e w' ⟨rfl, rfl⟩
      go_wp2_with fail
      go_ret
      exact ⟨rfl, rfl⟩
end Go.Proofs.YtpilniljhmkedaaGreatDoor
namespace Go.Proofs.YtpilniljhmkedaaGreatDoor
open Go.RowKit Go.Lib
theorem shift_lof (M : Int) (k : Nat) (w : World) (hM : M.natAbs ≤ 9223372036854775808) (hk : k ≤ 2000) :
    Calls Tryz.prog 32 #[lof M, .int .i64 k] w fun e w' => e = .returned (.tuple #[lof (M * 2 ^ k), .int .i64 0]) ∧ Below w.heap.size w w' := by
  have hp : (9223372036854775808 : Nat) * 2 ^ k < 256 ^ 4096 := by
    obtain ⟨n, hn⟩ : ∃ n, n = 4096 := ⟨_, rfl⟩
    have e1 : (256 : Nat) ^ n = 2 ^ (8 * n) := by rw [Nat.pow_mul]
    rw [← hn, e1, show (9223372036854775808 : Nat) = 2 ^ 63 by decide, ← Nat.pow_add]
    exact Nat.pow_lt_pow_right (by decide) (by omega)
  have hV : M.natAbs * 2 ^ k < 256 ^ 4096 := Nat.lt_of_le_of_lt (Nat.mul_le_mul_right _ hM) hp
  have hV0 : M.natAbs < 256 ^ 4096 := Nat.lt_of_le_of_lt (Nat.le_mul_of_pos_right _ (Nat.pow_pos (by decide))) hV
  have h := shiftl_any (decide (M < 0)) (Pl.dgs M.natAbs) k w (Pl.dgs_len hV0) (Pl.chk_dgs hV0 (by simp; omega)) (by omega) (by rw [Pl.shl_is]; exact Pl.dgs_len hV)
  refine h.mono ?_
  rintro e w' ⟨rfl, hB⟩
  refine ⟨?_, hB⟩
  rw [Pl.shl_is, Pl.dgs_empty]
  unfold lof
  have hpp : (0 : Int) < 2 ^ k := Int.pow_pos (by decide)
  have hppn : 0 < 2 ^ k := Nat.pow_pos (by decide)
  have e1 : (M * 2 ^ k).natAbs = M.natAbs * 2 ^ k := by rw [Int.natAbs_mul, Int.natAbs_pow]; rfl
  have e2 : decide (M * 2 ^ k < 0) = (decide (M < 0) && !decide (M.natAbs * 2 ^ k = 0)) := by
    by_cases hn : M < 0
    · rw [decide_eq_true (Int.mul_neg_of_neg_of_pos hn hpp), decide_eq_true hn, decide_eq_false (by intro h0; rcases Nat.mul_eq_zero.1 h0 with h0 | h0 <;> omega)]; rfl
    · rw [decide_eq_false (by have := Int.mul_nonneg (show 0 ≤ M by omega) (Int.le_of_lt hpp); omega), decide_eq_false hn]; rfl
  rw [e1, e2]
set_option maxHeartbeats 1000000 in
theorem truncate_num (a b f c : Nat) (e M t : Int) (w : World) (ha : a < 18446744073709551616) (hf : a % 9223372036854775808 < 9218868437227405312) (hb : Fl.ftrunc a = b) (hx : FrexpIs b f e) (hfl : f < 18446744073709551616) (hc : Fl.fldexp f 53 = c)
    (hM : floatToIntVal .f64 c .i64 = some M) (hMb : M.natAbs ≤ 9007199254740992) (heb : -2000 ≤ e ∧ e ≤ 2000) (ht1 : e < 53 → floatToIntVal .f64 b .i64 = some t ∧ t.natAbs ≤ 9007199254740992) (ht2 : 53 ≤ e → t = M * 2 ^ (e - 53).toNat) :
    Calls Tryz.prog 11 #[.int .u64 a] w fun en w' => en = .returned (.tuple #[lof t, .int .i64 0]) ∧ Below w.heap.size w w' := by
  have hnn : Fl.isNan a = false := by simp [Fl.isNan]; omega
  have HF := Lib.hid (fun w => finite_any a ha w)
  rw [decide_eq_true hf] at HF
  have HT := Lib.hid (fun w => trunc_num a w hnn)
  rw [hb] at HT
  have HX := Lib.hid hx
  have HL := Lib.hid (fun w => Ldexp_any f 53 w hfl (by omega))
  rw [hc] at HL
  have HC1 := fun w => run_convert_float_int (P := Tryz.prog) (w := w) 42 2 .f64 .i64 c M (by kernel_rfl) (by kernel_rfl) hM
  have HO := Lib.hid (fun w => ofn_any M w (by omega) (by omega))
  rw [ofv_is (by omega) (by omega)] at HO
  obtain ⟨k, hk⟩ : ∃ k : Nat, max (e - 53) 0 = k := ⟨(e - 53).toNat, by omega⟩
  have HS := Lib.hid (fun w => shift_lof M k w (by omega) (by omega))
  by_cases he : e < 53
  · obtain ⟨hq, htb⟩ := ht1 he
    have HC2 := fun w => run_convert_float_int (P := Tryz.prog) (w := w) 42 2 .f64 .i64 b t (by kernel_rfl) (by kernel_rfl) hq
    have HO2 := Lib.hid (fun w => ofn_any t w (by omega) (by omega))
    rw [ofv_is (by omega) (by omega)] at HO2
    clear ht1 ht2 hq hM hc hx hb hf
    go_enter Tryz.func11, Tryz.ntmps11
    go_wp2_with (first | (refine (of_any _ _).mono ?_; rintro e w' ⟨rfl, rfl⟩) | (refine (HF.out _).mono ?_; rintro e w' ⟨rfl, rfl⟩) | (refine (HT.out _).mono ?_; rintro e w' ⟨rfl, rfl⟩) | (refine (HX.out _).mono ?_; rintro e w' ⟨rfl, rfl⟩) | (refine (HL.out _).mono ?_; rintro e w' ⟨rfl, rfl⟩))
    refine (HO.out _).mono ?_
    rintro e' w2 ⟨rfl, hB⟩
    have hB2 : Below (w.heap.size + 1) (w.alloc (.cells #[.bool false, .string ⟨#[]⟩] 34)) w2 := hB.mono (by simp)
    have hR : w2.heap[w.heap.size]? = some (.cells #[.bool false, .string ⟨#[]⟩] 34) := by rw [hB2.block _ (by omega)]; exact heap_alloc_at _ _
    have HBW := Lib.hid (show Below w.heap.size w w2 from ((Below.refl _ _).alloc (Nat.le_refl _) _).trans (hB2.mono (by omega)))
    have HR := Lib.hid hR
    clear hB hB2 hR
    have HE := Lib.hid (show lof M = .agg #[.bool (decide (M < 0)), .string (bs (Pl.dgs M.natAbs))] from rfl)
    rw [HE.out]
    generalize decide (M < 0) = g at HE ⊢
    generalize bs (Pl.dgs M.natAbs) = S at HE ⊢
    go_wp2_with fail
    rw [← HE.out]
    refine (HS.out _).mono ?_
    rintro e' w3 ⟨rfl, hB3⟩
    have hB3' : Below w2.heap.size w2 w3 := ((Below.refl _ _).alloc (Nat.le_refl _) _).trans (hB3.mono (by simp))
    have HR3 := Lib.hid (show w3.heap[w.heap.size]? = some (.cells #[.bool false, .string ⟨#[]⟩] 34) by rw [hB3'.block _ (Array.getElem?_eq_some_iff.1 HR.out).1]; exact HR.out)
    have HBW3 := Lib.hid (HBW.out.trans (hB3'.mono HBW.out.size))
    clear HE hB3 hB3' HBW HR
    have HE := Lib.hid (show lof (M * 2 ^ k) = .agg #[.bool (decide (M * 2 ^ k < 0)), .string (bs (Pl.dgs (M * 2 ^ k).natAbs))] from rfl)
    rw [HE.out]
    generalize decide (M * 2 ^ k < 0) = g1 at HE ⊢
    generalize bs (Pl.dgs (M * 2 ^ k).natAbs) = S1 at HE ⊢
    go_wp2_with (first | (refine (HT.out _).mono ?_; rintro e w' ⟨rfl, rfl⟩))
    refine (HO2.out _).mono ?_
    rintro e' w4 ⟨rfl, hB4⟩
    obtain ⟨B3, hB3⟩ : ∃ B3, w3.heap.size = B3 := ⟨_, rfl⟩
    have hB4' : Below (B3 + 1) (w3.alloc (.cells #[.bool g1, .string S1] 34)) w4 := hB4.mono (by simp; omega)
    have hlt : w.heap.size < B3 := by rw [← hB3]; exact (Array.getElem?_eq_some_iff.1 HR3.out).1
    have h4a : w4.heap[B3]? = some (.cells #[.bool g1, .string S1] 34) := by rw [hB4'.block _ (by omega), ← hB3]; exact heap_alloc_at _ _
    have h4b : w4.heap[w.heap.size]? = some (.cells #[.bool false, .string ⟨#[]⟩] 34) := by rw [hB4'.block _ (by omega), ((Below.refl w3.heap.size w3).alloc (Nat.le_refl _) _).block _ (by omega)]; exact HR3.out
    have HBW4 := Lib.hid (show Below w.heap.size w w4 from HBW3.out.trans (((Below.refl _ _).alloc (Nat.le_of_lt (by omega)) _).trans (hB4'.mono (by omega))))
    have a0 : w4.cell? ⟨B3, 0, none⟩ = some (.bool g1) := by simp [World.cell?, h4a]
    have a1 : w4.cell? ⟨B3, 1, none⟩ = some (.string S1) := by simp [World.cell?, h4a]
    have af0 : w4.frozen? ⟨B3, 0, none⟩ = false := by simp [World.frozen?, h4a]
    have af1 : w4.frozen? ⟨B3, 1, none⟩ = false := by simp [World.frozen?, h4a]
    have r0 : w4.cell? ⟨w.heap.size, 0, none⟩ = some (.bool false) := by simp [World.cell?, h4b]
    have r1 : w4.cell? ⟨w.heap.size, 1, none⟩ = some (.string ⟨#[]⟩) := by simp [World.cell?, h4b]
    have f0 : w4.frozen? ⟨w.heap.size, 0, none⟩ = false := by simp [World.frozen?, h4b]
    have f1 : w4.frozen? ⟨w.heap.size, 1, none⟩ = false := by simp [World.frozen?, h4b]
    have hne : B3 ≠ w.heap.size := by omega
    have hne' : w.heap.size ≠ B3 := by omega
    clear HR3 HBW3 hB4 hB4' HE h4a h4b
    have HE := Lib.hid (show lof t = .agg #[.bool (decide (t < 0)), .string (bs (Pl.dgs t.natAbs))] from rfl)
    rw [HE.out]
    generalize decide (t < 0) = g2 at HE ⊢
    generalize bs (Pl.dgs t.natAbs) = S2 at HE ⊢
    go_wp2_with fail
    obtain ⟨_, _, kB1⟩ := two_set w4 B3 (.bool g2) (.string S2) a0 a1
    generalize (w4.setCell ⟨B3, 0, none⟩ (.bool g2)).setCell ⟨B3, 1, none⟩ (.string S2) = w5 at kB1 ⊢
    have s0 : w5.cell? ⟨w.heap.size, 0, none⟩ = some (.bool false) := by rw [kB1.cell (p := ⟨w.heap.size, 0, none⟩) hlt]; exact r0
    have s1 : w5.cell? ⟨w.heap.size, 1, none⟩ = some (.string ⟨#[]⟩) := by rw [kB1.cell (p := ⟨w.heap.size, 1, none⟩) hlt]; exact r1
    obtain ⟨k0, k1, kB⟩ := two_set w5 w.heap.size (.bool g2) (.string S2) s0 s1
    refine bodyPost_ret (v := .tuple #[.agg #[.bool g2, .string S2], .int .i64 0]) (by simp [results, Tryz.results11, go_sem, k0, k1]) rfl ⟨by rw [HE.out], (HBW4.out.trans (kB1.mono (by omega))).trans kB⟩
  · have ht := ht2 (by omega)
    have hke : k = (e - 53).toNat := by omega
    rw [← hke] at ht
    rw [ht]
    clear ht1 ht2 ht hM hc hx hb hf hke
    go_enter Tryz.func11, Tryz.ntmps11
    go_wp2_with (first | (refine (of_any _ _).mono ?_; rintro e w' ⟨rfl, rfl⟩) | (refine (HF.out _).mono ?_; rintro e w' ⟨rfl, rfl⟩) | (refine (HT.out _).mono ?_; rintro e w' ⟨rfl, rfl⟩) | (refine (HX.out _).mono ?_; rintro e w' ⟨rfl, rfl⟩) | (refine (HL.out _).mono ?_; rintro e w' ⟨rfl, rfl⟩))
    refine (HO.out _).mono ?_
    rintro e' w2 ⟨rfl, hB⟩
    have hB2 : Below (w.heap.size + 1) (w.alloc (.cells #[.bool false, .string ⟨#[]⟩] 34)) w2 := hB.mono (by simp)
    have hR : w2.heap[w.heap.size]? = some (.cells #[.bool false, .string ⟨#[]⟩] 34) := by rw [hB2.block _ (by omega)]; exact heap_alloc_at _ _
    have HBW := Lib.hid (show Below w.heap.size w w2 from ((Below.refl _ _).alloc (Nat.le_refl _) _).trans (hB2.mono (by omega)))
    have HR := Lib.hid hR
    clear hB hB2 hR
    have HE := Lib.hid (show lof M = .agg #[.bool (decide (M < 0)), .string (bs (Pl.dgs M.natAbs))] from rfl)
    rw [HE.out]
    generalize decide (M < 0) = g at HE ⊢
    generalize bs (Pl.dgs M.natAbs) = S at HE ⊢
    go_wp2_with fail
    rw [← HE.out]
    refine (HS.out _).mono ?_
    rintro e' w3 ⟨rfl, hB3⟩
    have hB3' : Below w2.heap.size w2 w3 := ((Below.refl _ _).alloc (Nat.le_refl _) _).trans (hB3.mono (by simp))
    have HR3 := Lib.hid (show w3.heap[w.heap.size]? = some (.cells #[.bool false, .string ⟨#[]⟩] 34) by rw [hB3'.block _ (Array.getElem?_eq_some_iff.1 HR.out).1]; exact HR.out)
    have HBW3 := Lib.hid (HBW.out.trans (hB3'.mono HBW.out.size))
    clear HE hB3 hB3' HBW HR
    have HE := Lib.hid (show lof (M * 2 ^ k) = .agg #[.bool (decide (M * 2 ^ k < 0)), .string (bs (Pl.dgs (M * 2 ^ k).natAbs))] from rfl)
    rw [HE.out]
    have hR3 := HR3.out
    have r0 : w3.cell? ⟨w.heap.size, 0, none⟩ = some (.bool false) := by simp [World.cell?, hR3]
    have r1 : w3.cell? ⟨w.heap.size, 1, none⟩ = some (.string ⟨#[]⟩) := by simp [World.cell?, hR3]
    have f0 : w3.frozen? ⟨w.heap.size, 0, none⟩ = false := by simp [World.frozen?, hR3]
    have f1 : w3.frozen? ⟨w.heap.size, 1, none⟩ = false := by simp [World.frozen?, hR3]
    have hlt : w.heap.size < w3.heap.size := (Array.getElem?_eq_some_iff.1 hR3).1
    have hne : w3.heap.size ≠ w.heap.size := by omega
    have hne' : w.heap.size ≠ w3.heap.size := by omega
    clear hR3
    generalize decide (M * 2 ^ k < 0) = g1 at HE ⊢
    generalize bs (Pl.dgs (M * 2 ^ k).natAbs) = S1 at HE ⊢
    go_wp2_with fail
    obtain ⟨k0, k1, kB⟩ := two_set w3 w.heap.size (.bool g1) (.string S1) r0 r1
    generalize (w3.setCell ⟨w.heap.size, 0, none⟩ (.bool g1)).setCell ⟨w.heap.size, 1, none⟩ (.string S1) = w5 at k0 k1 kB ⊢
    have h5 : w3.heap.size ≤ w5.heap.size := kB.size
    have kC : Below w5.heap.size w5 (w5.alloc (.cells #[.bool g1, .string S1] 34)) := (Below.refl _ _).alloc (Nat.le_refl _) _
    have q0 : (w5.alloc (.cells #[.bool g1, .string S1] 34)).cell? ⟨w.heap.size, 0, none⟩ = some (.bool g1) := by rw [kC.cell (p := ⟨w.heap.size, 0, none⟩) (by show w.heap.size < _; omega)]; exact k0
    have q1 : (w5.alloc (.cells #[.bool g1, .string S1] 34)).cell? ⟨w.heap.size, 1, none⟩ = some (.string S1) := by rw [kC.cell (p := ⟨w.heap.size, 1, none⟩) (by show w.heap.size < _; omega)]; exact k1
    generalize w5.alloc (.cells #[.bool g1, .string S1] 34) = w6 at q0 q1 kC ⊢
    refine bodyPost_ret (v := .tuple #[.agg #[.bool g1, .string S1], .int .i64 0]) (by simp [results, Tryz.results11, go_sem, q0, q1]) rfl ⟨by rw [HE.out], (HBW3.out.trans kB).trans (kC.mono (by omega))⟩
end Go.Proofs.YtpilniljhmkedaaGreatDoor
namespace Go.Proofs.YtpilniljhmkedaaGreatDoor
open Go.RowKit Go.Lib
set_option maxHeartbeats 1000000 in
theorem common_zero (t : ByteArray) (w : World) (q : 0 < t.size) (hs : t.size ≤ 100000) (hd : 48 ≤ (t[0]'q).toNat ∧ (t[0]'q).toNat ≤ 57) :
    Calls Tryz.prog 170 #[.string t, .string ⟨#[105, 110, 102, 105, 110, 105, 116, 121]⟩] w fun e w' => e = .returned (.int .i64 0) ∧ w = w' := by
  obtain ⟨c, hc⟩ : ∃ c, t[0]'q = c := ⟨_, rfl⟩
  rw [hc] at hd
  obtain ⟨h1, h2⟩ := hd
  have b1 : ((c.toNat : Int) != ((((⟨#[105, 110, 102, 105, 110, 105, 116, 121]⟩ : ByteArray)[0]'(by decide)).toNat : Nat) : Int)) = true := by rw [bne_iff_ne]; show (c.toNat : Int) ≠ 105; omega
  obtain ⟨N, hN⟩ : ∃ N, t.size = N := ⟨_, rfl⟩
  have hn1 : 0 < N := by omega
  have hn2 : N ≤ 100000 := by omega
  obtain ⟨k, hk⟩ : ∃ k : Int, min 8 (N : Int) = k := ⟨_, rfl⟩
  have hk1 : 0 < k := by omega
  go_enter Tryz.func170, Tryz.ntmps170
  go_wp2_with fail
  refine wp_loop_rounds 1 ?_
  rw [rounds_succ]
  go_wp2_with fail
  go_ret
  exact ⟨rfl, rfl⟩
set_option maxHeartbeats 1000000 in
theorem special_pos (s : ByteArray) (w : World) (q : 0 < s.size) (hs : s.size ≤ 100000) (hd : 48 ≤ (s[0]'q).toNat ∧ (s[0]'q).toNat ≤ 57) :
    Calls Tryz.prog 130 #[.string s] w fun e w' => e = .returned (.tuple #[.float .f64 0, .int .i64 0, .bool false]) ∧ w = w' := by
  obtain ⟨c, hc⟩ : ∃ c, s[0]'q = c := ⟨_, rfl⟩
  rw [hc] at hd
  obtain ⟨h1, h2⟩ := hd
  have b1 : ((c.toNat : Int) == 43) = false := by rw [beq_eq_false_iff_ne]; omega
  have b2 : ((c.toNat : Int) == 45) = false := by rw [beq_eq_false_iff_ne]; omega
  have b3 : ((c.toNat : Int) == 105) = false := by rw [beq_eq_false_iff_ne]; omega
  have b4 : ((c.toNat : Int) == 73) = false := by rw [beq_eq_false_iff_ne]; omega
  have b5 : ((c.toNat : Int) == 110) = false := by rw [beq_eq_false_iff_ne]; omega
  have b6 : ((c.toNat : Int) == 78) = false := by rw [beq_eq_false_iff_ne]; omega
  obtain ⟨N, hN⟩ : ∃ N, s.size = N := ⟨_, rfl⟩
  have hn0 : ((N : Int) == 0) = false := by rw [beq_eq_false_iff_ne]; omega
  have hn1 : 0 < N := by omega
  go_enter Tryz.func130, Tryz.ntmps130
  go_wp2_with fail
  go_ret3
  exact ⟨rfl, rfl⟩
set_option maxHeartbeats 1000000 in
theorem special_neg (s : ByteArray) (w : World) (q0 : 0 < s.size) (q : 1 < s.size) (hs : s.size ≤ 100000) (h0 : s[0]'q0 = 45) (hd : 48 ≤ (s[1]'q).toNat ∧ (s[1]'q).toNat ≤ 57) :
    Calls Tryz.prog 130 #[.string s] w fun e w' => e = .returned (.tuple #[.float .f64 0, .int .i64 0, .bool false]) ∧ w = w' := by
  have HC := Lib.hid (fun (w : World) => common_zero (s.extract 1 s.size) w (by rw [ByteArray.size_extract]; omega) (by rw [ByteArray.size_extract]; omega) (by rw [ByteArray.getElem_extract]; exact hd))
  obtain ⟨N, hN⟩ : ∃ N, s.size = N := ⟨_, rfl⟩
  have hn0 : ((N : Int) == 0) = false := by rw [beq_eq_false_iff_ne]; omega
  have hn1 : 1 < N := by omega
  have hn2 : N ≤ 100000 := by omega
  rw [hN] at HC
  clear hd q
  go_enter Tryz.func130, Tryz.ntmps130
  go_wp2_with fail
  refine (HC.out _).mono ?_
  rintro e w' ⟨rfl, rfl⟩
  go_wp2_with fail
  go_ret3
  exact ⟨rfl, rfl⟩
end Go.Proofs.YtpilniljhmkedaaGreatDoor
namespace Go.Proofs.YtpilniljhmkedaaGreatDoor
open Go.RowKit Go.Lib
theorem ret3v {a b c a' b' c' : Value} (h1 : a = a') (h2 : b = b') (h3 : c = c') : Ending.returned (.tuple #[a, b, c]) = .returned (.tuple #[a', b', c']) := by rw [h1, h2, h3]
set_option maxHeartbeats 1000000 in
theorem exact_div (m k p r x : Nat) (neg : Bool) (w : World) (hm : m < 4503599627370496) (hk : k ≤ 22) (hk0 : 0 < k) (he : Env w) (hp : Pl.f10[k]? = some p) (hx : (if neg then floatOfInt .f64 (m : Int) ^^^ 9223372036854775808 else floatOfInt .f64 (m : Int)) = x) (hr : Fl.D.div x p = some r) :
    Calls Tryz.prog 141 #[.int .u64 m, .int .i64 (-(k : Int)), .bool neg] w fun e w' => e = .returned (.tuple #[.float .f64 r, .bool true]) ∧ w = w' := by
  have h1 := he.info
  obtain ⟨a, cap, h2, h3, h4⟩ := he.f10
  have h5 := h4 k p hp
  have h6 := fun (t : TypeId) (w : World) => run_float_arith (P := Tryz.prog) w .quo t .f64 x p r hr
  have b1 : ((m : Int) / 4503599627370496 != 0) = false := by rw [bne_eq_false_iff_eq]; omega
  have b2 : (-(k : Int) == 0) = false := by rw [beq_eq_false_iff_ne]; omega
  clear h4 hp hr he h3
  cases neg
  · have hx' : floatOfInt .f64 (m : Int) = x := by simpa using hx
    clear hx
    go_enter Tryz.func141, Tryz.ntmps141
    go_wp2_with fail
    go_ret2
    exact ⟨rfl, rfl⟩
  · have hx' : floatOfInt .f64 (m : Int) ^^^ 9223372036854775808 = x := by simpa using hx
    clear hx
    obtain ⟨y, hy⟩ : ∃ y, floatOfInt .f64 (m : Int) = y := ⟨_, rfl⟩
    rw [hy] at hx'
    have hn : ∀ w : World, (Op.unary .neg (.float .f64 y)).run Tryz.prog w = .ok (.float .f64 x) w := fun w => by rw [run_neg, hx']
    clear hx'
    go_enter Tryz.func141, Tryz.ntmps141
    go_wp2_with fail
    go_ret2
    exact ⟨rfl, rfl⟩
theorem run_sfrom (n : Int) (w : World) : (callFunc 140 #[.int .u64 n]).run Tryz.prog w = .ok (.value (.float .f64 n.toNat)) w := by
  rw [run_callFunc_extern Tryz.func140 (by kernel_rfl) (by kernel_rfl) (by kernel_rfl) (show Extern.find _ = some Extern.MathFloatBits.float64frombits by kernel_rfl)]
  rfl
def IsSpecial (s : ByteArray) : Prop := ∀ w, Calls Tryz.prog 130 #[.string s] w fun e w' => e = .returned (.tuple #[.float .f64 0, .int .i64 0, .bool false]) ∧ w = w'
def ReadsAs (s : ByteArray) (m : Nat) (e : Int) (neg tr : Bool) (n : Nat) : Prop := ∀ w, Calls Tryz.prog 131 #[.string s] w fun en w' => en = .returned (.tuple #[.int .u64 m, .int .i64 e, .bool neg, .bool tr, .bool false, .int .i64 n, .bool true]) ∧ w' = w
set_option maxHeartbeats 1000000 in
theorem atof_div (s : ByteArray) (n m k p r x : Nat) (neg : Bool) (w : World) (hs : IsSpecial s) (hr : ReadsAs s m (-(k : Int)) neg false n) (hm : m < 4503599627370496) (hm0 : 0 < m) (hk : k ≤ 22) (hk0 : 0 < k) (he : Env w) (hp : Pl.f10[k]? = some p) (hx : (if neg then floatOfInt .f64 (m : Int) ^^^ 9223372036854775808 else floatOfInt .f64 (m : Int)) = x) (hd : Fl.D.div x p = some r) :
    Calls Tryz.prog 100 #[.string s] w fun e w' => e = .returned (.tuple #[.float .f64 r, .int .i64 n, .nilIface]) ∧ w = w' := by
  have HX := Lib.hid (exact_div m k p r x neg w hm hk hk0 he hp hx hd)
  have h1 := he.opt
  have b1 : ((m : Int) == 0) = false := by rw [beq_eq_false_iff_ne]; omega
  clear hp hx hd
  cases neg
  all_goals
    go_enter Tryz.func100, Tryz.ntmps100
    go_wp2_with fail
    refine (hs _).mono ?_
    rintro e w' ⟨rfl, rfl⟩
    go_wp2_with fail
    refine (hr _).mono ?_
    rintro e w' ⟨rfl, rfl⟩
    go_wp2_with fail
    refine (bool2u_any _ _).mono ?_
    rintro e w' ⟨rfl, rfl⟩
    go_wp2_with fail
    refine HX.out.mono ?_
    rintro e w' ⟨rfl, rfl⟩
    go_wp2_with fail
    go_ret3
    exact ⟨rfl, rfl⟩
set_option maxHeartbeats 1000000 in
theorem atof_far (s : ByteArray) (n m : Nat) (e : Int) (tr : Bool) (w : World) (hs : IsSpecial s) (hr : ReadsAs s m e false tr n) (hm0 : 0 < m) (he : Env w) (h3 : 310 < e) :
    Calls Tryz.prog 100 #[.string s] w fun e w' => e = .returned (.tuple #[.float .f64 9218868437227405312, .int .i64 n, .iface 95 (.int .i64 1)]) ∧ w = w' := by
  have h1 := he.opt
  have h2 := run_sfrom
  have b1 : ((m : Int) == 0) = false := by rw [beq_eq_false_iff_ne]; omega
  have b2 : bits .or .u64 0 9218868437227405312 = 9218868437227405312 := by decide
  go_enter Tryz.func100, Tryz.ntmps100
  go_wp2_with fail
  refine (hs _).mono ?_
  rintro e w' ⟨rfl, rfl⟩
  go_wp2_with fail
  refine (hr _).mono ?_
  rintro e w' ⟨rfl, rfl⟩
  go_wp2_with fail
  refine (bool2u_any _ _).mono ?_
  rintro e w' ⟨rfl, rfl⟩
  go_wp2_with fail
  go_ret3
  exact ⟨rfl, rfl⟩
end Go.Proofs.YtpilniljhmkedaaGreatDoor
