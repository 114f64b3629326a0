/- Plain facts: sums, products, quotients, roots and orders of floats, told as the document tells them (no program in sight). The document's floats: the contracts of Kind, Parts, signed, place. The document's floats: the contracts of of, back, shift, unit, whole, exact. -/
import Derived.Test.YtgdohmaljbggjaaGreatDoorBaas
import Derived.Test.YtgdohmaljbggjaaGreatDoorFbad
namespace Go.Proofs.YtgdohmaljbggjaaGreatDoor.Fl
open Ieee
/-- Nought, another number, infinity, none. -/
def kind (a : Nat) : Nat := if a % 9223372036854775808 = 0 then 0 else if a % 9223372036854775808 < 9218868437227405312 then 1 else if a % 9223372036854775808 = 9218868437227405312 then 2 else 3
theorem kind_nan {a : Nat} (h : kind a = 3) : isNan a = true := by
  unfold kind at h; simp only [isNan, decide_eq_true_eq]
  split at h; · omega
  split at h; · omega
  split at h <;> omega
theorem kind_inf {a : Nat} (h : kind a = 2) : a % 9223372036854775808 = 9218868437227405312 := by
  unfold kind at h
  split at h; · omega
  split at h; · omega
  split at h <;> omega
theorem kind_fin {a : Nat} (h : kind a ≤ 1) : a % 9223372036854775808 < 9218868437227405312 := by
  unfold kind at h
  split at h; · omega
  split at h; · omega
  split at h <;> omega
theorem kind_zero {a : Nat} (h : kind a = 0) : a % 9223372036854775808 = 0 := by
  unfold kind at h
  split at h; · omega
  split at h; · omega
  split at h <;> omega
theorem kind_one {a : Nat} (h : kind a = 1) : a % 9223372036854775808 ≠ 0 := by
  unfold kind at h
  split at h; · omega
  omega
theorem kind_cases (a : Nat) : kind a = 0 ∨ kind a = 1 ∨ kind a = 2 ∨ kind a = 3 := by
  unfold kind
  split; · exact .inl rfl
  split; · exact .inr (.inl rfl)
  split
  · exact .inr (.inr (.inl rfl))
  · exact .inr (.inr (.inr rfl))
theorem read_nan {a : Nat} (h : kind a = 3) : ∃ s f, D.read a = .nan s f := nan_read (kind_nan h)
theorem read_inf {a : Nat} (h : kind a = 2) : D.read a = .infinity (sg a) := by
  have h := kind_inf h
  rw [read_eq, if_neg (by omega), if_neg (by omega), if_pos h]; rfl
theorem inf_word {a : Nat} (h : kind a = 2) (ha : a < 18446744073709551616) : D.word (sg a) 9218868437227405312 = a := by
  have := word_of ha
  rw [kind_inf h] at this
  exact this
theorem zero_word {a : Nat} (h : kind a = 0) (ha : a < 18446744073709551616) : D.word (sg a) 0 = a := by
  have := word_of ha
  rw [kind_zero h] at this
  exact this
theorem sg_eq {a b : Nat} (ha : a < 18446744073709551616) (hb : b < 18446744073709551616) (h : a % 9223372036854775808 = b % 9223372036854775808) : a = b ↔ sg a = sg b := by
  constructor
  · intro h; rw [h]
  · intro h2
    rw [← word_of ha, ← word_of hb, h]
    unfold sg at h2
    rw [h2]
theorem V_zero {a : Nat} (h : kind a = 0) : V a = 0 := by
  have h := kind_zero h
  unfold V
  rw [read_eq, h, if_pos (by omega)]
  simp [val, signed]
theorem V_ne {a : Nat} (h : kind a = 1) : V a ≠ 0 := by
  have h0 := kind_one h
  obtain ⟨m, i, hr, hm, hi, hi2, hv, hA⟩ := fin_read (kind_fin (by omega : kind a ≤ 1))
  intro hz
  rw [hz] at hA
  have hm0 : m = 0 := by
    have := Nat.two_pow_pos (i + 1074).toNat
    rcases Nat.mul_eq_zero.1 hA.symm with h | h <;> omega
  rw [read_eq] at hr
  split at hr
  · injection hr with _ h2 _
    omega
  · split at hr
    · injection hr with _ h2 _
      omega
    · split at hr <;> cases hr
theorem rung_inf_word (s : Bool) : D.write (.infinity s) = D.word s 9218868437227405312 := rfl
theorem write_num (s : Bool) (m : Nat) (i : Int) : D.write (.number s m i) = D.nearest s m i := rfl
theorem told_inf (s : Bool) : isNan (D.word s 9218868437227405312) = false := word_not_nan s (Nat.le_refl _)
-- sums
theorem fadd_none {a b : Nat} (ha : a < 18446744073709551616) (hb : b < 18446744073709551616) (h : kind a = 3 ∨ kind b = 3 ∨ (kind a = 2 ∧ kind b = 2 ∧ a ≠ b)) : fadd a b = none' := by
  unfold fadd Format.add
  rcases h with h | h | ⟨h1, h2, h3⟩
  · obtain ⟨s, f, hr⟩ := read_nan h
    rw [hr]; rfl
  · obtain ⟨s, f, hr⟩ := read_nan h
    rw [hr, sum_nan]; rfl
  · rw [read_inf h1, read_inf h2]
    have : sg a ≠ sg b := fun h => h3 ((sg_eq ha hb (by rw [kind_inf h1, kind_inf h2])).2 h)
    simp [Datum.sum, this, ans]
theorem fadd_infl {a b : Nat} (ha : a < 18446744073709551616) (hb : b < 18446744073709551616) (h : kind a = 2) (h2 : kind b ≠ 3) (h3 : ¬ (kind b = 2 ∧ a ≠ b)) : fadd a b = a := by
  unfold fadd Format.add
  rw [read_inf h]
  by_cases h4 : kind b = 2
  · have : a = b := by
      rcases Nat.decEq a b with h5 | h5
      · exact absurd ⟨h4, h5⟩ h3
      · exact h5
    subst this
    rw [read_inf h]
    simp only [Datum.sum, if_true, Option.map_some, ans, rung_inf_word]
    exact inf_word h ha
  · obtain ⟨m, i, hr, _⟩ := fin_read (a := b) (kind_fin (by rcases kind_cases b with h | h | h | h <;> omega))
    rw [hr]
    simp only [Datum.sum, Option.map_some, ans, rung_inf_word]
    exact inf_word h ha
theorem fadd_infr {a b : Nat} (hb : b < 18446744073709551616) (h : kind b = 2) (h2 : kind a ≤ 1) : fadd a b = b := by
  unfold fadd Format.add
  rw [read_inf h]
  obtain ⟨m, i, hr, _⟩ := fin_read (a := a) (kind_fin h2)
  rw [hr]
  simp only [Datum.sum, Option.map_some, ans, rung_inf_word]
  exact inf_word h hb
theorem fadd_zero {a : Nat} (ha : a < 18446744073709551616) (h : kind a = 0) : fadd a a = a := by
  unfold fadd
  rw [fadd_rung (kind_fin (by omega)) (kind_fin (by omega)), V_zero h]
  show D.word _ _ = a
  rw [if_pos (by decide), Bool.and_self]
  simp only [Int.add_zero, Int.natAbs_zero, rung_zero]
  exact zero_word h ha
theorem sg_V {a : Nat} (h : kind a ≤ 1) : (sg a = true → V a ≤ 0) ∧ (sg a = false → 0 ≤ V a) := by
  have := V_sign (kind_fin h)
  constructor
  · intro h2; rw [h2, if_pos rfl] at this; omega
  · intro h2; rw [h2, if_neg (by simp)] at this; omega
theorem kind_zero_of {a : Nat} (h : kind a ≤ 1) (hv : V a = 0) : kind a = 0 := by
  rcases kind_cases a with h1 | h1 | h1 | h1
  · exact h1
  · exact absurd hv (V_ne h1)
  · omega
  · omega
theorem fadd_fin {a b : Nat} (ha : a < 18446744073709551616) (hb : b < 18446744073709551616) (h1 : kind a ≤ 1) (h2 : kind b ≤ 1) (h3 : ¬ (kind a = 0 ∧ kind b = 0 ∧ a = b)) : fadd a b = D.word (decide (V a + V b < 0)) (rung (V a + V b).natAbs 1) := by
  unfold fadd
  rw [fadd_rung (kind_fin h1) (kind_fin h2)]
  show D.word _ _ = _
  by_cases h0 : V a + V b = 0
  · rw [if_pos h0]
    congr 1
    rw [decide_eq_false (by omega)]
    cases hsa : sg a
    · rfl
    · cases hsb : sg b
      · rfl
      · exfalso
        have va := (sg_V h1).1 hsa
        have vb := (sg_V h2).1 hsb
        have za := kind_zero_of h1 (by omega)
        have zb := kind_zero_of h2 (by omega)
        exact h3 ⟨za, zb, (sg_eq ha hb (by rw [kind_zero za, kind_zero zb])).2 (by rw [hsa, hsb])⟩
  · rw [if_neg h0]
-- products
theorem num_zero {a m : Nat} {s : Bool} {i : Int} (h : kind a ≤ 1) (hr : D.read a = .number s m i) : m = 0 ↔ kind a = 0 := by
  obtain ⟨m', i', hr', _, hi, _, hv, hA⟩ := fin_read (kind_fin h)
  rw [hr] at hr'
  injection hr' with e1 e2 e3
  subst e2 e3
  constructor
  · intro h0
    refine kind_zero_of h ?_
    rw [h0, Nat.zero_mul] at hA; omega
  · intro h0
    rw [V_zero h0] at hA
    have := Nat.two_pow_pos (i + 1074).toNat
    rcases Nat.mul_eq_zero.1 hA.symm with h | h <;> omega
theorem fmul_none {a b : Nat} (h : kind a = 3 ∨ kind b = 3 ∨ (kind a = 2 ∧ kind b = 0) ∨ (kind a = 0 ∧ kind b = 2)) : fmul a b = none' := by
  unfold fmul Format.mul
  rcases h with h | h | ⟨h1, h2⟩ | ⟨h1, h2⟩
  · obtain ⟨s, f, hr⟩ := read_nan h
    rw [hr]; rfl
  · obtain ⟨s, f, hr⟩ := read_nan h
    rw [product_comm, hr]; rfl
  · obtain ⟨m, i, hr, _⟩ := fin_read (a := b) (kind_fin (by omega))
    rw [read_inf h1, hr, (num_zero (by omega) hr).2 h2]; rfl
  · obtain ⟨m, i, hr, _⟩ := fin_read (a := a) (kind_fin (by omega))
    rw [read_inf h2, hr, (num_zero (by omega) hr).2 h1]; rfl
theorem fmul_inf {a b : Nat} (h : kind a = 2 ∨ kind b = 2) (h1 : kind a = 1 ∨ kind a = 2) (h2 : kind b = 1 ∨ kind b = 2) : fmul a b = D.word (sg a ^^ sg b) 9218868437227405312 := by
  unfold fmul Format.mul
  rcases h1 with h1 | h1 <;> rcases h2 with h2 | h2
  · omega
  · obtain ⟨m, i, hr, _⟩ := fin_read (a := a) (kind_fin (by omega))
    have : ¬ m = 0 := fun h => by have := (num_zero (by omega) hr).1 h; omega
    rw [read_inf h2, hr]
    simp only [Datum.product, if_neg this, Option.map_some, ans, rung_inf_word, Bool.xor_comm]
  · obtain ⟨m, i, hr, _⟩ := fin_read (a := b) (kind_fin (by omega))
    have : ¬ m = 0 := fun h => by have := (num_zero (by omega) hr).1 h; omega
    rw [read_inf h1, hr]
    simp only [Datum.product, if_neg this, Option.map_some, ans, rung_inf_word]
  · rw [read_inf h1, read_inf h2]; rfl
theorem fmul_fin {a b : Nat} (h1 : kind a ≤ 1) (h2 : kind b ≤ 1) : fmul a b = D.word (sg a ^^ sg b) (rung ((V a).natAbs * (V b).natAbs) (2 ^ E74)) := by
  unfold fmul
  rw [fmul_rung (kind_fin h1) (kind_fin h2)]; rfl
-- quotients
theorem fdiv_none {a b : Nat} (h : kind a = 3 ∨ kind b = 3 ∨ (kind a = 2 ∧ kind b = 2) ∨ (kind a = 0 ∧ kind b = 0)) : fdiv a b = none' := by
  unfold fdiv Format.div
  rcases h with h | h | ⟨h1, h2⟩ | ⟨h1, h2⟩
  · obtain ⟨s, f, hr⟩ := read_nan h
    rw [hr]; rfl
  · obtain ⟨s, f, hr⟩ := read_nan h
    rw [hr]
    cases D.read a <;> rfl
  · rw [read_inf h1, read_inf h2]; rfl
  · obtain ⟨m, i, hr, _⟩ := fin_read (a := a) (kind_fin (by omega))
    obtain ⟨n, j, hr2, _⟩ := fin_read (a := b) (kind_fin (by omega))
    rw [hr, hr2, (num_zero (by omega) hr).2 h1, (num_zero (by omega) hr2).2 h2]; rfl
theorem fdiv_inf {a b : Nat} (h : (kind a = 2 ∧ kind b ≤ 1) ∨ (kind a = 1 ∧ kind b = 0)) : fdiv a b = D.word (sg a ^^ sg b) 9218868437227405312 := by
  unfold fdiv Format.div
  rcases h with ⟨h1, h2⟩ | ⟨h1, h2⟩
  · obtain ⟨m, i, hr, _⟩ := fin_read (a := b) (kind_fin h2)
    rw [read_inf h1, hr]; rfl
  · obtain ⟨m, i, hr, _⟩ := fin_read (a := a) (kind_fin (by omega))
    obtain ⟨n, j, hr2, _⟩ := fin_read (a := b) (kind_fin (by omega))
    have : ¬ m = 0 := fun h => by have := (num_zero (by omega) hr).1 h; omega
    rw [hr, hr2, (num_zero (by omega) hr2).2 h2]
    simp only [Datum.quotient, if_pos, if_neg this, Option.map_some, ans, rung_inf_word]
theorem fdiv_zero {a b : Nat} (h1 : kind a ≤ 1) (h2 : kind b = 2) : fdiv a b = D.word (sg a ^^ sg b) 0 := by
  unfold fdiv Format.div
  obtain ⟨m, i, hr, _⟩ := fin_read (a := a) (kind_fin h1)
  rw [hr, read_inf h2]
  simp only [Datum.quotient, Option.map_some, ans, write_num]
  rw [nearest_rung, Nat.zero_mul, rung_zero]
theorem fdiv_fin {a b : Nat} (h1 : kind a ≤ 1) (h2 : kind b = 1) : fdiv a b = D.word (sg a ^^ sg b) (rung ((V a).natAbs * 2 ^ E74) (V b).natAbs) := by
  unfold fdiv
  rw [fdiv_rung (kind_fin h1) (kind_fin (by omega)) (V_ne h2)]; rfl
-- roots
theorem fsqrt_none {a : Nat} (ha : a < 18446744073709551616) (h : kind a = 3 ∨ 9223372036854775808 < a) : fsqrt a = none' := by
  unfold fsqrt Format.sqrt
  rcases kind_cases a with h1 | h1 | h1 | h1
  · have := kind_zero h1; omega
  · obtain ⟨m, i, hr, _⟩ := fin_read (a := a) (kind_fin (by omega))
    have h0 : ¬ m = 0 := fun h => by have := (num_zero (by omega) hr).1 h; omega
    have hs : sg a = true := by unfold sg; rw [beq_iff_eq]; omega
    rw [hr, hs]
    simp only [Datum.root, if_neg h0, if_true]; rfl
  · have hs : sg a = true := by unfold sg; rw [beq_iff_eq]; omega
    rw [read_inf h1, hs]; rfl
  · obtain ⟨s, f, hr⟩ := read_nan h1
    rw [hr]; rfl
theorem fsqrt_same {a : Nat} (ha : a < 18446744073709551616) (h : kind a = 0 ∨ kind a = 2) (h2 : a ≤ 9223372036854775808) : fsqrt a = a := by
  unfold fsqrt Format.sqrt
  rcases h with h | h
  · obtain ⟨m, i, hr, _⟩ := fin_read (a := a) (kind_fin (by omega))
    rw [hr, (num_zero (by omega) hr).2 h]
    simp only [Datum.root, if_pos, Option.map_some, ans, write_num]
    rw [nearest_rung, Nat.zero_mul, rung_zero]
    exact zero_word h ha
  · have h3 := kind_inf h
    have hs : sg a = false := by unfold sg; rw [beq_eq_false_iff_ne]; omega
    rw [read_inf h, hs]
    simp only [Datum.root, Bool.false_eq_true, if_false, Option.map_some, ans, rung_inf_word]
    rw [← hs]
    exact inf_word h ha
theorem root_same {n w n' w' K' d : Nat} (h1 : w * w ≤ n) (h2 : n < (w + 1) * (w + 1)) (h1' : w' * w' ≤ n') (h2' : n' < (w' + 1) * (w' + 1)) (hn : n' = n * 4 ^ d) (hb : 2 ^ 107 ≤ n) (hK : 1 ≤ K') :
    rung ((2 * w + (w * w != n).toNat) * 2 ^ (K' + d - 1)) 1 = rung ((2 * w' + (w' * w' != n').toNat) * 2 ^ (K' - 1)) 1 := by
  have h4 : (4 : Nat) ^ d = 2 ^ d * 2 ^ d := by rw [show (4 : Nat) = 2 * 2 from rfl, Nat.mul_pow]
  have hpd := Nat.two_pow_pos d
  have hw' : w' / 2 ^ d = w := by
    refine (root_unique h1 h2 ?_ ?_).symm
    · have k1 : w' / 2 ^ d * 2 ^ d ≤ w' := Nat.div_mul_le_self _ _
      have k2 := Nat.mul_le_mul k1 k1
      have k3 : w' / 2 ^ d * 2 ^ d * (w' / 2 ^ d * 2 ^ d) = w' / 2 ^ d * (w' / 2 ^ d) * 4 ^ d := by rw [h4]; ac_rfl
      rw [k3] at k2
      refine Nat.le_of_mul_le_mul_right (c := 4 ^ d) ?_ (Nat.pow_pos (by decide))
      rw [← hn]; omega
    · have k1 : w' + 1 ≤ (w' / 2 ^ d + 1) * 2 ^ d := by
        have := Nat.div_add_mod w' (2 ^ d)
        have := Nat.mod_lt w' hpd
        rw [Nat.add_mul, Nat.mul_comm (w' / 2 ^ d)]; omega
      have k2 := Nat.mul_le_mul k1 k1
      have k3 : (w' / 2 ^ d + 1) * 2 ^ d * ((w' / 2 ^ d + 1) * 2 ^ d) = (w' / 2 ^ d + 1) * (w' / 2 ^ d + 1) * 4 ^ d := by rw [h4]; ac_rfl
      rw [k3] at k2
      refine Nat.lt_of_mul_lt_mul_right (a := 4 ^ d) ?_
      rw [← hn]; omega
  obtain ⟨A, hA⟩ : ∃ A, 2 * w' + (w' * w' != n').toNat = A := ⟨_, rfl⟩
  have hs : (w' * w' != n').toNat ≤ 1 := Bool.toNat_le _
  have e1 : A / 2 ^ (d + 1) = w := by
    rw [Nat.pow_succ, Nat.mul_comm, ← Nat.div_div_eq_div_mul, show A / 2 = w' by omega, hw']
  have e2 : (A % 2 ^ (d + 1) != 0) = (w * w != n) := by
    rw [Bool.eq_iff_iff, bne_iff_ne, bne_iff_ne]
    refine not_congr ?_
    have hdm := Nat.div_add_mod A (2 ^ (d + 1))
    rw [e1] at hdm
    constructor
    · intro h0
      rw [h0, Nat.add_zero, Nat.pow_succ] at hdm
      have hz : (w' * w' != n').toNat = 0 := by
        have : (2 ^ d * 2 * w) % 2 = 0 := by rw [Nat.mul_right_comm]; omega
        omega
      have hww : w' = 2 ^ d * w := by
        have : 2 ^ d * 2 * w = 2 * (2 ^ d * w) := by ac_rfl
        omega
      have hsq : w' * w' = n' := by
        cases hq : (w' * w' != n')
        · simpa using hq
        · rw [hq] at hz; cases hz
      rw [hww, hn] at hsq
      have : 2 ^ d * w * (2 ^ d * w) = w * w * 4 ^ d := by rw [h4]; ac_rfl
      rw [this] at hsq
      exact Nat.eq_of_mul_eq_mul_right (Nat.pow_pos (by decide)) hsq
    · intro hsq
      have hww : w' = w * 2 ^ d := by
        have k : w * 2 ^ d * (w * 2 ^ d) = n' := by rw [hn, ← hsq, h4]; ac_rfl
        refine root_unique h1' h2' (by omega) ?_
        rw [← k, Nat.add_mul, Nat.mul_add]; omega
      have hz : (w' * w' != n') = false := by
        have k : w' * w' = n' := by rw [hww, hn, ← hsq, h4]; ac_rfl
        rw [k]; simp
      rw [hz] at hA
      have : A = 2 ^ (d + 1) * w := by
        rw [← hA, hww, Nat.pow_succ]
        show 2 * (w * 2 ^ d) + 0 = _
        rw [Nat.add_zero]; ac_rfl
      rw [this, Nat.mul_mod_right]
  have hst : stick A (2 ^ (d + 1)) = 2 * w + (w * w != n).toNat := by unfold stick; rw [e1, e2]
  have hbig : 9007199254740992 ≤ w := by
    rcases Nat.lt_or_ge w 9007199254740992 with h | h
    · have := Nat.mul_le_mul (show w + 1 ≤ 9007199254740992 by omega) (show w + 1 ≤ 9007199254740992 by omega)
      have : (2 : Nat) ^ 107 = 162259276829213363391578010288128 := by decide
      omega
    · exact h
  have hr := rung_stick A (2 ^ (d + 1)) (K' + d - 1) 0 (Nat.two_pow_pos _) (by rw [e1]; exact hbig)
  rw [hst, Nat.pow_zero, Nat.mul_one, show K' + d - 1 + 1 = (K' - 1) + (d + 1) by omega, Nat.pow_add, ← Nat.mul_assoc] at hr
  have hsc := rung_scale (A * 2 ^ (K' - 1)) 1 (Nat.two_pow_pos (d + 1))
  rw [Nat.one_mul] at hsc
  rw [hsc] at hr
  rw [hA, ← hr]
theorem root_form {n w n' w' K K' : Nat} (h1 : w * w ≤ n) (h2 : n < (w + 1) * (w + 1)) (h1' : w' * w' ≤ n') (h2' : n' < (w' + 1) * (w' + 1)) (hn : n * 4 ^ K = n' * 4 ^ K') (hb : 2 ^ 107 ≤ n) (hb' : 2 ^ 107 ≤ n') (hK : 1 ≤ K) (hK' : 1 ≤ K') :
    rung ((2 * w + (w * w != n).toNat) * 2 ^ (K - 1)) 1 = rung ((2 * w' + (w' * w' != n').toNat) * 2 ^ (K' - 1)) 1 := by
  have hp : ∀ k, 0 < (4 : Nat) ^ k := fun k => Nat.pow_pos (by decide)
  rcases Nat.le_total K' K with h | h
  · obtain ⟨d, rfl⟩ : ∃ d, K = K' + d := ⟨K - K', by omega⟩
    refine root_same h1 h2 h1' h2' ?_ hb hK'
    rw [Nat.add_comm K' d, Nat.pow_add, ← Nat.mul_assoc] at hn
    exact (Nat.eq_of_mul_eq_mul_right (hp _) hn).symm
  · obtain ⟨d, rfl⟩ : ∃ d, K' = K + d := ⟨K' - K, by omega⟩
    refine (root_same h1' h2' h1 h2 ?_ hb' hK).symm
    rw [Nat.add_comm K d, Nat.pow_add, ← Nat.mul_assoc] at hn
    exact Nat.eq_of_mul_eq_mul_right (hp _) hn
/-- The root, by any number of digits that is enough. -/
theorem fsqrt_fin {a n w K : Nat} (h : kind a = 1) (hs : sg a = false) (hn : (V a).natAbs * 2 ^ E74 = n * 4 ^ K) (hK : 1 ≤ K) (h1 : w * w ≤ n) (h2 : n < (w + 1) * (w + 1)) (hb : 2 ^ 107 ≤ n) :
    fsqrt a = D.word false (rung ((2 * w + (w * w != n).toNat) * 2 ^ (K - 1)) 1) := by
  have hv := (sg_V (a := a) (by omega)).2 hs
  have hv0 := V_ne h
  obtain ⟨n', w', K', k1, k2, k3, k4, k5, k6⟩ := sqrt_form (kind_fin (by omega : kind a ≤ 1)) (show 0 < V a by omega)
  unfold fsqrt
  rw [k6]
  show D.word _ _ = _
  rw [root_form k3 k4 h1 h2 (by rw [← k1, hn]) k5 hb k2 hK]
-- orders
/-- How great the number of these bits is. -/
def mag (r : Nat) : Nat := if r < 4503599627370496 then r else (4503599627370496 + r % 4503599627370496) * 2 ^ (r / 4503599627370496 - 1)
theorem mag_lt {r s : Nat} (h : r < s) : mag r < mag s := by
  unfold mag
  by_cases h1 : s < 4503599627370496
  · rw [if_pos h1, if_pos (by omega)]; exact h
  · rw [if_neg h1]
    have hp := Nat.two_pow_pos (s / 4503599627370496 - 1)
    by_cases h2 : r < 4503599627370496
    · rw [if_pos h2]
      have : (4503599627370496 + s % 4503599627370496) * 1 ≤ (4503599627370496 + s % 4503599627370496) * 2 ^ (s / 4503599627370496 - 1) := Nat.mul_le_mul_left _ hp
      omega
    · rw [if_neg h2]
      by_cases h3 : r / 4503599627370496 = s / 4503599627370496
      · rw [h3]
        exact Nat.mul_lt_mul_of_pos_right (by omega) hp
      · obtain ⟨d, hd⟩ : ∃ d, s / 4503599627370496 - 1 = (r / 4503599627370496 - 1) + (d + 1) := ⟨s / 4503599627370496 - 1 - r / 4503599627370496, by omega⟩
        rw [hd, Nat.pow_add, Nat.mul_left_comm]
        rw [Nat.mul_comm]
        refine Nat.mul_lt_mul_of_pos_left ?_ (Nat.two_pow_pos _)
        have : (4503599627370496 + s % 4503599627370496) * 2 ≤ (4503599627370496 + s % 4503599627370496) * 2 ^ (d + 1) := by
          refine Nat.mul_le_mul_left _ ?_
          rw [Nat.pow_succ]
          have := Nat.two_pow_pos d
          omega
        omega
theorem val_mag {a : Nat} (h : a % 9223372036854775808 < 9218868437227405312) : V a = if sg a then -(mag (a % 9223372036854775808) : Int) else mag (a % 9223372036854775808) := by
  unfold V mag
  rw [read_eq]
  by_cases h1 : a % 9223372036854775808 < 4503599627370496
  · rw [if_pos h1, if_pos h1]
    simp only [val, signed_is]
    simp [sg]
  · rw [if_neg h1, if_pos h, if_neg h1]
    simp only [val, signed_is]
    rw [show ((-1074 : Int) + ((a % 9223372036854775808 / 4503599627370496 - 1 : Nat) : Int) + 1074).toNat = a % 9223372036854775808 / 4503599627370496 - 1 by omega]
    rfl
/-- Where a float stands in the order. -/
def place (a : Nat) : Int := if sg a then -((a % 9223372036854775808 : Nat) : Int) else ((a % 9223372036854775808 : Nat) : Int)
theorem val_inf {a : Nat} (h : kind a = 2) : V a = signed (sg a) 1 2200 := by unfold V; rw [read_inf h]; rfl
theorem mag_inf (r : Nat) (h : r < 9218868437227405312) : mag r < 1 <<< 2200 := by
  have h2 := signed_lt (m := mag 0) (u := 0) false (by unfold mag; rw [if_pos (by omega)]; omega) (by omega)
  obtain ⟨m, i, _, hm, hi, hi2, hv, hA⟩ := fin_read (a := r) (by omega)
  have hs : sg r = false := by unfold sg; rw [beq_eq_false_iff_ne]; omega
  have hvm := val_mag (a := r) (by omega)
  rw [hs, if_neg (by simp), Nat.mod_eq_of_lt (by omega)] at hvm
  have k := (signed_lt (m := m) (u := (i + 1074).toNat) (sg r) hm (by omega)).1
  rw [← hv, hvm] at k
  simp only [signed, Bool.false_eq_true, if_false] at k
  omega
theorem place_lt {a b : Nat} (ha : kind a ≠ 3) (hb : kind b ≠ 3) (h : place a < place b) : V a < V b := by
  obtain ⟨I, hI⟩ : ∃ I : Nat, 1 <<< 2200 = I := ⟨_, rfl⟩
  have key : ∀ c, kind c ≠ 3 → ∃ M : Nat, (c % 9223372036854775808 ≤ 9218868437227405312) ∧ V c = (if sg c then -(M : Int) else M) ∧ ((c % 9223372036854775808 < 9218868437227405312 ∧ M = mag (c % 9223372036854775808)) ∨ (c % 9223372036854775808 = 9218868437227405312 ∧ M = I)) := by
    intro c hc
    rcases kind_cases c with h1 | h1 | h1 | h1
    · have := kind_fin (by omega : kind c ≤ 1)
      exact ⟨_, by omega, val_mag this, .inl ⟨this, rfl⟩⟩
    · have := kind_fin (by omega : kind c ≤ 1)
      exact ⟨_, by omega, val_mag this, .inl ⟨this, rfl⟩⟩
    · have := kind_inf h1
      refine ⟨I, by omega, ?_, .inr ⟨this, rfl⟩⟩
      rw [val_inf h1, ← hI]; rfl
    · exact absurd h1 hc
  obtain ⟨M, a1, a2, a3⟩ := key a ha
  obtain ⟨N, b1, b2, b3⟩ := key b hb
  have mono : ∀ {r s R S : Nat}, ((r < 9218868437227405312 ∧ R = mag r) ∨ (r = 9218868437227405312 ∧ R = I)) → ((s < 9218868437227405312 ∧ S = mag s) ∨ (s = 9218868437227405312 ∧ S = I)) → r < s → R < S := by
    intro r s R S h1 h2 h3
    rcases h1 with ⟨h1, rfl⟩ | ⟨h1, rfl⟩ <;> rcases h2 with ⟨h2, rfl⟩ | ⟨h2, rfl⟩
    · exact mag_lt h3
    · have := mag_inf r h1; omega
    · omega
    · omega
  have zero : ∀ {r R : Nat}, ((r < 9218868437227405312 ∧ R = mag r) ∨ (r = 9218868437227405312 ∧ R = I)) → 0 < r → 0 < R := by
    intro r R h1 h2
    have := mono (r := 0) (R := 0) (.inl ⟨by omega, by unfold mag; rw [if_pos (by omega)]⟩) h1 h2
    exact this
  rw [a2, b2]
  unfold place at h
  clear a2 b2 key hI
  cases hsa : sg a <;> cases hsb : sg b <;> rw [hsa, hsb] at h <;> simp only [Bool.false_eq_true, if_false, if_true] at h ⊢
  · have := mono a3 b3 (by omega); omega
  · omega
  · by_cases h0 : 0 < a % 9223372036854775808
    · have := zero a3 h0; omega
    · have := zero b3 (by omega); omega
  · have := mono b3 a3 (by omega); omega
theorem place_eq {a b : Nat} (h : place a = place b) : V a = V b := by
  have hm : a % 9223372036854775808 = b % 9223372036854775808 := by unfold place at h; split at h <;> split at h <;> omega
  by_cases hs : sg a = sg b
  · unfold V
    rw [read_eq, read_eq, hm]
    unfold sg at hs
    rw [hs]
  · have h0 : a % 9223372036854775808 = 0 := by
      unfold place at h
      cases hsa : sg a <;> cases hsb : sg b <;> rw [hsa, hsb] at h hs <;> simp at hs <;> simp only [Bool.false_eq_true, if_false, if_true] at h <;> omega
    have ka : kind a = 0 := by unfold kind; rw [if_pos h0]
    have kb : kind b = 0 := by unfold kind; rw [if_pos (by omega)]
    rw [V_zero ka, V_zero kb]
theorem fcmp_place {a b : Nat} : fcmp a b = if kind a = 3 ∨ kind b = 3 then (0, false) else (if place a < place b then -1 else if place b < place a then 1 else 0, true) := by
  by_cases h : kind a = 3 ∨ kind b = 3
  · rw [if_pos h]
    exact fcmp_nan (by rcases h with h | h; exact .inl (kind_nan h); exact .inr (kind_nan h))
  · rw [if_neg h]
    have ha : kind a ≠ 3 := fun e => h (.inl e)
    have hb : kind b ≠ 3 := fun e => h (.inr e)
    have na : ∀ c, kind c ≠ 3 → isNan c = false := by
      intro c hc
      simp only [isNan, decide_eq_false_iff_not]
      rcases kind_cases c with h1 | h1 | h1 | h1
      · have := kind_fin (by omega : kind c ≤ 1); omega
      · have := kind_fin (by omega : kind c ≤ 1); omega
      · have := kind_inf h1; omega
      · exact absurd h1 hc
    rw [fcmp_key (na a ha) (na b hb)]
    show (ordInt (compare (V a) (V b)), true) = _
    rcases Int.lt_trichotomy (place a) (place b) with h1 | h1 | h1
    · rw [if_pos h1, cmp_lt (place_lt ha hb h1)]; rfl
    · rw [if_neg (by omega), if_neg (by omega), place_eq h1, cmp_eq]; rfl
    · rw [if_neg (by omega), if_pos h1, cmp_gt (place_lt hb ha h1)]; rfl
end Go.Proofs.YtgdohmaljbggjaaGreatDoor.Fl
namespace Go.Proofs.YtgdohmaljbggjaaGreatDoor
open Go.RowKit Go.Lib
set_option maxRecDepth 4000 in
theorem rkind_any (a : Nat) (w : World) (ha : a < 18446744073709551616) :
    Calls Tryz.prog 67 #[.int .u64 a] w fun e w' => e = .returned (.int .i64 (Fl.kind a : Nat)) ∧ w = w' := by
  have HK : Hid (Fl.kind a = if a % 9223372036854775808 = 0 then 0 else if a % 9223372036854775808 < 9218868437227405312 then 1 else if a % 9223372036854775808 = 9218868437227405312 then 2 else 3) := Lib.hid rfl
  obtain ⟨b, hb⟩ : ∃ b, a % 9223372036854775808 = b := ⟨_, rfl⟩
  have hbI : (a : Int) % 9223372036854775808 = (b : Int) := by omega
  rw [hb] at HK
  have hb2 : b < 9223372036854775808 := by omega
  clear hb
  rcases (show b = 0 ∨ (0 < b ∧ b < 9218868437227405312) ∨ b = 9218868437227405312 ∨ 9218868437227405312 < b by omega) with h | h | h | h
  · have HR := Lib.hid (show Fl.kind a = 0 by rw [HK.out, if_pos h])
    have b0 : ((b : Int) == 0) = true := by rw [beq_iff_eq]; omega
    clear h HK
    go_enter Tryz.func67, Tryz.ntmps67
    go_wp2_with fail
    go_ret
    exact ⟨ret_int (by rw [HR.out]; rfl), rfl⟩
  · have HR := Lib.hid (show Fl.kind a = 1 by rw [HK.out, if_neg (by omega), if_pos h.2])
    have b0 : ((b : Int) == 0) = false := by rw [beq_eq_false_iff_ne]; omega
    have b1 : decide ((b : Int) < 9218868437227405312) = true := decide_eq_true (by omega)
    clear h HK
    go_enter Tryz.func67, Tryz.ntmps67
    go_wp2_with fail
    go_ret
    exact ⟨ret_int (by rw [HR.out]; rfl), rfl⟩
  · have HR := Lib.hid (show Fl.kind a = 2 by rw [HK.out, if_neg (by omega), if_neg (by omega), if_pos h])
    have b0 : ((b : Int) == 0) = false := by rw [beq_eq_false_iff_ne]; omega
    have b1 : decide ((b : Int) < 9218868437227405312) = false := decide_eq_false (by omega)
    have b2 : ((b : Int) == 9218868437227405312) = true := by rw [beq_iff_eq]; omega
    clear h HK
    go_enter Tryz.func67, Tryz.ntmps67
    go_wp2_with fail
    go_ret
    exact ⟨ret_int (by rw [HR.out]; rfl), rfl⟩
  · have HR := Lib.hid (show Fl.kind a = 3 by rw [HK.out, if_neg (by omega), if_neg (by omega), if_neg (by omega)])
    have b0 : ((b : Int) == 0) = false := by rw [beq_eq_false_iff_ne]; omega
    have b1 : decide ((b : Int) < 9218868437227405312) = false := decide_eq_false (by omega)
    have b2 : ((b : Int) == 9218868437227405312) = false := by rw [beq_eq_false_iff_ne]; omega
    clear h HK
    go_enter Tryz.func67, Tryz.ntmps67
    go_wp2_with fail
    go_ret
    exact ⟨ret_int (by rw [HR.out]; rfl), rfl⟩
/-- The bits of a number with a sign. -/
theorem rsigned_any (n : Nat) (neg : Bool) (w : World) (hn : n < 9223372036854775808) :
    Calls Tryz.prog 79 #[.int .u64 n, .bool neg] w fun e w' => e = .returned (.int .u64 (n + neg.toNat * 9223372036854775808 : Nat)) ∧ w = w' := by
  cases neg
  · go_enter Tryz.func79, Tryz.ntmps79
    go_wp2_with fail
    go_ret
    exact ⟨ret_int (by simp), rfl⟩
  · have h1 : IntKind.u64.wrap ((n : Int) + 9223372036854775808) = (n : Int) + 9223372036854775808 := by rw [IntKind.wrap_u64]; omega
    go_enter Tryz.func79, Tryz.ntmps79
    go_wp2_with fail
    go_ret
    exact ⟨ret_int (by simp), rfl⟩
/-- The parts of a float's bits. -/
def pm (a : Nat) : Nat := if a / 4503599627370496 % 2048 = 0 then a % 4503599627370496 else a % 4503599627370496 + 4503599627370496
def pe (a : Nat) : Int := if a / 4503599627370496 % 2048 = 0 then -1074 else ((a / 4503599627370496 % 2048 : Nat) : Int) - 1075
def pn (a : Nat) : Bool := decide (9223372036854775808 ≤ a)
theorem rparts_any (a : Nat) (w : World) (ha : a < 18446744073709551616) :
    Calls Tryz.prog 73 #[.int .u64 a] w fun e w' => e = .returned (.tuple #[.bool (pn a), .int .u64 (pm a : Nat), .int .i64 (pe a)]) ∧ w = w' := by
  obtain ⟨x, hx⟩ : ∃ x, a / 4503599627370496 % 2048 = x := ⟨_, rfl⟩
  obtain ⟨m, hm⟩ : ∃ m, a % 4503599627370496 = m := ⟨_, rfl⟩
  obtain ⟨y, hy⟩ : ∃ y, a / 4503599627370496 = y := ⟨_, rfl⟩
  have HM : Hid (pm a = if x = 0 then m else m + 4503599627370496) := Lib.hid (by unfold pm; rw [hx, hm])
  have HE : Hid (pe a = if x = 0 then -1074 else (x : Int) - 1075) := Lib.hid (by unfold pe; rw [hx])
  have hyI : (a : Int) / 4503599627370496 = (y : Int) := by omega
  have hxI : (y : Int) % 2048 = (x : Int) := by omega
  have hmI : (a : Int) % 4503599627370496 = (m : Int) := by omega
  have hx2 : x < 2048 := by omega
  have hm2 : m < 4503599627370496 := by omega
  obtain ⟨ng, hng⟩ : ∃ ng, pn a = ng := ⟨_, rfl⟩
  have hngI : decide ((9223372036854775808 : Int) ≤ (a : Int)) = ng := by rw [← hng]; unfold pn; simp only [decide_eq_decide]; omega
  rw [hng]
  clear hx hm hy hng
  by_cases h : x = 0
  · have HM2 := Lib.hid (show pm a = m by rw [HM.out, if_pos h])
    have HE2 := Lib.hid (show pe a = -1074 by rw [HE.out, if_pos h])
    have b0 : ((x : Int) == 0) = true := by rw [beq_iff_eq]; omega
    clear h HM HE
    go_enter Tryz.func73, Tryz.ntmps73
    go_wp2_with fail
    go_ret3
    exact ⟨by rw [HM2.out, HE2.out, ← hmI]; rfl, rfl⟩
  · have HM2 := Lib.hid (show pm a = m + 4503599627370496 by rw [HM.out, if_neg h])
    have HE2 := Lib.hid (show pe a = (x : Int) - 1075 by rw [HE.out, if_neg h])
    have b0 : ((x : Int) == 0) = false := by rw [beq_eq_false_iff_ne]; omega
    clear h HM HE
    go_enter Tryz.func73, Tryz.ntmps73
    go_wp2_with fail
    go_ret3
    exact ⟨by rw [HM2.out, HE2.out]; rfl, rfl⟩
theorem rplace_any (a : Nat) (w : World) (ha : a < 18446744073709551616) :
    Calls Tryz.prog 83 #[.int .u64 a] w fun e w' => e = .returned (.int .i64 (Fl.place a)) ∧ w = w' := by
  obtain ⟨b, hb⟩ : ∃ b, a % 9223372036854775808 = b := ⟨_, rfl⟩
  have hbI : (a : Int) % 9223372036854775808 = (b : Int) := by omega
  have hb2 : b < 9223372036854775808 := by omega
  by_cases h : 9223372036854775808 ≤ a
  · have HR := Lib.hid (show Fl.place a = -(b : Int) by unfold Fl.place; rw [hb, show Fl.sg a = true by unfold Fl.sg; rw [beq_iff_eq]; omega, if_pos rfl])
    have b0 : decide ((9223372036854775808 : Int) ≤ (a : Int)) = true := decide_eq_true (by omega)
    clear h hb
    go_enter Tryz.func83, Tryz.ntmps83
    go_wp2_with fail
    go_ret
    exact ⟨ret_int (by rw [HR.out]), rfl⟩
  · have HR := Lib.hid (show Fl.place a = (b : Int) by unfold Fl.place; rw [hb, show Fl.sg a = false by unfold Fl.sg; rw [beq_eq_false_iff_ne]; omega, if_neg (by simp)])
    have b0 : decide ((9223372036854775808 : Int) ≤ (a : Int)) = false := decide_eq_false (by omega)
    clear h hb
    go_enter Tryz.func83, Tryz.ntmps83
    go_wp2_with fail
    go_ret
    exact ⟨ret_int (by rw [HR.out]), rfl⟩
end Go.Proofs.YtgdohmaljbggjaaGreatDoor
namespace Go.Proofs.YtgdohmaljbggjaaGreatDoor
open Go.RowKit Go.Lib
theorem nb_nat (V : Nat) : ((V : Nat) : Int).natAbs = V := Int.natAbs_natCast V
/-- What a call that answers a large number does. -/
def LofOk (w : World) (n : Int) (e : Ending) (w' : World) : Prop := e = .returned (lof n) ∧ Below w.heap.size w w'
theorem Lg.fin {w W : World} {k : Nat} {n : Bool} {s : ByteArray} (h : Lg W k n s) (hb : Below w.heap.size w W) (hk : w.heap.size ≤ k) (n2 : Bool) (s2 : ByteArray) :
    ((W.setCell ⟨k, 0, none⟩ (.bool n2)).setCell ⟨k, 1, none⟩ (.string s2)).cell? ⟨k, 0, none⟩ = some (.bool n2) ∧ ((W.setCell ⟨k, 0, none⟩ (.bool n2)).setCell ⟨k, 1, none⟩ (.string s2)).cell? ⟨k, 1, none⟩ = some (.string s2) ∧ Below w.heap.size w ((W.setCell ⟨k, 0, none⟩ (.bool n2)).setCell ⟨k, 1, none⟩ (.string s2)) := by
  have h2 := (h.set n2 s2).cells
  exact ⟨h2.1, h2.2.1, (hb.setCell (p := ⟨k, 0, none⟩) hk _).setCell (p := ⟨k, 1, none⟩) hk _⟩
set_option maxRecDepth 4000 in
set_option maxHeartbeats 2000000 in
theorem rsh_any (V k : Nat) (w : World) (hV : Pl.nb V ≤ 20000) (hk : k ≤ 10000) :
    Calls Tryz.prog 81 #[lof V, .int .i64 k] w (LofOk w (V * 2 ^ k : Nat)) := by
  have hn := Pl.nb_shift V k
  have HS : Hid (∀ w, Calls Tryz.prog 124 #[lof V, .int .i64 k] w fun e w' => e = .returned (.tuple #[lof (V * 2 ^ k : Nat), .int .i64 0]) ∧ Below w.heap.size w w') := Lib.hid (fun w => by
    have h := rshift_any false V k w ⟨Pl.nb_good (by omega), by simp⟩ (by omega) (Pl.nb_good (by omega))
    have e1 : lof (V : Int) = lv false (Pl.dgs V) := by unfold lof; rw [nb_nat, decide_eq_false (by omega)]
    have e2 : lof ((V * 2 ^ k : Nat) : Int) = lv false (Pl.dgs (V * 2 ^ k)) := by unfold lof; rw [nb_nat, decide_eq_false (by omega)]
    rw [e1, e2]
    exact h)
  unfold LofOk
  simp only [lof_is] at *
  generalize bs (Pl.dgs ((V * 2 ^ k : Nat) : Int).natAbs) = s2 at *
  generalize decide (((V * 2 ^ k : Nat) : Int) < 0) = n2 at *
  generalize bs (Pl.dgs (V : Int).natAbs) = s at *
  generalize decide ((V : Int) < 0) = na at *
  clear hn hV hk
  go_enter Tryz.func81, Tryz.ntmps81
  go_wp2_with fail
  refine (HS.out _).mono ?_
  rintro e w1 ⟨rfl, hb⟩
  have l1 := (Lg.at (w := w.alloc (.cells #[.bool na, .string s] 42)) (neg := false) (s := ⟨#[]⟩) (k := w.heap.size + 1) (by simp)).below hb
  have L1 := Lib.hid (l1.alloc (.cells #[.bool n2, .string s2] 42))
  have HB := Lib.hid (show Below w.heap.size w (w1.alloc (.cells #[.bool n2, .string s2] 42)) from ((((Below.refl w.heap.size w).alloc (Nat.le_refl _) _).alloc (by simp) _).trans (hb.mono (by simp; omega))).alloc (by have := hb.size; simp at this; omega) _)
  clear hb l1
  obtain ⟨r0, r1, f0, f1⟩ := L1.out.cells
  go_wp2_with fail
  obtain ⟨k0, k1, kB⟩ := L1.out.fin HB.out (by omega) n2 s2
  exact bodyPost_ret (v := .agg #[.bool n2, .string s2]) (by simp [results, Tryz.results81, go_sem, k0, k1]) rfl ⟨rfl, kB⟩
set_option maxRecDepth 4000 in
theorem rwhole_any (x : Int) (w : World) :
    Calls Tryz.prog 60 #[lof x] w (LofOk w (x.natAbs : Nat)) := by
  have e1 : lof ((x.natAbs : Nat) : Int) = .agg #[.bool false, .string (bs (Pl.dgs x.natAbs))] := by rw [lof_is, nb_nat, decide_eq_false (by omega)]
  unfold LofOk
  rw [e1]
  simp only [lof_is]
  generalize bs (Pl.dgs x.natAbs) = s
  generalize decide (x < 0) = na
  clear e1
  go_enter Tryz.func60, Tryz.ntmps60
  go_wp2_with fail
  refine bodyPost_ret (v := .agg #[.bool false, .string s]) (by simp [results, Tryz.results60, go_sem]) rfl ⟨rfl, ?_⟩
  exact ((Below.refl w.heap.size w).alloc (Nat.le_refl _) _).alloc (by simp) _
set_option maxRecDepth 4000 in
set_option maxHeartbeats 2000000 in
theorem runit_any (w : World) : Calls Tryz.prog 72 #[] w (LofOk w (2 ^ Fl.E74 : Nat)) := by
  have HO := Lib.hid (fun w => rof_any 1 w (by omega) (by omega))
  have HS : Hid (∀ w, Calls Tryz.prog 81 #[lof 1, .int .i64 1074] w (LofOk w (2 ^ Fl.E74 : Nat))) := Lib.hid (fun w => by
    have hE := Fl.E74_is
    have h := rsh_any 1 Fl.E74 w (by decide) (by omega)
    rw [Nat.one_mul, show ((Fl.E74 : Nat) : Int) = 1074 by omega] at h
    exact h)
  unfold LofOk at *
  simp only [lof_is] at *
  generalize bs (Pl.dgs ((2 ^ Fl.E74 : Nat) : Int).natAbs) = s2 at *
  generalize decide (((2 ^ Fl.E74 : Nat) : Int) < 0) = n2 at *
  generalize bs (Pl.dgs (1 : Int).natAbs) = s at *
  generalize decide ((1 : Int) < 0) = na at *
  go_enter Tryz.func72, Tryz.ntmps72
  go_wp2_with fail
  refine (HO.out _).mono ?_
  rintro e w1 ⟨rfl, hb⟩
  have L1 := Lib.hid ((Lg.new w false ⟨#[]⟩).below hb)
  have HB := Lib.hid (show Below w.heap.size w w1 from ((Below.refl w.heap.size w).alloc (Nat.le_refl _) _).trans (hb.mono (by simp)))
  clear hb
  go_wp2_with fail
  refine (HS.out _).mono ?_
  rintro e w2 ⟨rfl, hb⟩
  have L2 := Lib.hid (L1.out.below hb)
  have HB2 := Lib.hid (HB.out.trans (hb.mono HB.out.size))
  clear hb
  obtain ⟨r0, r1, f0, f1⟩ := L2.out.cells
  go_wp2_with fail
  obtain ⟨k0, k1, kB⟩ := L2.out.fin HB2.out (by omega) n2 s2
  exact bodyPost_ret (v := .agg #[.bool n2, .string s2]) (by simp [results, Tryz.results72, go_sem, k0, k1]) rfl ⟨rfl, kB⟩
theorem Lg.both {W : World} {k j : Nat} {neg n2 : Bool} {s s2 : ByteArray} (h : Lg W k neg s) (_ : Lg W j n2 s2) (hne : j ≠ k) (x y : Value) : Lg ((W.setCell ⟨j, 0, none⟩ x).setCell ⟨j, 1, none⟩ y) k neg s := (h.other hne).other hne
theorem chain {w X w4 : World} (h : Below w.heap.size w X) (hb : Below X.heap.size X w4) : Below w.heap.size w w4 := h.trans (hb.mono h.size)
theorem Lg.drew {W : World} {k : Nat} {neg : Bool} {s : ByteArray} (h : Lg W k neg s) : Lg W.drew k neg s := h
set_option maxRecDepth 4000 in
set_option maxHeartbeats 4000000 in
theorem rofn_any (n : Nat) (w : World) (hn : n < 18446744073709551616) : Calls Tryz.prog 75 #[.int .u64 n] w (LofOk w n) := by
  obtain ⟨h, hh⟩ : ∃ h, n / 2 = h := ⟨_, rfl⟩
  obtain ⟨r, hr⟩ : ∃ r, n % 2 = r := ⟨_, rfl⟩
  have hhl : h < 9223372036854775808 := by omega
  have hnbh : Pl.nb h ≤ 64 := (Pl.nb_lt_iff _ _).1 (by omega)
  have hnbr : Pl.nb r ≤ 64 := (Pl.nb_lt_iff _ _).1 (by omega)
  have hnbs : Pl.nb (h + h) ≤ 65 := by have := Pl.nb_add h h; omega
  have HO1 := Lib.hid (fun w => rof_any (h : Int) w (by omega) (by omega))
  have HO2 := Lib.hid (fun w => rof_any (r : Int) w (by omega) (by omega))
  have HA1 := Lib.hid (fun w => radd_any (h : Int) (h : Int) w (by rw [nb_nat]; omega) (by rw [nb_nat]; omega))
  have HA2 := Lib.hid (fun w => radd_any ((h : Int) + (h : Int)) (r : Int) w (by rw [show (h : Int) + (h : Int) = ((h + h : Nat) : Int) by omega, nb_nat]; omega) (by rw [nb_nat]; omega))
  rw [show (h : Int) + (h : Int) + (r : Int) = (n : Int) by omega] at HA2
  have hhI : (n : Int) / 2 = (h : Int) := by omega
  have hrI : (n : Int) % 2 = (r : Int) := by omega
  have hrT : (n : Int).tmod 2 = (r : Int) := by rw [Int.tmod_eq_emod_of_nonneg (by omega)]; omega
  have hw1 : IntKind.i64.wrap (h : Int) = h := IntWalk.i64_in _ (by omega)
  have hw2 : IntKind.i64.wrap (r : Int) = r := IntWalk.i64_in _ (by omega)
  unfold LofOk
  simp only [lof_is] at *
  generalize bs (Pl.dgs (h : Int).natAbs) = s1 at *
  generalize decide ((h : Int) < 0) = n1 at *
  generalize bs (Pl.dgs (r : Int).natAbs) = s2 at *
  generalize decide ((r : Int) < 0) = n2 at *
  generalize bs (Pl.dgs ((h : Int) + (h : Int)).natAbs) = s3 at *
  generalize decide ((h : Int) + (h : Int) < 0) = n3 at *
  generalize bs (Pl.dgs (n : Int).natAbs) = s4 at *
  generalize decide ((n : Int) < 0) = n4 at *
  clear hnbh hnbr hnbs hh hr
  go_enter Tryz.func75, Tryz.ntmps75
  go_wp2_with fail
  refine (HO1.out _).mono ?_
  rintro e w1 ⟨rfl, hb⟩
  have L0 := Lib.hid (((Lg.new w false ⟨#[]⟩).below hb).alloc (.cells #[.bool n1, .string s1] 42))
  have HB := Lib.hid (show Below w.heap.size w (w1.alloc (.cells #[.bool n1, .string s1] 42)) from ((((Below.refl w.heap.size w).alloc (Nat.le_refl _) _).trans (hb.mono (by simp)))).alloc (by have := hb.size; simp at this; omega) _)
  clear hb
  go_wp2_with fail
  refine (HA1.out _).mono ?_
  rintro e w2 ⟨rfl, hb⟩
  have L02 := Lib.hid ((L0.out.below hb).alloc (.cells #[.bool n3, .string s3] 42))
  have HB2 := Lib.hid (show Below w.heap.size w (w2.alloc (.cells #[.bool n3, .string s3] 42)) from (HB.out.trans (hb.mono HB.out.size)).alloc (by have := hb.size; have := HB.out.size; omega) _)
  have L2 := Lib.hid (Lg.new w2 n3 s3)
  have hk2 := L02.out.lt
  clear hb
  go_wp2_with fail
  obtain ⟨k2, hk2e⟩ : ∃ k2, w2.heap.size = k2 := ⟨_, rfl⟩
  rw [hk2e] at L2 ⊢
  clear hk2e
  generalize w2.alloc (.cells #[.bool n3, .string s3] 42) = w3 at *
  obtain ⟨p0, p1, _, _⟩ := L2.out.cells
  have hk3 := L2.out.lt
  have h03 := L02.out.lt
  have BA := Lib.hid (show ∀ o, Below w3.heap.size w3 (w3.alloc o).drew from fun o => ((Below.refl w3.heap.size w3).alloc (Nat.le_refl _) o).drew)
  have BD := Lib.hid (show Below w3.heap.size w3 w3.drew from (Below.refl _ _).drew)
  have HKC := Lib.hid (fun (W : World) (hb : Below w3.heap.size w3 W) => show W.cell? ⟨k2, 0, none⟩ = some (.bool n3) ∧ W.cell? ⟨k2, 1, none⟩ = some (.string s3) from ⟨(L2.out.below hb).cells.1, (L2.out.below hb).cells.2.1⟩)
  have HKS := Lib.hid (fun (W : World) (hb : Below w3.heap.size w3 W) (j : Nat) (hj : j ≠ k2) x y => show ((W.setCell ⟨j, 0, none⟩ x).setCell ⟨j, 1, none⟩ y).cell? ⟨k2, 0, none⟩ = some (.bool n3) ∧ ((W.setCell ⟨j, 0, none⟩ x).setCell ⟨j, 1, none⟩ y).cell? ⟨k2, 1, none⟩ = some (.string s3) from ⟨(((L2.out.below hb).other hj).other hj).cells.1, (((L2.out.below hb).other hj).other hj).cells.2.1⟩)
  go_region_held3 (fun W => W.cell? ⟨k2, 0, none⟩ = some (.bool n3) ∧ W.cell? ⟨k2, 1, none⟩ = some (.string s3)) (first | exact ⟨p0, p1⟩ | exact HKC.out _ BD.out | exact HKC.out _ (BA.out _) | exact HKC.out _ hB4 | exact HKC.out _ (hB4.alloc hB4.size _) | exact HKC.out _ hB5 | exact HKC.out _ (hB5.alloc hB5.size _) | exact HKS.out _ hB5 _ (by omega) _ _) (first
    | (go_at_call 58; refine (HO2.out _).mono ?_; rintro e w4 ⟨rfl, hb4⟩; (first | (have hB4 : Below w3.heap.size w3 w4 := chain BD.out hb4) | (have hB4 : Below w3.heap.size w3 w4 := chain (BA.out _) hb4; have LA4 : Lg w4 w3.heap.size false ⟨#[]⟩ := (Lg.new w3 false ⟨#[]⟩).drew.below hb4; obtain ⟨z0, z1, z2, z3⟩ := LA4.cells)); have hs4 := hB4.size; clear hb4)
    | (go_at_call 78; refine (HA2.out _).mono ?_; rintro e w5 ⟨rfl, hb5⟩; (first | (have LA5 : Lg w5 w3.heap.size false ⟨#[]⟩ := LA4.below hb5; have hB5 : Below w3.heap.size w3 w5 := chain hB4 hb5; obtain ⟨z0, z1, z2, z3⟩ := LA5.cells) | (have LA5 : Lg w5 w4.heap.size false ⟨#[]⟩ := (Lg.new w4 false ⟨#[]⟩).below hb5; have hB5 : Below w3.heap.size w3 w5 := chain (hB4.alloc hB4.size _) hb5; obtain ⟨z0, z1, z2, z3⟩ := LA5.cells) | (have hB5 : Below w3.heap.size w3 w5 := chain hB4 hb5)); have hs5 := hB5.size; clear hb5))
  all_goals
    have HBX := Lib.hid (chain HB2.out hB5)
    first
    | (have L6 := LA5.set n4 s4
       have L5 := Lib.hid ((L02.out.below hB5).both LA5 (by omega) (.bool n4) (.string s4))
       have HB6 := Lib.hid (LA5.fin HBX.out (by omega) n4 s4).2.2
       obtain ⟨y0, y1, _, _⟩ := L6.cells)
    | (have L5 := Lib.hid ((L02.out.below hB5).alloc (.cells #[.bool n4, .string s4] 42))
       have HB6 := Lib.hid (HBX.out.alloc HBX.out.size (.cells #[.bool n4, .string s4] 42)))
    obtain ⟨r0, r1, f0, f1⟩ := L5.out.cells
    go_wp2_with fail
    obtain ⟨k0, k1, kB⟩ := L5.out.fin HB6.out (by omega) n4 s4
    exact bodyPost_ret (v := .agg #[.bool n4, .string s4]) (by simp [results, Tryz.results75, go_sem, k0, k1]) rfl ⟨rfl, kB⟩
end Go.Proofs.YtgdohmaljbggjaaGreatDoor
