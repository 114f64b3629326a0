/- Plain facts of rounding a quotient of two whole numbers to a float (no program in sight). Plain facts: sums, products and quotients of floats are the exact ones, rounded once; where they fit they are exact. Roots of floats that are exact: plain facts. Whole parts and fractions of floats: plain facts, and the contracts of Truncate and Fraction of every number. Small contracts of floats: OfSmall, Sqrt; Truncate and Fraction of what is no number. -/
import Derived.Test.YtgdohmaljbggjaaGreatDoorOaab
import Derived.Test.YtgdohmaljbggjaaGreatDoorOaam
namespace Go.Proofs.YtgdohmaljbggjaaGreatDoor.Fl
open Ieee
/-- A quotient rounded to the nearest, ties to even. -/
def rhe (p q : Nat) : Nat := p / q + (decide (q < 2 * (p % q)) || (q == 2 * (p % q) && p / q % 2 == 1)).toNat
/-- The rung of p by q, told in units of the least float. -/
def rung (p q : Nat) : Nat := min (((p / q).log2 - 52) * 4503599627370496 + rhe p (q * 2 ^ ((p / q).log2 - 52))) 9218868437227405312
theorem rhe_cut (n d : Nat) : rhe n (2 ^ d) = cutS n d := rfl
theorem rhe_scale (p q : Nat) {c : Nat} (hc : 0 < c) : rhe (p * c) (q * c) = rhe p q := by
  unfold rhe
  rw [Nat.mul_div_mul_right _ _ hc, Nat.mul_mod_mul_right]
  generalize p % q = r
  generalize p / q = f
  have e1 : (q * c < 2 * (r * c)) ↔ q < 2 * r := by rw [← Nat.mul_assoc]; exact Nat.mul_lt_mul_right hc
  have e2 : (q * c = 2 * (r * c)) ↔ q = 2 * r := by rw [← Nat.mul_assoc]; exact ⟨fun h => Nat.eq_of_mul_eq_mul_right hc h, fun h => by rw [h]⟩
  have e3 : (q * c == 2 * (r * c)) = (q == 2 * r) := by rw [Bool.eq_iff_iff]; simp [e2]
  rw [e3]
  simp only [e1]
theorem rung_scale (p q : Nat) {c : Nat} (hc : 0 < c) : rung (p * c) (q * c) = rung p q := by
  unfold rung
  rw [Nat.mul_div_mul_right _ _ hc, Nat.mul_right_comm q c, rhe_scale _ _ hc]
theorem log2_div_pow (B y : Nat) : (B / 2 ^ y).log2 = B.log2 - y := by
  have hy : 0 < 2 ^ y := Nat.two_pow_pos y
  by_cases h : B < 2 ^ y
  · rw [Nat.div_eq_of_lt h]
    by_cases h0 : B = 0
    · subst h0; simp
    · have := (Nat.log2_lt h0).2 h
      simp; omega
  · have hB : B ≠ 0 := by omega
    have hq : B / 2 ^ y ≠ 0 := by
      have := Nat.div_pos (Nat.le_of_not_lt h) hy
      omega
    have hl : y ≤ B.log2 := (Nat.le_log2 hB).2 (Nat.le_of_not_lt h)
    have h1 := Nat.log2_self_le hB
    have h2 : B < 2 ^ (B.log2 + 1) := Nat.lt_log2_self
    obtain ⟨k, hk⟩ : ∃ k, B.log2 = k + y := ⟨B.log2 - y, by omega⟩
    rw [hk] at h1 h2 ⊢
    rw [show k + y - y = k by omega]
    refine Nat.le_antisymm ?_ ?_
    · have h3 : B / 2 ^ y < 2 ^ (k + 1) := by
        rw [Nat.div_lt_iff_lt_mul hy, ← Nat.pow_add]
        rw [show k + 1 + y = k + y + 1 by omega]; exact h2
      have := (Nat.log2_lt hq).2 h3
      omega
    · refine (Nat.le_log2 hq).2 ?_
      rw [Nat.le_div_iff_mul_le hy, ← Nat.pow_add]
      exact h1
theorem log2_between {n l : Nat} (h1 : 2 ^ l ≤ n) (h2 : n < 2 ^ (l + 1)) : n.log2 = l := by
  have h0 : n ≠ 0 := by have := Nat.two_pow_pos l; omega
  have a := (Nat.le_log2 h0).2 h1
  have b := (Nat.log2_lt h0).2 h2
  omega
/-- The nearest float of a number is that of its quotient. -/
theorem nearest_rung (s : Bool) (m : Nat) (i : Int) : D.nearest s m i = D.word s (rung (m * 2 ^ (i + 1074).toNat) (2 ^ (-(i + 1074)).toNat)) := by
  by_cases h : m = 0
  · subst h
    unfold Format.nearest rung rhe
    simp
  rw [nearest_eq s h]
  have hlog : (m * 2 ^ (i + 1074).toNat).log2 = m.log2 + (i + 1074).toNat := log2_mul_pow h _
  unfold rung
  rw [log2_div_pow, hlog, ← Nat.pow_add, rhe_cut]
  have hl : (lastOf m i + 1074).toNat = m.log2 + (i + 1074).toNat - (-(i + 1074)).toNat - 52 := by unfold lastOf; omega
  rw [← hl]
  congr 3
  have hb : -1074 ≤ lastOf m i := by unfold lastOf; omega
  generalize lastOf m i = l at hb
  rcases Int.lt_or_le i l with h1 | h1
  · have e1 : (i - l).toNat = 0 := by omega
    rw [e1, Nat.pow_zero, Nat.mul_one]
    have e2 : (-(i + 1074)).toNat + (l + 1074).toNat = (l - i).toNat + (i + 1074).toNat := by omega
    rw [e2, cutS_scale]
  · have e1 : (l - i).toNat = 0 := by omega
    have e2 : (-(i + 1074)).toNat = 0 := by omega
    have e3 : (i + 1074).toNat = (i - l).toNat + (l + 1074).toNat := by omega
    rw [e1, e2, cutS_zero, e3, Nat.pow_add, ← Nat.mul_assoc]
    have := cutS_scale (m * 2 ^ (i - l).toNat) 0 (l + 1074).toNat
    rw [this, cutS_zero]
/-- The last digit that stands for all that is left. -/
def stick (p q : Nat) : Nat := 2 * (p / q) + (p % q != 0).toNat
theorem rhe_stick (p q g : Nat) (hq : 0 < q) : rhe p (q * 2 ^ (g + 1)) = rhe (stick p q) (2 ^ (g + 2)) := by
  have hg : 0 < 2 ^ g := Nat.two_pow_pos g
  have hr : p % q < q := Nat.mod_lt _ hq
  have h1 : p / (q * 2 ^ (g + 1)) = p / q / 2 ^ (g + 1) := by rw [Nat.div_div_eq_div_mul]
  have h2 : p % (q * 2 ^ (g + 1)) = p % q + q * (p / q % 2 ^ (g + 1)) := by rw [Nat.mod_mul]
  have e2 : 2 ^ (g + 2) = 2 * 2 ^ (g + 1) := by rw [Nat.pow_succ 2 (g + 1), Nat.mul_comm]
  have e1 : 2 ^ (g + 1) = 2 * 2 ^ g := by rw [Nat.pow_succ, Nat.mul_comm]
  have hs : (p % q != 0).toNat ≤ 1 := by cases (p % q != 0) <;> simp
  have h3 : stick p q / 2 ^ (g + 2) = p / q / 2 ^ (g + 1) := by
    unfold stick
    rw [e2, ← Nat.div_div_eq_div_mul]
    congr 1
    omega
  have h4 : stick p q % 2 ^ (g + 2) = 2 * (p / q % 2 ^ (g + 1)) + (p % q != 0).toNat := by
    unfold stick
    rw [e2]
    have hm := Nat.mod_lt (p / q) (show 0 < 2 ^ (g + 1) by omega)
    have hd := Nat.div_add_mod (p / q) (2 ^ (g + 1))
    generalize p / q % 2 ^ (g + 1) = r at *
    generalize p / q / 2 ^ (g + 1) = f at *
    rw [← hd]
    generalize 2 ^ (g + 1) = C at *
    generalize (p % q != 0).toNat = t at *
    rw [show 2 * (C * f + r) + t = 2 * r + t + 2 * C * f by rw [Nat.mul_add, Nat.mul_assoc]; omega, Nat.add_mul_mod_self_left, Nat.mod_eq_of_lt (by omega)]
  unfold rhe
  rw [h1, h2, h3, h4]
  congr 2
  generalize p / q / 2 ^ (g + 1) = f
  generalize p / q % 2 ^ (g + 1) = r
  rw [e2, e1]
  generalize 2 ^ g = G at *
  have k1 : (q * (2 * G) < 2 * (p % q + q * r)) ↔ (2 * (2 * G) < 2 * (2 * r + (p % q != 0).toNat)) := by
    by_cases hz : p % q = 0
    · rw [hz]
      simp only [bne_self_eq_false, Bool.toNat_false, Nat.add_zero, Nat.zero_add]
      rw [show q * (2 * G) = q * 2 * G by rw [Nat.mul_assoc], show 2 * (q * r) = q * 2 * r by rw [← Nat.mul_assoc, Nat.mul_comm 2 q]]
      constructor
      · intro h
        have := Nat.lt_of_mul_lt_mul_left h
        omega
      · intro h
        exact Nat.mul_lt_mul_of_pos_left (by omega) (by omega)
    · rw [show (p % q != 0) = true by simpa using hz]
      simp only [Bool.toNat_true]
      constructor
      · intro h
        have h5 : q * (2 * G) < q * (2 * (r + 1)) := by
          have : q * (2 * (r + 1)) = 2 * (q + q * r) := by rw [← Nat.mul_assoc, Nat.mul_comm q 2, Nat.mul_assoc, Nat.mul_add, Nat.mul_one, Nat.add_comm q]
          omega
        have := Nat.lt_of_mul_lt_mul_left h5
        omega
      · intro h
        have h5 : q * (2 * G) ≤ q * (2 * r) := Nat.mul_le_mul_left _ (by omega)
        have : q * (2 * r) = 2 * (q * r) := by rw [← Nat.mul_assoc, Nat.mul_comm q 2, Nat.mul_assoc]
        omega
  have k2 : (q * (2 * G) = 2 * (p % q + q * r)) ↔ (2 * (2 * G) = 2 * (2 * r + (p % q != 0).toNat)) := by
    by_cases hz : p % q = 0
    · rw [hz]
      simp only [bne_self_eq_false, Bool.toNat_false, Nat.add_zero, Nat.zero_add]
      rw [show q * (2 * G) = q * 2 * G by rw [Nat.mul_assoc], show 2 * (q * r) = q * 2 * r by rw [← Nat.mul_assoc, Nat.mul_comm 2 q]]
      constructor
      · intro h
        have := Nat.eq_of_mul_eq_mul_left (by omega) h
        omega
      · intro h
        have : G = r := by omega
        rw [this]
    · rw [show (p % q != 0) = true by simpa using hz]
      simp only [Bool.toNat_true]
      constructor
      · intro h
        exfalso
        have h5 : q * G = p % q + q * r := by
          have : q * (2 * G) = 2 * (q * G) := by rw [← Nat.mul_assoc, Nat.mul_comm q 2, Nat.mul_assoc]
          omega
        have h6 : (p % q + q * r) % q = p % q := by rw [Nat.add_mul_mod_self_left, Nat.mod_mod]
        rw [← h5, Nat.mul_mod_right] at h6
        omega
      · intro h
        omega
  have k3 : (q * (2 * G) == 2 * (p % q + q * r)) = (2 * (2 * G) == 2 * (2 * r + (p % q != 0).toNat)) := by rw [Bool.eq_iff_iff]; simpa using k2
  rw [k3]
  congr 1
  exact decide_eq_decide.2 k1
/-- Enough digits and one that stands for all the others are rounded as the whole. -/
theorem rung_stick (a b x y : Nat) (hb : 0 < b) (hA : 9007199254740992 ≤ a / b) : rung (a * 2 ^ (x + 1)) (b * 2 ^ y) = rung (stick a b * 2 ^ x) (2 ^ y) := by
  have hx : 0 < 2 ^ x := Nat.two_pow_pos x
  have hA0 : a / b ≠ 0 := by omega
  have hl53 : 53 ≤ (a / b).log2 := (Nat.le_log2 hA0).2 (by simpa using hA)
  have hs : (a % b != 0).toNat ≤ 1 := by cases (a % b != 0) <;> simp
  have hN0 : stick a b ≠ 0 := by unfold stick; omega
  have p1 := Nat.log2_self_le hA0
  have p2 : a / b < 2 ^ ((a / b).log2 + 1) := Nat.lt_log2_self
  have hNl : (stick a b).log2 = (a / b).log2 + 1 := by
    refine log2_between ?_ ?_
    · rw [Nat.pow_succ]; unfold stick; omega
    · rw [Nat.pow_succ]; unfold stick; omega
  have hBl : (a * 2 ^ (x + 1) / b).log2 = (a / b).log2 + (x + 1) := by
    have hd := Nat.div_add_mod a b
    have hr := Nat.mod_lt a hb
    refine log2_between ?_ ?_
    · rw [Nat.le_div_iff_mul_le hb, Nat.pow_add]
      have : 2 ^ (a / b).log2 * b ≤ a := by
        refine Nat.le_trans (Nat.mul_le_mul_right b p1) ?_
        exact Nat.div_mul_le_self a b
      rw [Nat.mul_right_comm]
      exact Nat.mul_le_mul_right _ this
    · rw [Nat.div_lt_iff_lt_mul hb, show (a / b).log2 + (x + 1) + 1 = ((a / b).log2 + 1) + (x + 1) by omega, Nat.pow_add 2 ((a / b).log2 + 1) (x + 1), Nat.mul_right_comm]
      refine Nat.mul_lt_mul_of_pos_right ?_ (Nat.two_pow_pos _)
      exact (Nat.div_lt_iff_lt_mul hb).1 p2
  have f1 : (a * 2 ^ (x + 1) / (b * 2 ^ y)).log2 - 52 = (a / b).log2 + (x + 1) - y - 52 := by
    rw [← Nat.div_div_eq_div_mul, log2_div_pow, hBl]
  have f2 : (stick a b * 2 ^ x / 2 ^ y).log2 - 52 = (a / b).log2 + (x + 1) - y - 52 := by
    rw [log2_div_pow, log2_mul_pow hN0, hNl]; omega
  unfold rung
  rw [f1, f2]
  generalize he : (a / b).log2 + (x + 1) - y - 52 = e
  congr 2
  obtain ⟨g, hg⟩ : ∃ g, y + e = g + 1 + (x + 1) := ⟨y + e - (x + 2), by omega⟩
  rw [Nat.mul_assoc, ← Nat.pow_add, hg, Nat.pow_add 2 (g + 1) (x + 1), ← Nat.mul_assoc, rhe_scale _ _ (Nat.two_pow_pos _), rhe_stick _ _ _ hb, show 2 ^ (g + 1) * 2 ^ (x + 1) = 2 ^ (g + 2) * 2 ^ x by rw [← Nat.pow_add, ← Nat.pow_add]; congr 1; omega, rhe_scale _ _ hx]
theorem rung_le (p q : Nat) : rung p q ≤ 9218868437227405312 := Nat.min_le_right _ _
theorem rung_not_nan (s : Bool) (p q : Nat) : isNan (D.word s (rung p q)) = false := word_not_nan s (rung_le p q)
/-- A float with just this value. -/
structure Is (a : Nat) (V : Int) : Prop where
  lt : a < 18446744073709551616
  fin : a % 9223372036854775808 < 9218868437227405312
  val : val (D.read a) = V
/-- A number, told in units of the least float, that a float has. -/
def Fits (n : Nat) : Prop := ∃ m u, n = m * 2 ^ u ∧ m < 9007199254740992 ∧ u ≤ 2045
theorem Is.nan {a : Nat} {V : Int} (h : Is a V) : isNan a = false := by have := h.fin; simp [isNan]; omega
theorem rung_fits_eq {m u : Nat} (h1 : m < 9007199254740992) (h2 : 4503599627370496 ≤ m ∨ u = 0) (h3 : u ≤ 2045) : rung (m * 2 ^ u) 1 = u * 4503599627370496 + m := by
  unfold rung
  have hl : (m * 2 ^ u / 1).log2 - 52 = u := by
    rw [Nat.div_one]
    by_cases h0 : m = 0
    · have : u = 0 := by omega
      subst h0 this; decide
    · rw [log2_mul_pow h0]
      have := (Nat.log2_lt h0).2 (show m < 2 ^ 53 by simpa using h1)
      rcases h2 with h2 | h2
      · have := (Nat.le_log2 h0).2 (show 2 ^ 52 ≤ m by simpa using h2)
        omega
      · omega
  rw [hl, Nat.one_mul, rhe_cut]
  have := cutS_scale m 0 u
  rw [Nat.zero_add] at this
  rw [this, cutS_zero]
  refine Nat.min_eq_left ?_
  omega
theorem read_word (s : Bool) {m u : Nat} (h1 : m < 9007199254740992) (h2 : 4503599627370496 ≤ m ∨ u = 0) (h3 : u ≤ 2045) : D.read (D.word s (u * 4503599627370496 + m)) = .number s m (u - 1074) := by
  obtain ⟨w1, w2, w3⟩ := word_mod s (r := u * 4503599627370496 + m) (by omega)
  rw [read_eq, w1, w2]
  by_cases h4 : u * 4503599627370496 + m < 4503599627370496
  · have : u = 0 := by omega
    subst this
    rw [if_pos h4]
    simp
  · have h5 : 4503599627370496 ≤ m := by rcases h2 with h2 | h2 <;> omega
    rw [if_neg h4, if_pos (by omega)]
    have e1 : (u * 4503599627370496 + m) / 4503599627370496 = u + 1 := by omega
    have e2 : (u * 4503599627370496 + m) % 4503599627370496 = m - 4503599627370496 := by omega
    have e3 : 4503599627370496 + (m - 4503599627370496) = m := by omega
    have e4 : (-1074 : Int) + ((u + 1 - 1 : Nat) : Int) = (u : Int) - 1074 := by omega
    rw [e1, e2, e3, e4]
theorem full_of {m u : Nat} (h1 : m < 9007199254740992) (h3 : u ≤ 2045) : ∃ M U, M * 2 ^ U = m * 2 ^ u ∧ M < 9007199254740992 ∧ (4503599627370496 ≤ M ∨ U = 0) ∧ U ≤ 2045 := by
  by_cases h0 : m = 0
  · exact ⟨0, 0, by simp [h0], by omega, .inr rfl, by omega⟩
  have hl := (Nat.log2_lt h0).2 (show m < 2 ^ 53 by simpa using h1)
  have p1 := Nat.log2_self_le h0
  have p2 : m < 2 ^ (m.log2 + 1) := Nat.lt_log2_self
  rcases Nat.lt_or_ge u (52 - m.log2) with h | h
  · refine ⟨m * 2 ^ u, 0, by simp, ?_, .inr rfl, by omega⟩
    have : m * 2 ^ u < 2 ^ (m.log2 + 1) * 2 ^ u := Nat.mul_lt_mul_of_pos_right p2 (Nat.two_pow_pos u)
    rw [← Nat.pow_add] at this
    have h4 : 2 ^ (m.log2 + 1 + u) ≤ 2 ^ 53 := Nat.pow_le_pow_right (by omega) (by omega)
    have h5 : (2 : Nat) ^ 53 = 9007199254740992 := by decide
    omega
  · obtain ⟨k, hk⟩ : ∃ k, m.log2 + k = 52 := ⟨52 - m.log2, by omega⟩
    refine ⟨m * 2 ^ k, u - k, ?_, ?_, .inl ?_, by omega⟩
    · rw [Nat.mul_assoc, ← Nat.pow_add]; congr 2; omega
    · have : m * 2 ^ k < 2 ^ (m.log2 + 1) * 2 ^ k := Nat.mul_lt_mul_of_pos_right p2 (Nat.two_pow_pos k)
      rw [← Nat.pow_add, show m.log2 + 1 + k = 53 by omega] at this
      simpa using this
    · have : 2 ^ m.log2 * 2 ^ k ≤ m * 2 ^ k := Nat.mul_le_mul_right _ p1
      rw [← Nat.pow_add, hk] at this
      simpa using this
/-- A number that fits is rounded to itself. -/
theorem is_rung (s : Bool) {n p q : Nat} (hq : 0 < q) (hp : p = n * q) (h : Fits n) : Is (D.word s (rung p q)) (if s then -(n : Int) else n) := by
  obtain ⟨m, u, rfl, h1, h2⟩ := h
  obtain ⟨M, U, e, k1, k2, k3⟩ := full_of h1 h2
  have hr : rung p q = U * 4503599627370496 + M := by
    rw [hp, ← e]
    have := rung_scale (M * 2 ^ U) 1 hq
    rw [Nat.one_mul] at this
    rw [this]
    exact rung_fits_eq k1 k2 k3
  rw [hr]
  obtain ⟨w1, w2, w3⟩ := word_mod s (r := U * 4503599627370496 + M) (by omega)
  refine ⟨w3, by rw [w1]; omega, ?_⟩
  rw [read_word s k1 k2 k3]
  simp only [val, signed]
  rw [show ((U : Int) - 1074 + 1074).toNat = U by omega, Nat.shiftLeft_eq, e]
end Go.Proofs.YtgdohmaljbggjaaGreatDoor.Fl
namespace Go.Proofs.YtgdohmaljbggjaaGreatDoor.Fl
open Ieee
theorem some_E74 : ∃ n : Nat, n = 1074 := ⟨_, rfl⟩
/-- 1074, told so that nobody reckons the power. -/
noncomputable def E74 : Nat := Classical.choose some_E74
theorem E74_is : E74 = 1074 := Classical.choose_spec some_E74
/-- The sign's bit. -/
def sg (a : Nat) : Bool := a / 9223372036854775808 % 2 == 1
/-- The number, told in units of the least float. -/
def V (a : Nat) : Int := val (D.read a)
theorem signed_is (s : Bool) (m u : Nat) : signed s m u = if s then -((m * 2 ^ u : Nat) : Int) else ((m * 2 ^ u : Nat) : Int) := by
  unfold signed; rw [Nat.shiftLeft_eq]
theorem signed_abs (s : Bool) (m u : Nat) : (signed s m u).natAbs = m * 2 ^ u := by
  rw [signed_is]; split <;> omega
theorem fin_read {a : Nat} (h : a % 9223372036854775808 < 9218868437227405312) :
    ∃ m i, D.read a = .number (sg a) m i ∧ m < 9007199254740992 ∧ -1074 ≤ i ∧ i ≤ 971 ∧ V a = signed (sg a) m (i + 1074).toNat ∧ (V a).natAbs = m * 2 ^ (i + 1074).toNat := by
  have hg := good_read (a := a) (by simp [isNan]; omega)
  have hr := read_eq a
  by_cases h1 : a % 9223372036854775808 < 4503599627370496
  · rw [if_pos h1] at hr
    refine ⟨_, _, hr, by omega, by omega, by omega, ?_, ?_⟩
    · unfold V; rw [hr]; rfl
    · unfold V; rw [hr]; exact signed_abs _ _ _
  · rw [if_neg h1, if_pos h] at hr
    rw [hr] at hg
    obtain ⟨g1, g2, g3⟩ := hg
    refine ⟨_, _, hr, g3, g1, g2, ?_, ?_⟩
    · unfold V; rw [hr]; rfl
    · unfold V; rw [hr]; exact signed_abs _ _ _
theorem V_sign {a : Nat} (h : a % 9223372036854775808 < 9218868437227405312) : V a = if sg a then -((V a).natAbs : Int) else (V a).natAbs := by
  obtain ⟨m, i, _, _, _, _, hv, ha⟩ := fin_read h
  rw [ha, ← signed_is, hv]
theorem word_sg (s : Bool) {r : Nat} (h : r < 9223372036854775808) : sg (D.word s r) = s := (word_mod s h).2.1
theorem rung_pow (m q : Nat) {x y x' y' : Nat} (h : x + y' = x' + y) : rung (m * 2 ^ x) (q * 2 ^ y) = rung (m * 2 ^ x') (q * 2 ^ y') := by
  rw [← rung_scale (m * 2 ^ x) (q * 2 ^ y) (Nat.two_pow_pos y'), ← rung_scale (m * 2 ^ x') (q * 2 ^ y') (Nat.two_pow_pos y)]
  rw [Nat.mul_assoc, Nat.mul_assoc, Nat.mul_assoc, Nat.mul_assoc, ← Nat.pow_add, ← Nat.pow_add, ← Nat.pow_add, ← Nat.pow_add, h, Nat.add_comm y y']
theorem some_word {s : Bool} {r r' : Nat} (h : r = r') : some (D.word s r) = some (D.word s r') := by rw [h]
theorem sum_num {s t : Bool} {m n : Nat} {i j : Int} (hi : -1074 ≤ i) (hj : -1074 ≤ j) :
    ∃ r b, Datum.sum (.number s m i) (.number t n j) = some (.number r b (min i j)) ∧ D.nearest r b (min i j) = D.word (if signed s m (i + 1074).toNat + signed t n (j + 1074).toNat = 0 then s && t else decide (signed s m (i + 1074).toNat + signed t n (j + 1074).toNat < 0)) (rung (signed s m (i + 1074).toNat + signed t n (j + 1074).toNat).natAbs 1) := by
  refine ⟨_, _, rfl, ?_⟩
  obtain ⟨k, hk⟩ : ∃ k : Nat, min i j = (k : Int) - 1074 := ⟨(min i j + 1074).toNat, by omega⟩
  have e1 : signed s m (i + 1074).toNat = signed s m (i - min i j).toNat * (2 ^ k : Nat) := by rw [signed_mul]; congr 1; omega
  have e2 : signed t n (j + 1074).toNat = signed t n (j - min i j).toNat * (2 ^ k : Nat) := by rw [signed_mul]; congr 1; omega
  rw [e1, e2, ← Int.add_mul]
  generalize signed s m (i - min i j).toNat + signed t n (j - min i j).toNat = T
  have hp : (0 : Int) < (2 ^ k : Nat) := by have := Nat.two_pow_pos k; omega
  have c1 : (T * (2 ^ k : Nat) = 0) ↔ T = 0 := by
    constructor
    · intro h; rcases Int.mul_eq_zero.1 h with h | h <;> omega
    · intro h; rw [h, Int.zero_mul]
  have c2 : (T * (2 ^ k : Nat) < 0) ↔ T < 0 := by
    constructor
    · intro h
      rcases Int.lt_or_le T 0 with h1 | h1
      · exact h1
      · have := Int.mul_nonneg h1 (Int.le_of_lt hp); omega
    · intro h; exact Int.mul_neg_of_neg_of_pos h hp
  rw [nearest_rung, Int.natAbs_mul, hk]
  simp only [c1, c2]
  rw [show ((k : Int) - 1074 + 1074).toNat = k by omega, show (-((k : Int) - 1074 + 1074)).toNat = 0 by omega, Nat.pow_zero, Int.natAbs_natCast]
theorem fadd_rung {a b : Nat} (ha : a % 9223372036854775808 < 9218868437227405312) (hb : b % 9223372036854775808 < 9218868437227405312) :
    D.add a b = some (D.word (if V a + V b = 0 then sg a && sg b else decide (V a + V b < 0)) (rung (V a + V b).natAbs 1)) := by
  obtain ⟨m, i, hr, _, hi, _, hv, _⟩ := fin_read ha
  obtain ⟨n, j, hr', _, hj, _, hv', _⟩ := fin_read hb
  obtain ⟨r, B, h1, h2⟩ := sum_num (s := sg a) (t := sg b) (m := m) (n := n) hi hj
  unfold Format.add
  rw [hr, hr', h1, hv, hv', ← h2]
  rfl
theorem fsub_rung {a b : Nat} (ha : a % 9223372036854775808 < 9218868437227405312) (hb : b % 9223372036854775808 < 9218868437227405312) :
    D.sub a b = some (D.word (if V a - V b = 0 then sg a && !sg b else decide (V a - V b < 0)) (rung (V a - V b).natAbs 1)) := by
  obtain ⟨m, i, hr, _, hi, _, hv, _⟩ := fin_read ha
  obtain ⟨n, j, hr', _, hj, _, hv', _⟩ := fin_read hb
  obtain ⟨r, B, h1, h2⟩ := sum_num (s := sg a) (t := !sg b) (m := m) (n := n) hi hj
  unfold Format.sub
  rw [hr, hr']
  simp only [Datum.opposite]
  rw [h1, hv, hv', Int.sub_eq_add_neg, ← signed_opp, ← h2]
  rfl
theorem fmul_rung {a b : Nat} (ha : a % 9223372036854775808 < 9218868437227405312) (hb : b % 9223372036854775808 < 9218868437227405312) :
    D.mul a b = some (D.word (sg a ^^ sg b) (rung ((V a).natAbs * (V b).natAbs) (2 ^ E74))) := by
  obtain ⟨m, i, hr, _, hi, _, hv, hA⟩ := fin_read ha
  obtain ⟨n, j, hr', _, hj, _, hv', hA'⟩ := fin_read hb
  unfold Format.mul
  rw [hr, hr', hA, hA']
  simp only [Datum.product, Option.map_some, Format.write]
  rw [nearest_rung]
  refine some_word ?_
  have e1 : m * 2 ^ (i + 1074).toNat * (n * 2 ^ (j + 1074).toNat) = m * n * 2 ^ ((i + 1074).toNat + (j + 1074).toNat) := by
    rw [Nat.pow_add]; ac_rfl
  have hE := E74_is
  rw [e1, ← Nat.one_mul (2 ^ (-(i + j + 1074)).toNat), ← Nat.one_mul (2 ^ E74)]
  exact rung_pow _ _ (by omega)
theorem stick_zero (q : Nat) : stick 0 q = 0 := by unfold stick; simp
theorem rung_zero (q : Nat) : rung 0 q = 0 := by unfold rung rhe; simp
theorem fdiv_rung {a b : Nat} (ha : a % 9223372036854775808 < 9218868437227405312) (hb : b % 9223372036854775808 < 9218868437227405312) (h0 : V b ≠ 0) :
    D.div a b = some (D.word (sg a ^^ sg b) (rung ((V a).natAbs * 2 ^ E74) (V b).natAbs)) := by
  obtain ⟨m, i, hr, hm, hi, _, hv, hA⟩ := fin_read ha
  obtain ⟨n, j, hr', hn, hj, _, hv', hA'⟩ := fin_read hb
  have hn0 : n ≠ 0 := by
    intro h; subst h; apply h0; rw [hv', signed_is]; simp
  unfold Format.div
  rw [hr, hr', hA, hA']
  simp only [Datum.quotient, if_neg hn0, Option.map_some, Format.write]
  have hstick : 2 * (m <<< (D.fractionBits + 2 + n.log2 - m.log2) / n) + (m <<< (D.fractionBits + 2 + n.log2 - m.log2) % n != 0).toNat = stick (m * 2 ^ (54 + n.log2 - m.log2)) n := by
    unfold stick; rw [Nat.shiftLeft_eq]; rfl
  rw [hstick, show D.fractionBits + 2 + n.log2 - m.log2 = 54 + n.log2 - m.log2 from rfl, nearest_rung]
  refine some_word ?_
  by_cases hm0 : m = 0
  · subst hm0
    simp only [Nat.zero_mul, stick_zero, rung_zero]
  have hl := (Nat.log2_lt hm0).2 (show m < 2 ^ 53 by simpa using hm)
  obtain ⟨k, hk⟩ : ∃ k, 54 + n.log2 - m.log2 = k := ⟨_, rfl⟩
  rw [hk]
  have hk2 : m.log2 + k = 54 + n.log2 := by omega
  have p1 := Nat.log2_self_le hm0
  have p2 : n < 2 ^ (n.log2 + 1) := Nat.lt_log2_self
  have hbig : 9007199254740992 ≤ m * 2 ^ k / n := by
    rw [Nat.le_div_iff_mul_le (by omega)]
    have q1 : 2 ^ m.log2 * 2 ^ k ≤ m * 2 ^ k := Nat.mul_le_mul_right _ p1
    rw [← Nat.pow_add, hk2, show 54 + n.log2 = 53 + (n.log2 + 1) by omega, Nat.pow_add] at q1
    have q2 : 2 ^ 53 * n ≤ 2 ^ 53 * 2 ^ (n.log2 + 1) := Nat.mul_le_mul_left _ (by omega)
    have q3 : (2 : Nat) ^ 53 = 9007199254740992 := by decide
    rw [q3] at q1 q2
    exact Nat.le_trans q2 q1
  obtain ⟨x, y, hxy⟩ : ∃ x y : Nat, (x : Int) - y = i - j - k - 1 + 1074 := ⟨(i - j - k - 1 + 1074).toNat, (-(i - j - k - 1 + 1074)).toNat, by omega⟩
  have e1 : rung (stick (m * 2 ^ k) n * 2 ^ (i - j - k - 1 + 1074).toNat) (2 ^ (-(i - j - k - 1 + 1074)).toNat) = rung (stick (m * 2 ^ k) n * 2 ^ x) (2 ^ y) := by
    rw [← Nat.one_mul (2 ^ (-(i - j - k - 1 + 1074)).toNat), ← Nat.one_mul (2 ^ y)]
    exact rung_pow _ _ (by omega)
  have hE := E74_is
  rw [e1, ← rung_stick _ _ _ _ (by omega) hbig, Nat.mul_assoc, Nat.mul_assoc, ← Nat.pow_add, ← Nat.pow_add]
  exact rung_pow _ _ (by omega)
theorem told_word (s : Bool) (p q : Nat) : told (D.word s (rung p q)) = D.word s (rung p q) := by unfold told; rw [rung_not_nan, if_neg (by decide)]
theorem is_V {a : Nat} {x : Int} (h : Is a x) : V a = x := h.val
theorem Is.of_eq {a : Nat} {x y : Int} (h : Is a x) (e : x = y) : Is a y := e ▸ h
theorem is_add {a b : Nat} {x y : Int} (ha : Is a x) (hb : Is b y) (h : Fits (x + y).natAbs) : Is (fadd a b) (x + y) := by
  unfold fadd
  rw [fadd_rung ha.fin hb.fin, is_V ha, is_V hb]
  show Is (D.word _ _) _
  refine (is_rung _ (by omega) (Nat.mul_one _).symm h).of_eq ?_
  by_cases h0 : x + y = 0
  · rw [h0]; simp
  · rw [if_neg h0]
    by_cases h1 : x + y < 0
    · rw [decide_eq_true h1, if_pos rfl]; omega
    · rw [decide_eq_false h1, if_neg (by simp)]; omega
theorem sign_mul {a b : Nat} {x y : Int} (ha : Is a x) (hb : Is b y) : x * y = if sg a ^^ sg b then -((x.natAbs * y.natAbs : Nat) : Int) else ((x.natAbs * y.natAbs : Nat) : Int) := by
  have h1 := V_sign ha.fin
  have h2 := V_sign hb.fin
  rw [is_V ha] at h1
  rw [is_V hb] at h2
  generalize x.natAbs = p at *
  generalize y.natAbs = q at *
  rw [h1, h2]
  push_cast
  cases sg a <;> cases sg b <;> simp [Int.neg_mul, Int.mul_neg]
theorem is_mul {a b : Nat} {x y z : Int} (ha : Is a x) (hb : Is b y) (hz : x * y = z * 2 ^ E74) (h : Fits z.natAbs) : Is (fmul a b) z := by
  unfold fmul
  rw [fmul_rung ha.fin hb.fin, is_V ha, is_V hb]
  show Is (D.word _ _) _
  have hs := sign_mul ha hb
  have hab : x.natAbs * y.natAbs = z.natAbs * 2 ^ E74 := by
    have := congrArg Int.natAbs hz
    rw [Int.natAbs_mul, Int.natAbs_mul, Int.natAbs_pow] at this
    exact this
  refine (is_rung _ (Nat.two_pow_pos _) hab h).of_eq ?_
  rw [hz, hab] at hs
  have hp : (0 : Int) < 2 ^ E74 := Int.pow_pos (by decide)
  have hc : ((z.natAbs * 2 ^ E74 : Nat) : Int) = (z.natAbs : Int) * 2 ^ E74 := by push_cast; rfl
  rw [hc] at hs
  generalize (2 : Int) ^ E74 = P at *
  by_cases hx : (sg a ^^ sg b) = true
  · rw [if_pos hx] at hs ⊢
    rw [← Int.neg_mul] at hs
    exact (Int.eq_of_mul_eq_mul_right (by omega) hs).symm
  · rw [if_neg hx] at hs ⊢
    exact (Int.eq_of_mul_eq_mul_right (by omega) hs).symm
theorem is_div {a b : Nat} {x y z : Int} (ha : Is a x) (hb : Is b y) (hy : y ≠ 0) (hz : x * 2 ^ E74 = z * y) (h : Fits z.natAbs) : Is (fdiv a b) z := by
  unfold fdiv
  rw [fdiv_rung ha.fin hb.fin (by rw [is_V hb]; exact hy), is_V ha, is_V hb]
  show Is (D.word _ _) _
  have hs := sign_mul ha hb
  have hab : x.natAbs * 2 ^ E74 = z.natAbs * y.natAbs := by
    have := congrArg Int.natAbs hz
    rw [Int.natAbs_mul, Int.natAbs_mul, Int.natAbs_pow] at this
    exact this
  refine (is_rung _ (by omega) hab h).of_eq ?_
  have hp : (0 : Int) < 2 ^ E74 := Int.pow_pos (by decide)
  generalize (2 : Int) ^ E74 = P at *
  have h1 : x * y * P = z * (y * y) := by
    rw [Int.mul_right_comm, hz, Int.mul_assoc]
  have hyy : 0 < y * y := by
    rcases Int.lt_or_gt_of_ne hy with hl | hg
    · exact Int.mul_pos_of_neg_of_neg hl hl
    · exact Int.mul_pos hg hg
  by_cases hx : (sg a ^^ sg b) = true
  · rw [if_pos hx] at hs ⊢
    have h2 : x * y ≤ 0 := by rw [hs]; omega
    have h3 : z * (y * y) ≤ 0 := by
      rw [← h1]
      have := Int.mul_le_mul_of_nonneg_right h2 (Int.le_of_lt hp)
      rwa [Int.zero_mul] at this
    have h4 : z ≤ 0 := by
      rcases Int.lt_or_le 0 z with h5 | h5
      · have := Int.mul_pos h5 hyy; omega
      · exact h5
    omega
  · rw [if_neg hx] at hs ⊢
    have h2 : 0 ≤ x * y := by rw [hs]; omega
    have h3 : 0 ≤ z * (y * y) := by rw [← h1]; exact Int.mul_nonneg h2 (Int.le_of_lt hp)
    have h4 : 0 ≤ z := by
      rcases Int.lt_or_le z 0 with h5 | h5
      · have := Int.mul_neg_of_neg_of_pos h5 hyy; omega
      · exact h5
    omega
theorem is_neg {a : Nat} {x : Int} (ha : Is a x) : Is (fneg a) (-x) := by
  have hn := ha.nan
  obtain ⟨h1, h2, h3⟩ := xor_mod ha.lt
  have e : fneg a = a ^^^ 9223372036854775808 := by unfold fneg told; rw [isNan_xor ha.lt, hn]; rfl
  refine ⟨by rw [e]; exact h3, by rw [e, h1]; exact ha.fin, ?_⟩
  rw [(fneg_key ha.lt hn).2, ha.val]
theorem is_cmp {a b : Nat} {x y : Int} (ha : Is a x) (hb : Is b y) : fcmp a b = (ordInt (compare x y), true) := by
  rw [fcmp_key ha.nan hb.nan, ha.val, hb.val]
/-- An integer as a float. -/
def fint (n : Int) : Nat := D.nearest (decide (n < 0)) n.natAbs 0
theorem fint_rung (n : Int) : fint n = D.word (decide (n < 0)) (rung (n.natAbs * 2 ^ E74) 1) := by
  unfold fint
  have hE := E74_is
  rw [nearest_rung, show ((0 : Int) + 1074).toNat = E74 by omega, show (-((0 : Int) + 1074)).toNat = 0 by omega, Nat.pow_zero]
theorem is_int {n : Int} (h : n.natAbs < 9007199254740992) : Is (fint n) (n * 2 ^ E74) := by
  have hE := E74_is
  rw [fint_rung]
  refine (is_rung _ (n := n.natAbs * 2 ^ E74) (by omega) (Nat.mul_one _).symm ⟨_, _, rfl, h, by omega⟩).of_eq ?_
  push_cast
  generalize (2 : Int) ^ E74 = P
  by_cases h1 : n < 0
  · rw [decide_eq_true h1, if_pos rfl, ← Int.neg_mul]; congr 1; omega
  · rw [decide_eq_false h1, if_neg (by simp)]; congr 1; omega
theorem fits_int {n : Int} (h : n.natAbs < 9007199254740992) : Fits (n * 2 ^ E74).natAbs := by
  have hE := E74_is
  rw [Int.natAbs_mul, Int.natAbs_pow]
  exact ⟨_, _, rfl, h, by omega⟩
/-- A number scaled where it fits. -/
theorem is_scale {a : Nat} {x : Int} {y : Int} {k : Int} (ha : Is a x) (hk : -3000 ≤ k ∧ k ≤ 3000) (h : x * 2 ^ k.toNat = y * 2 ^ (-k).toNat) (hf : Fits y.natAbs) : Is (fscale a k) y := by
  obtain ⟨m, i, hr, _, hi, _, hv, hA⟩ := fin_read ha.fin
  rw [fscale_eq _ ha.nan, show clamp k = k by unfold clamp; omega, hr]
  show Is (D.nearest (sg a) m (i + k)) y
  rw [nearest_rung]
  have hs := V_sign ha.fin
  rw [is_V ha] at hA hs
  have hab : x.natAbs * 2 ^ k.toNat = y.natAbs * 2 ^ (-k).toNat := by
    have := congrArg Int.natAbs h
    rw [Int.natAbs_mul, Int.natAbs_mul, Int.natAbs_pow, Int.natAbs_pow] at this
    exact this
  have e1 : rung (m * 2 ^ (i + k + 1074).toNat) (2 ^ (-(i + k + 1074)).toNat) = rung (x.natAbs * 2 ^ k.toNat) (2 ^ (-k).toNat) := by
    rw [hA, Nat.mul_assoc, ← Nat.pow_add, ← Nat.one_mul (2 ^ (-(i + k + 1074)).toNat), ← Nat.one_mul (2 ^ (-k).toNat)]
    exact rung_pow _ _ (by omega)
  rw [e1]
  refine (is_rung _ (Nat.two_pow_pos _) hab hf).of_eq ?_
  have p1 : (0 : Int) < 2 ^ k.toNat := Int.pow_pos (by decide)
  have p2 : (0 : Int) < 2 ^ (-k).toNat := Int.pow_pos (by decide)
  generalize (2 : Int) ^ k.toNat = P at *
  generalize (2 : Int) ^ (-k).toNat = Q at *
  cases hsg : sg a
  · rw [hsg, if_neg (by simp)] at hs
    rw [if_neg (by simp)]
    have h2 : 0 ≤ y * Q := by rw [← h]; exact Int.mul_nonneg (by omega) (Int.le_of_lt p1)
    have h4 : 0 ≤ y := by
      rcases Int.lt_or_le y 0 with h5 | h5
      · have := Int.mul_neg_of_neg_of_pos h5 p2; omega
      · exact h5
    omega
  · rw [hsg, if_pos rfl] at hs
    rw [if_pos rfl]
    have h2 : y * Q ≤ 0 := by
      rw [← h]
      have := Int.mul_le_mul_of_nonneg_right (show x ≤ 0 by omega) (Int.le_of_lt p1)
      rwa [Int.zero_mul] at this
    have h4 : y ≤ 0 := by
      rcases Int.lt_or_le 0 y with h5 | h5
      · have := Int.mul_pos h5 p2; omega
      · exact h5
    omega
end Go.Proofs.YtgdohmaljbggjaaGreatDoor.Fl
namespace Go.Proofs.YtgdohmaljbggjaaGreatDoor.Fl
open Ieee
theorem rootFrom_is (n : Nat) : ∀ (todo root : Nat), root * root ≤ n → n < (root + 2 ^ todo) * (root + 2 ^ todo) →
    Datum.rootFrom n todo root * Datum.rootFrom n todo root ≤ n ∧ n < (Datum.rootFrom n todo root + 1) * (Datum.rootFrom n todo root + 1)
  | 0, root, h1, h2 => by simpa [Datum.rootFrom] using ⟨h1, h2⟩
  | todo + 1, root, h1, h2 => by
    unfold Datum.rootFrom
    simp only [Nat.shiftLeft_eq, Nat.one_mul]
    by_cases h : (root + 2 ^ todo) * (root + 2 ^ todo) ≤ n
    · rw [if_pos h]
      refine rootFrom_is n todo _ h ?_
      rw [Nat.add_assoc, show 2 ^ todo + 2 ^ todo = 2 ^ (todo + 1) by rw [Nat.pow_succ]; omega]
      exact h2
    · rw [if_neg h]
      exact rootFrom_is n todo _ h1 (by omega)
theorem root_is (n : Nat) : ∃ r, Datum.rootFrom n (n.log2 / 2 + 1) 0 = r ∧ r * r ≤ n ∧ n < (r + 1) * (r + 1) := by
  refine ⟨_, rfl, rootFrom_is n _ 0 (by omega) ?_⟩
  rw [Nat.zero_add, ← Nat.pow_add]
  have h1 : n < 2 ^ (n.log2 + 1) := Nat.lt_log2_self
  exact Nat.lt_of_lt_of_le h1 (Nat.pow_le_pow_right (by omega) (by omega))
theorem root_unique {n r z : Nat} (h1 : r * r ≤ n) (h2 : n < (r + 1) * (r + 1)) (h3 : z * z ≤ n) (h4 : n < (z + 1) * (z + 1)) : r = z := by
  rcases Nat.lt_trichotomy r z with h | h | h
  · have := Nat.mul_le_mul (show r + 1 ≤ z by omega) (show r + 1 ≤ z by omega); omega
  · exact h
  · have := Nat.mul_le_mul (show z + 1 ≤ r by omega) (show z + 1 ≤ r by omega); omega
theorem sq_div : ∀ (K y n : Nat), y * y = n * 4 ^ K → ∃ z, y = z * 2 ^ K ∧ z * z = n
  | 0, y, n, h => ⟨y, by simp, by simpa using h⟩
  | K + 1, y, n, h => by
    have he : y % 2 = 0 := by
      have h1 : (y * y) % 2 = 0 := by rw [h, Nat.pow_succ, ← Nat.mul_assoc]; omega
      rw [Nat.mul_mod] at h1
      rcases Nat.mod_two_eq_zero_or_one y with h2 | h2
      · exact h2
      · rw [h2] at h1; omega
    obtain ⟨x, hx⟩ : ∃ x, y = 2 * x := ⟨y / 2, by omega⟩
    subst hx
    have h3 : x * x = n * 4 ^ K := by
      rw [Nat.pow_succ] at h
      have : 2 * x * (2 * x) = 4 * (x * x) := by rw [Nat.mul_mul_mul_comm]
      rw [this, ← Nat.mul_assoc n] at h
      omega
    obtain ⟨z, h4, h5⟩ := sq_div K x n h3
    exact ⟨z, by rw [h4, Nat.pow_succ]; ac_rfl, h5⟩
/-- What the root of a number above nought is made of. -/
theorem sqrt_form {a : Nat} (ha : a % 9223372036854775808 < 9218868437227405312) (hp : 0 < V a) :
    ∃ n w K : Nat, (V a).natAbs * 2 ^ E74 = n * 4 ^ K ∧ 1 ≤ K ∧ w * w ≤ n ∧ n < (w + 1) * (w + 1) ∧ 2 ^ 107 ≤ n ∧ D.sqrt a = some (D.word false (rung ((2 * w + (w * w != n).toNat) * 2 ^ (K - 1)) 1)) := by
  obtain ⟨m, i, hr, hm, hi, hi2, hv, hA⟩ := fin_read ha
  have hE := E74_is
  have hs := V_sign ha
  have hm0 : m ≠ 0 := by
    intro h; subst h; rw [Nat.zero_mul] at hA; omega
  have hsg : sg a = false := by
    cases h : sg a
    · rfl
    · rw [h, if_pos rfl] at hs; omega
  have hl := (Nat.log2_lt hm0).2 (show m < 2 ^ 53 by simpa using hm)
  unfold Format.sqrt
  rw [hr, hsg]
  simp only [Datum.root, if_neg hm0, Bool.false_eq_true, if_false, Option.map_some, Format.write, show 2 * (D.fractionBits + 2) = 108 from rfl]
  obtain ⟨q, hq⟩ : ∃ q, 108 - m.log2 = q := ⟨_, rfl⟩
  rw [hq]
  obtain ⟨t, ht, ht1⟩ : ∃ t : Nat, ((i - q) % 2).toNat = t ∧ t ≤ 1 := ⟨_, rfl, by omega⟩
  rw [ht]
  obtain ⟨K, hK⟩ : ∃ K : Nat, (i - ((q + t : Nat) : Int)) / 2 = (K : Int) - 1074 := ⟨((i - ((q + t : Nat) : Int)) / 2 + 1074).toNat, by omega⟩
  have hev : (i - ((q + t : Nat) : Int)) = 2 * ((K : Int) - 1074) := by omega
  obtain ⟨r, hrr, h1, h2⟩ := root_is (m <<< (q + t))
  rw [hrr, hK, nearest_rung]
  refine ⟨m <<< (q + t), r, K, ?_, by omega, h1, h2, ?_, ?_⟩
  · rw [hA, Nat.shiftLeft_eq, show (4 : Nat) = 2 ^ 2 from rfl, ← Nat.pow_mul, Nat.mul_assoc, Nat.mul_assoc, ← Nat.pow_add, ← Nat.pow_add]
    congr 2
    omega
  · rw [Nat.shiftLeft_eq]
    have p1 := Nat.log2_self_le hm0
    have p2 : 2 ^ m.log2 * 2 ^ (q + t) ≤ m * 2 ^ (q + t) := Nat.mul_le_mul_right _ p1
    rw [← Nat.pow_add] at p2
    exact Nat.le_trans (Nat.pow_le_pow_right (by omega) (by omega)) p2
  · rw [show ((K : Int) - 1074 - 1 + 1074).toNat = K - 1 by omega, show (-((K : Int) - 1074 - 1 + 1074)).toNat = 0 by omega, Nat.pow_zero]
theorem is_sqrt {a : Nat} {x : Int} {y : Nat} (ha : Is a x) (h : x * 2 ^ E74 = (y : Int) * y) (hf : Fits y) : Is (fsqrt a) y := by
  have hp : (0 : Int) < 2 ^ E74 := Int.pow_pos (by decide)
  have hx : 0 ≤ x := by
    rcases Int.lt_or_le x 0 with h1 | h1
    · have := Int.mul_neg_of_neg_of_pos h1 hp
      have := Int.mul_nonneg (show (0 : Int) ≤ y by omega) (show (0 : Int) ≤ y by omega)
      omega
    · exact h1
  by_cases h0 : x = 0
  · subst h0
    have hy : y = 0 := by
      rw [Int.zero_mul] at h
      rcases Int.mul_eq_zero.1 h.symm with h | h <;> omega
    subst hy
    obtain ⟨m, i, hr, hm, hi, hi2, hv, hA⟩ := fin_read ha.fin
    rw [is_V ha] at hA
    have hm0 : m = 0 := by
      have := Nat.two_pow_pos (i + 1074).toNat
      rcases Nat.mul_eq_zero.1 hA.symm with h | h
      · exact h
      · omega
    have e : fsqrt a = D.word (sg a) (rung 0 1) := by
      unfold fsqrt Format.sqrt
      rw [hr, hm0]
      simp only [Datum.root, if_pos, Option.map_some, Format.write, ans]
      rw [nearest_rung, Nat.zero_mul, rung_zero, rung_zero]
    rw [e]
    refine (is_rung _ (n := 0) (by omega) (by omega) ⟨0, 0, by simp, by omega, by omega⟩).of_eq ?_
    simp
  · obtain ⟨n, w, K, h1, h2, h3, h4, _, h5⟩ := sqrt_form ha.fin (by rw [is_V ha]; omega)
    rw [is_V ha] at h1
    have hyy : y * y = n * 4 ^ K := by
      rw [← h1]
      have := congrArg Int.natAbs h
      rw [Int.natAbs_mul, Int.natAbs_mul, Int.natAbs_pow, Int.natAbs_natCast] at this
      exact this.symm
    obtain ⟨z, z1, z2⟩ := sq_div K y n hyy
    have hwz : w = z := root_unique h3 h4 (by omega) (by
      have : z * z < (z + 1) * (z + 1) := by rw [Nat.add_mul, Nat.mul_add]; omega
      omega)
    subst hwz
    unfold fsqrt
    rw [h5, show (w * w != n) = false by simp [z2]]
    show Is (D.word false (rung ((2 * w + 0) * 2 ^ (K - 1)) 1)) y
    refine (is_rung _ (n := y) (by omega) ?_ hf).of_eq (by simp)
    rw [z1, Nat.add_zero, Nat.mul_one, Nat.mul_comm 2 w, Nat.mul_assoc, Nat.mul_comm 2 (2 ^ (K - 1)), ← Nat.pow_succ, show (K - 1).succ = K by omega]
end Go.Proofs.YtgdohmaljbggjaaGreatDoor.Fl
namespace Go.Proofs.YtgdohmaljbggjaaGreatDoor.Fl
open Ieee
theorem cut_zero (s : Bool) (n d : Nat) : Toward.zero.cut s n d = n / 2 ^ d := by
  unfold Toward.cut
  simp only [Nat.shiftLeft_eq, Nat.one_mul, Bool.toNat_false, Nat.add_zero]
  rcases Nat.lt_or_ge d (n.log2 + 2) with h | h
  · rw [Nat.min_eq_left (by omega)]
  · rw [Nat.min_eq_right h]
    have h1 : n < 2 ^ (n.log2 + 1) := Nat.lt_log2_self
    have h2 : 2 ^ (n.log2 + 1) ≤ 2 ^ (n.log2 + 2) := Nat.pow_le_pow_right (by omega) (by omega)
    have h3 : 2 ^ (n.log2 + 2) ≤ 2 ^ d := Nat.pow_le_pow_right (by omega) h
    rw [Nat.div_eq_of_lt (by omega), Nat.div_eq_of_lt (by omega)]
theorem whole_is (m : Nat) {i : Int} (hi : -1074 ≤ i) : m <<< i.toNat / 2 ^ (-i).toNat = m * 2 ^ (i + 1074).toNat / 2 ^ E74 := by
  have hE := E74_is
  rw [Nat.shiftLeft_eq]
  rcases Int.le_total 0 i with h | h
  · rw [show (-i).toNat = 0 by omega, Nat.pow_zero, Nat.div_one, show (i + 1074).toNat = i.toNat + E74 by omega, Nat.pow_add, ← Nat.mul_assoc, Nat.mul_div_cancel _ (Nat.two_pow_pos _)]
  · rw [show i.toNat = 0 by omega, Nat.pow_zero, Nat.mul_one]
    obtain ⟨u, v, h1, h2, h3⟩ : ∃ u v : Nat, (i + 1074).toNat = u ∧ (-i).toNat = v ∧ E74 = v + u := ⟨_, _, rfl, rfl, by omega⟩
    rw [h1, h2, h3, Nat.pow_add, Nat.mul_div_mul_right _ _ (Nat.two_pow_pos _)]
/-- The whole part of a number in units of the least float. -/
noncomputable def cutI (x : Int) : Int := if x < 0 then -((x.natAbs / 2 ^ E74 : Nat) : Int) else ((x.natAbs / 2 ^ E74 : Nat) : Int)
theorem cutI_abs (x : Int) : (cutI x).natAbs = x.natAbs / 2 ^ E74 := by
  unfold cutI
  generalize x.natAbs / 2 ^ E74 = q
  split <;> omega
theorem fldexp_word (s : Bool) {M : Nat} (h1 : M < 9007199254740992) (hM : 4503599627370496 ≤ M) : fldexp (D.word s (1021 * 4503599627370496 + M)) 53 = D.nearest s M 0 := by
  obtain ⟨v1, v2, v3⟩ := word_mod s (r := 1021 * 4503599627370496 + M) (by omega)
  have hnn : isNan (D.word s (1021 * 4503599627370496 + M)) = false := by unfold isNan; rw [v1]; exact decide_eq_false (by omega)
  unfold fldexp
  rw [hnn, if_neg (by decide), read_word s h1 (.inl hM) (by omega)]
  simp only [scaled, Format.write]
  rw [show ((1021 : Nat) : Int) - 1074 + 53 = 0 by decide]
theorem toInt_fin {a : Nat} (h : a % 9223372036854775808 < 9218868437227405312) : (D.read a).toInt .zero = some (cutI (V a)) := by
  obtain ⟨m, i, hr, _, hi, _, hv, hA⟩ := fin_read h
  rw [hr]
  simp only [Datum.toInt, Datum.integral, cut_zero, whole_is m hi]
  rw [signed_is, Nat.pow_zero, Nat.mul_one, ← hA]
  have hs := V_sign h
  unfold cutI
  congr 1
  generalize V a = x at *
  clear hr hv hA
  cases hsg : sg a
  · rw [hsg, if_neg (by simp)] at hs
    rw [if_neg (by simp), if_neg (by omega)]
  · rw [hsg, if_pos rfl] at hs
    rw [if_pos rfl]
    by_cases h0 : x < 0
    · rw [if_pos h0]
    · have : x = 0 := by omega
      subst this
      simp
theorem trunc_rung {a : Nat} (h : a % 9223372036854775808 < 9218868437227405312) : ftrunc a = D.word (sg a) (rung ((V a).natAbs / 2 ^ E74 * 2 ^ E74) 1) := by
  obtain ⟨m, i, hr, _, hi, _, hv, hA⟩ := fin_read h
  unfold ftrunc
  show D.write (Datum.integral .zero (D.read a)) = _
  rw [hr]
  simp only [Datum.integral, cut_zero, whole_is m hi, Format.write]
  have hE := E74_is
  rw [nearest_rung, hA, show ((0 : Int) + 1074).toNat = E74 by omega, show (-((0 : Int) + 1074)).toNat = 0 by omega, Nat.pow_zero]
theorem fits_of {a : Nat} {x : Int} (h : Is a x) : ∃ m u, x.natAbs = m * 2 ^ u ∧ m < 9007199254740992 ∧ u ≤ 2045 := by
  obtain ⟨m, i, hr, hm, hi, hi2, hv, hA⟩ := fin_read h.fin
  exact ⟨m, _, by rw [← is_V h, hA], hm, by omega⟩
theorem fits_whole {n m u : Nat} (h : n = m * 2 ^ u) (hm : m < 9007199254740992) (hu : u ≤ 2045) : Fits (n / 2 ^ E74 * 2 ^ E74) := by
  subst h
  have hE := E74_is
  rcases Nat.lt_or_ge u E74 with h | h
  · refine ⟨_, E74, rfl, ?_, by omega⟩
    obtain ⟨k, hk⟩ : ∃ k, E74 = k + u := ⟨E74 - u, by omega⟩
    rw [hk, Nat.pow_add, Nat.mul_div_mul_right _ _ (Nat.two_pow_pos _)]
    exact Nat.lt_of_le_of_lt (Nat.div_le_self _ _) hm
  · refine ⟨m, u, ?_, hm, hu⟩
    obtain ⟨k, hk⟩ : ∃ k, u = k + E74 := ⟨u - E74, by omega⟩
    rw [hk, Nat.pow_add, ← Nat.mul_assoc, Nat.mul_div_cancel _ (Nat.two_pow_pos _)]
theorem fits_rest {n m u : Nat} (h : n = m * 2 ^ u) (hm : m < 9007199254740992) (hu : u ≤ 2045) : Fits (n % 2 ^ E74) := by
  subst h
  have hE := E74_is
  rcases Nat.lt_or_ge u E74 with h | h
  · obtain ⟨k, hk⟩ : ∃ k, E74 = k + u := ⟨E74 - u, by omega⟩
    refine ⟨m % 2 ^ k, u, ?_, ?_, hu⟩
    · rw [hk, Nat.pow_add, Nat.mul_mod_mul_right]
    · exact Nat.lt_of_le_of_lt (Nat.mod_le _ _) hm
  · refine ⟨0, 0, ?_, by omega, by omega⟩
    obtain ⟨k, hk⟩ : ∃ k, u = k + E74 := ⟨u - E74, by omega⟩
    rw [hk, Nat.pow_add, ← Nat.mul_assoc, Nat.mul_mod_left]
theorem sign_of {a : Nat} {x : Int} (h : Is a x) : (sg a = true → x ≤ 0) ∧ (sg a = false → 0 ≤ x) := by
  have := V_sign h.fin
  rw [is_V h] at this
  constructor <;> intro h1 <;> rw [h1] at this <;> simp at this <;> omega
theorem is_trunc {a : Nat} {x : Int} (h : Is a x) : Is (ftrunc a) (cutI x * 2 ^ E74) := by
  rw [trunc_rung h.fin, is_V h]
  obtain ⟨m, u, h1, h2, h3⟩ := fits_of h
  refine (is_rung _ (by omega) (Nat.mul_one _).symm (fits_whole h1 h2 h3)).of_eq ?_
  obtain ⟨s1, s2⟩ := sign_of h
  unfold cutI
  push_cast
  generalize (2 : Int) ^ E74 = P
  cases hs : sg a
  · have := s2 hs
    rw [if_neg (by simp), if_neg (by omega)]
  · have := s1 hs
    rw [if_pos rfl]
    by_cases h0 : x < 0
    · rw [if_pos h0, Int.neg_mul]
    · have : x = 0 := by omega
      subst this
      simp
/-- What is left behind the point. -/
noncomputable def restI (x : Int) : Int := x - cutI x * 2 ^ E74
theorem restI_abs (x : Int) : (restI x).natAbs = x.natAbs % 2 ^ E74 ∧ (0 ≤ x → 0 ≤ restI x) ∧ (x ≤ 0 → restI x ≤ 0) := by
  unfold restI cutI
  have h1 := Nat.div_add_mod x.natAbs (2 ^ E74)
  have hp : (2 : Int) ^ E74 = ((2 ^ E74 : Nat) : Int) := by push_cast; rfl
  rw [hp]
  generalize (2 : Nat) ^ E74 = P at *
  generalize hq : x.natAbs / P = q at *
  generalize hr : x.natAbs % P = r at *
  have h2 : (P : Int) * q + r = x.natAbs := by rw [← h1]; push_cast; rfl
  have h3 : (q : Int) * P = P * q := Int.mul_comm _ _
  split
  · rw [Int.neg_mul]
    refine ⟨?_, ?_, ?_⟩ <;> omega
  · refine ⟨?_, ?_, ?_⟩ <;> omega
/-- What Fraction answers of a number. -/
def ffr (a : Nat) : Nat := match D.sub a (ftrunc a) with
  | some d => if D.order d 0 = some .eq then 0 else told d
  | none => none'
theorem is_zero : Is 0 0 := ⟨by omega, by omega, by decide +kernel⟩
theorem order_eq_zero {d : Nat} {x : Int} (h : Is d x) : D.order d 0 = some .eq ↔ x = 0 := by
  rw [order_key h.nan is_zero.nan, h.val, is_zero.val]
  constructor
  · intro e
    have := Option.some.inj e
    rcases Int.lt_trichotomy x 0 with h1 | h1 | h1
    · rw [cmp_lt h1] at this; cases this
    · exact h1
    · rw [cmp_gt h1] at this; cases this
  · intro e; rw [e, cmp_eq]
theorem sub_trunc {a : Nat} {x : Int} (h : Is a x) : ∃ d, D.sub a (ftrunc a) = some d ∧ Is d (restI x) := by
  have ht := is_trunc h
  refine ⟨_, fsub_rung h.fin ht.fin, ?_⟩
  rw [is_V h, is_V ht]
  obtain ⟨m, u, h1, h2, h3⟩ := fits_of h
  have hf := fits_rest h1 h2 h3
  rw [← (restI_abs x).1] at hf
  change Is (D.word (if restI x = 0 then _ else decide (restI x < 0)) (rung (restI x).natAbs 1)) (restI x)
  refine (is_rung _ (by omega) (Nat.mul_one _).symm hf).of_eq ?_
  generalize restI x = y
  by_cases h0 : y = 0
  · subst h0; simp
  · rw [if_neg h0]
    by_cases h1 : y < 0
    · rw [decide_eq_true h1, if_pos rfl]; omega
    · rw [decide_eq_false h1, if_neg (by simp)]; omega
theorem is_ffr {a : Nat} {x : Int} (h : Is a x) : Is (ffr a) (restI x) := by
  obtain ⟨d, h1, h2⟩ := sub_trunc h
  unfold ffr
  rw [h1]
  simp only
  by_cases h0 : D.order d 0 = some .eq
  · rw [if_pos h0, (order_eq_zero h2).1 h0]; exact is_zero
  · rw [if_neg h0]
    unfold told; rw [h2.nan]; exact h2
theorem ffr_is {a d : Nat} (h1 : D.sub a (ftrunc a) = some d) : ffr a = if D.order d 0 = some .eq then 0 else told d := by unfold ffr; rw [h1]
end Go.Proofs.YtgdohmaljbggjaaGreatDoor.Fl
namespace Go.Proofs.YtgdohmaljbggjaaGreatDoor
open Go.RowKit Go.Lib
theorem fraction_fin (a : Nat) (x : Int) (w : World) (h : Fl.Is a x) : Calls Tryz.prog 29 #[.int .u64 a] w fun e w' => e = .returned (.int .u64 (Fl.ffr a : Nat)) ∧ w = w' := by
  obtain ⟨d, h1, h2⟩ := Fl.sub_trunc h
  rw [Fl.ffr_is h1]
  exact fraction_num a d w h.lt h.fin h1
theorem toVal {a : Nat} (h : a % 9223372036854775808 < 9218868437227405312) (hb : (Fl.cutI (Fl.V a)).natAbs ≤ 9007199254740992) : floatToIntVal .f64 a .i64 = some (Fl.cutI (Fl.V a)) := by
  unfold floatToIntVal
  have : (FloatKind.f64.decode a).toInt .zero = some (Fl.cutI (Fl.V a)) := Fl.toInt_fin h
  rw [this]
  simp only
  rw [if_pos]
  constructor
  · have : IntKind.i64.min = -9223372036854775808 := by decide
    omega
  · have : IntKind.i64.max = 9223372036854775807 := by decide
    omega
theorem cutI_mul (n : Int) : Fl.cutI (n * 2 ^ Fl.E74) = n := by
  unfold Fl.cutI
  have hp : (0 : Int) < 2 ^ Fl.E74 := Int.pow_pos (by decide)
  rw [Int.natAbs_mul, Int.natAbs_pow, show (2 : Int).natAbs = 2 from rfl, Nat.mul_div_cancel _ (Nat.two_pow_pos _)]
  generalize (2 : Int) ^ Fl.E74 = P at *
  by_cases h : n < 0
  · rw [if_pos (Int.mul_neg_of_neg_of_pos h hp)]; omega
  · have := Int.mul_nonneg (show 0 ≤ n by omega) (Int.le_of_lt hp)
    rw [if_neg (by omega)]; omega
theorem truncate_fin (a : Nat) (x : Int) (w : World) (h : Fl.Is a x) :
    Calls Tryz.prog 27 #[.int .u64 a] w fun en w' => en = .returned (.tuple #[lof (Fl.cutI x), .int .i64 0]) ∧ Below w.heap.size w w' := by
  have ht := Fl.is_trunc h
  have hE := Fl.E74_is
  have hcut : (Fl.cutI x).natAbs = x.natAbs / 2 ^ Fl.E74 := Fl.cutI_abs x
  by_cases h0 : Fl.cutI x = 0
  · have hz : Fl.ftrunc a % 9223372036854775808 = 0 := by
      rw [Fl.trunc_rung h.fin, Fl.is_V h]
      rw [h0] at hcut
      have : x.natAbs / 2 ^ Fl.E74 = 0 := by omega
      rw [this, Nat.zero_mul, Fl.rung_zero]
      exact (Fl.word_mod _ (by omega)).1
    have hx : FrexpIs (Fl.ftrunc a) (Fl.ftrunc a) 0 := frexp_wrap _ _ _ (fun w => frexp_zero _ (Fl.order_zero_eq hz) w)
    have hv : floatToIntVal .f64 (Fl.ftrunc a) .i64 = some (Fl.cutI x) := by
      have := toVal ht.fin (by rw [Fl.is_V ht, cutI_mul, h0]; decide)
      rw [Fl.is_V ht, cutI_mul] at this
      exact this
    exact truncate_num a (Fl.ftrunc a) (Fl.ftrunc a) (Fl.ftrunc a) 0 (Fl.cutI x) (Fl.cutI x) w h.lt h.fin rfl hx ht.lt (Fl.fldexp_zero _ ht.lt hz) hv (by omega) (by omega) (fun _ => ⟨hv, by omega⟩) (fun h => by omega)
  · obtain ⟨m, u, h1, h2, h3⟩ := Fl.fits_of h
    obtain ⟨m', u', k1, k2, k3⟩ := Fl.fits_whole h1 h2 h3
    obtain ⟨M, U, e, q1, q2, q3⟩ := Fl.full_of k2 k3
    rw [← e] at k1
    have hT : x.natAbs / 2 ^ Fl.E74 ≠ 0 := by omega
    have hM : 4503599627370496 ≤ M ∧ 1022 ≤ U := by
      have : 2 ^ Fl.E74 ≤ M * 2 ^ U := by
        rw [← k1]
        have := Nat.mul_le_mul_right (2 ^ Fl.E74) (show 1 ≤ x.natAbs / 2 ^ Fl.E74 by omega)
        omega
      have hU : 1022 ≤ U := by
        rcases Nat.lt_or_ge U 1022 with hl | hl
        · exfalso
          have a1 : M * 2 ^ U < 2 ^ 53 * 2 ^ U := Nat.mul_lt_mul_of_pos_right (by simpa using q1) (Nat.two_pow_pos _)
          rw [← Nat.pow_add] at a1
          have a2 : (2 : Nat) ^ (53 + U) ≤ 2 ^ Fl.E74 := Nat.pow_le_pow_right (by omega) (by omega)
          omega
        · exact hl
      constructor
      · rcases q2 with q2 | q2
        · exact q2
        · omega
      · exact hU
    obtain ⟨hM1, hU⟩ := hM
    have hb : Fl.ftrunc a = Fl.D.word (Fl.sg a) (U * 4503599627370496 + M) := by
      rw [Fl.trunc_rung h.fin, Fl.is_V h, k1, Fl.rung_fits_eq q1 q2 q3]
    obtain ⟨w1, w2, w3⟩ := Fl.word_mod (Fl.sg a) (r := U * 4503599627370496 + M) (by omega)
    have hn : ∀ w, Calls Tryz.prog 148 #[.float .f64 (Fl.ftrunc a)] w (NormOk (Fl.ftrunc a) 0 w) := fun w => norm_big _ ht.lt ht.fin (by rw [hb, w1]; omega) w
    have hx : FrexpIs (Fl.ftrunc a) (Fl.D.word (Fl.sg a) (1021 * 4503599627370496 + M)) (U - 1021) := frexp_wrap _ _ _ (fun w => by
      have := frexp_core (Fl.ftrunc a) (Fl.ftrunc a) M U (Fl.sg a) 0 w ht.lt ht.fin (by rw [hb, w1]; omega) hn hb hM1 q1 q3 (by omega)
      rw [Int.add_zero] at this
      exact this)
    obtain ⟨v1, v2, v3⟩ := Fl.word_mod (Fl.sg a) (r := 1021 * 4503599627370496 + M) (by omega)
    obtain ⟨sM, hsM⟩ : ∃ sM : Int, (if Fl.sg a then -(M : Int) else M) = sM := ⟨_, rfl⟩
    have hsMa : sM.natAbs = M := by rw [← hsM]; split <;> omega
    have hc : Fl.Is (Fl.fldexp (Fl.D.word (Fl.sg a) (1021 * 4503599627370496 + M)) 53) (sM * 2 ^ Fl.E74) := by
      rw [Fl.fldexp_word _ q1 hM1, Fl.nearest_rung, show ((0 : Int) + 1074).toNat = Fl.E74 by omega, show (-((0 : Int) + 1074)).toNat = 0 by omega, Nat.pow_zero]
      refine (Fl.is_rung _ (n := M * 2 ^ Fl.E74) (by omega) (Nat.mul_one _).symm ⟨_, _, rfl, q1, by omega⟩).of_eq ?_
      rw [← hsM]
      push_cast
      split
      · rw [Int.neg_mul]
      · rfl
    have hv : floatToIntVal .f64 (Fl.fldexp (Fl.D.word (Fl.sg a) (1021 * 4503599627370496 + M)) 53) .i64 = some sM := by
      have := toVal hc.fin (by rw [Fl.is_V hc, cutI_mul]; omega)
      rw [Fl.is_V hc, cutI_mul] at this
      exact this
    have hTM : x.natAbs / 2 ^ Fl.E74 * 2 ^ Fl.E74 = M * 2 ^ U := k1
    obtain ⟨s1, s2⟩ := Fl.sign_of h
    have hcs : Fl.cutI x = if Fl.sg a then -((x.natAbs / 2 ^ Fl.E74 : Nat) : Int) else ((x.natAbs / 2 ^ Fl.E74 : Nat) : Int) := by
      unfold Fl.cutI
      cases hs : Fl.sg a
      · have := s2 hs
        rw [if_neg (by omega), if_neg (by simp)]
      · have := s1 hs
        rw [if_pos rfl, if_pos (by
          rcases Int.lt_or_le x 0 with h | h
          · exact h
          · exfalso
            have : x = 0 := by omega
            subst this
            simp at hT)]
    refine truncate_num a (Fl.ftrunc a) _ _ (U - 1021) sM (Fl.cutI x) w h.lt h.fin rfl hx v3 rfl hv (by omega) (by omega) ?_ ?_
    · intro he
      have hUb : U < 1074 := by omega
      have hb2 : (Fl.cutI x).natAbs ≤ 9007199254740992 := by
        rw [hcut]
        have a1 : M * 2 ^ U ≤ 9007199254740992 * 2 ^ Fl.E74 := Nat.mul_le_mul (by omega) (Nat.pow_le_pow_right (by omega) (by omega))
        rw [← hTM] at a1
        exact Nat.le_of_mul_le_mul_right a1 (Nat.two_pow_pos _)
      refine ⟨?_, hb2⟩
      have := toVal ht.fin (by rw [Fl.is_V ht, cutI_mul]; exact hb2)
      rw [Fl.is_V ht, cutI_mul] at this
      exact this
    · intro he
      have hUk : ((U : Int) - 1021 - 53).toNat + Fl.E74 = U := by omega
      generalize ((U : Int) - 1021 - 53).toNat = k at hUk ⊢
      have hT2 : x.natAbs / 2 ^ Fl.E74 = M * 2 ^ k := by
        rw [← hUk, Nat.pow_add, ← Nat.mul_assoc] at hTM
        exact Nat.eq_of_mul_eq_mul_right (Nat.two_pow_pos _) hTM
      rw [hcs, hT2, ← hsM]
      push_cast
      split
      · rw [Int.neg_mul]
      · rfl
end Go.Proofs.YtgdohmaljbggjaaGreatDoor
namespace Go.Proofs.YtgdohmaljbggjaaGreatDoor
open Go.RowKit Go.Lib
theorem fint_told (n : Int) : Fl.told (Fl.fint n) = Fl.fint n := by rw [Fl.fint_rung, Fl.told_word]
theorem ofsmall_any (n : Int) (w : World) : Calls Tryz.prog 23 #[.int .i64 n] w fun e w' => e = .returned (.int .u64 (Fl.fint n : Nat)) ∧ w = w' := by
  have HT := Lib.hid (fun w => told_any (floatOfInt .f64 n) w)
  have HF := Lib.hid (show Fl.told (floatOfInt .f64 n) = Fl.fint n from fint_told n)
  rw [HF.out] at HT
  generalize Fl.fint n = r at *
  clear HF
  go_enter Tryz.func23, Tryz.ntmps23
  go_wp2_with fail
  refine (HT.out _).mono ?_
  rintro e w' ⟨rfl, rfl⟩
  go_wp2_with fail
  go_ret
  exact ⟨rfl, rfl⟩
theorem sqrt_ext (a : Nat) : Extern.MathSqrt.sqrt #[.float .f64 a] = (match FloatKind.f64.format.sqrt a with
    | some r => pure (.float .f64 r)
    | none => do pure (.float .f64 (← choose (.nanBits .f64 a a)))) := rfl
theorem run_sqrt_some (a r : Nat) (w : World) (h : Fl.D.sqrt a = some r) : (callFunc 121 #[.float .f64 a]).run Tryz.prog w = .ok (.value (.float .f64 r)) w := by
  rw [run_callFunc_extern Tryz.func121 (by kernel_rfl) (by kernel_rfl) (by kernel_rfl) (show Extern.find _ = some Extern.MathSqrt.sqrt by kernel_rfl)]
  rw [sqrt_ext, show FloatKind.f64.format.sqrt a = some r from h]
  rfl
theorem run_sqrt_none (a : Nat) (w : World) (h : Fl.D.sqrt a = none) : ∃ q, Fl.isNan q = true ∧ (callFunc 121 #[.float .f64 a]).run Tryz.prog w = .ok (.value (.float .f64 q)) w.drew := by
  refine ⟨_, Fl.nan_cut a a (w.tape w.drawn (.nanBits .f64 a a)), ?_⟩
  rw [run_callFunc_extern Tryz.func121 (by kernel_rfl) (by kernel_rfl) (by kernel_rfl) (show Extern.find _ = some Extern.MathSqrt.sqrt by kernel_rfl)]
  rw [sqrt_ext, show FloatKind.f64.format.sqrt a = none from h]
  simp [Question.forced]
theorem sqrt_any (a : Nat) (w : World) : Calls Tryz.prog 35 #[.int .u64 a] w fun e w' => e = .returned (.int .u64 (Fl.fsqrt a : Nat)) ∧ Below w.heap.size w w' := by
  cases h : Fl.D.sqrt a with
  | some r =>
    have h2 := fun (w : World) => run_sqrt_some a r w h
    have HM := Lib.hid (fun w => show Calls Tryz.prog 77 #[.float .f64 a] w fun e w' => e = .returned (.float .f64 r) ∧ w = w' by
      go_enter Tryz.func77, Tryz.ntmps77
      go_wp2_with fail
      go_ret
      exact ⟨rfl, rfl⟩)
    have HT := Lib.hid (show Fl.told r = Fl.fsqrt a by unfold Fl.told Fl.fsqrt; rw [Fl.sqrt_not_nan h, h]; rfl)
    clear h h2
    go_enter Tryz.func35, Tryz.ntmps35
    go_wp2_with ((refine (of_any _ _).mono ?_; rintro e w' ⟨rfl, rfl⟩))
    refine (HM.out _).mono ?_
    rintro e w' ⟨rfl, rfl⟩
    go_wp2_with fail
    refine (told_any _ _).mono ?_
    rintro e w' ⟨rfl, rfl⟩
    go_wp2_with fail
    go_ret
    exact ⟨ret_int (by rw [HT.out]), Below.refl _ _⟩
  | none =>
    obtain ⟨q, hq, h2⟩ := run_sqrt_none a w h
    have HM := Lib.hid (show Calls Tryz.prog 77 #[.float .f64 a] w fun e w' => e = .returned (.float .f64 q) ∧ w' = w.drew by
      go_enter Tryz.func77, Tryz.ntmps77
      go_wp2_with fail
      go_ret
      exact ⟨rfl, rfl⟩)
    have HT := Lib.hid (show Fl.told q = Fl.fsqrt a by rw [Fl.told_nan hq]; unfold Fl.fsqrt; rw [h]; rfl)
    clear h h2 hq
    go_enter Tryz.func35, Tryz.ntmps35
    go_wp2_with ((refine (of_any _ _).mono ?_; rintro e w' ⟨rfl, rfl⟩))
    refine HM.out.mono ?_
    rintro e w' ⟨rfl, rfl⟩
    go_wp2_with fail
    refine (told_any _ _).mono ?_
    rintro e w' ⟨rfl, rfl⟩
    go_wp2_with fail
    go_ret
    exact ⟨ret_int (by rw [HT.out]), (Below.refl _ _).drew⟩
theorem truncate_none (a : Nat) (w : World) (ha : a < 18446744073709551616) (hf : 9218868437227405312 ≤ a % 9223372036854775808) :
    Calls Tryz.prog 27 #[.int .u64 a] w fun en w' => en = .returned (.tuple #[.agg #[.bool false, .string ⟨#[]⟩], .int .i64 101]) ∧ Below w.heap.size w w' := by
  have HF := Lib.hid (fun w => finite_any a ha w)
  rw [decide_eq_false (by omega)] at HF
  clear hf
  go_enter Tryz.func27, Tryz.ntmps27
  go_wp2_with (first | (refine (of_any _ _).mono ?_; rintro e w' ⟨rfl, rfl⟩) | (refine (HF.out _).mono ?_; rintro e w' ⟨rfl, rfl⟩))
  have hh : (w.alloc (.cells #[.bool false, .string ⟨#[]⟩] 42)).heap[w.heap.size]? = some (.cells #[.bool false, .string ⟨#[]⟩] 42) := heap_alloc_at _ _
  have hB : Below w.heap.size w (w.alloc (.cells #[.bool false, .string ⟨#[]⟩] 42)) := (Below.refl _ _).alloc (Nat.le_refl _) _
  generalize w.alloc (.cells #[.bool false, .string ⟨#[]⟩] 42) = w1 at hh hB ⊢
  have c0 : w1.cell? ⟨w.heap.size, 0, none⟩ = some (.bool false) := by simp [World.cell?, hh]
  have c1 : w1.cell? ⟨w.heap.size, 1, none⟩ = some (.string ⟨#[]⟩) := by simp [World.cell?, hh]
  refine bodyPost_ret (v := .tuple #[.agg #[.bool false, .string ⟨#[]⟩], .int .i64 101]) (by simp [results, Tryz.results27, go_sem, c0, c1]) rfl ⟨rfl, hB⟩
theorem fraction_none (a : Nat) (w : World) (ha : a < 18446744073709551616) (hf : 9218868437227405312 ≤ a % 9223372036854775808) :
    Calls Tryz.prog 29 #[.int .u64 a] w fun en w' => en = .returned (.int .u64 9221120237041090560) ∧ w = w' := by
  have HF := Lib.hid (fun w => finite_any a ha w)
  rw [decide_eq_false (by omega)] at HF
  clear hf
  go_enter Tryz.func29, Tryz.ntmps29
  go_wp2_with (first | (refine (of_any _ _).mono ?_; rintro e w' ⟨rfl, rfl⟩) | (refine (HF.out _).mono ?_; rintro e w' ⟨rfl, rfl⟩))
  go_ret
  exact ⟨rfl, rfl⟩
end Go.Proofs.YtgdohmaljbggjaaGreatDoor
