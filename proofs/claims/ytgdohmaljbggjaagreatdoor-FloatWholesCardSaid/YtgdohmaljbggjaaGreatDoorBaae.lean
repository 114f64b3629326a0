/- Plain facts of rounding a quotient of two whole numbers to a float (no program in sight). Plain facts: sums, products and quotients of floats are the exact ones, rounded once; where they fit they are exact. The shortest digits of a float: the contract of shortFloat. -/
import Derived.Test.YtgdohmaljbggjaaGreatDoorBaab
import Derived.Test.YtgdohmaljbggjaaGreatDoorBaac
namespace Go.Proofs.YtgdohmaljbggjaaGreatDoor.Fl
open Ieee
/-- A quotient rounded to the nearest, ties to even. -/
def rhe (p q : Nat) : Nat := p / q + (decide (q < 2 * (p % q)) || (q == 2 * (p % q) && p / q % 2 == 1)).toNat
/-- The rung of p by q, told in units of the least float. -/
def rung (p q : Nat) : Nat := min (((p / q).log2 - 52) * 4503599627370496 + rhe p (q * 2 ^ ((p / q).log2 - 52))) 9218868437227405312
theorem rhe_cut (n d : Nat) : rhe n (2 ^ d) = cutS n d := rfl
theorem rhe_scale (p q : Nat) {c : Nat} (hc : 0 < c) : rhe (p * c) (q * c) = rhe p q := by
  unfold rhe
  rw [Nat.mul_div_mul_right _ _ hc, Nat.mul_mod_mul_right]
  generalize p % q = r
  generalize p / q = f
  have e1 : (q * c < 2 * (r * c)) ↔ q < 2 * r := by rw [← Nat.mul_assoc]; exact Nat.mul_lt_mul_right hc
  have e2 : (q * c = 2 * (r * c)) ↔ q = 2 * r := by rw [← Nat.mul_assoc]; exact ⟨fun h => Nat.eq_of_mul_eq_mul_right hc h, fun h => by rw [h]⟩
  have e3 : (q * c == 2 * (r * c)) = (q == 2 * r) := by rw [Bool.eq_iff_iff]; simp [e2]
  rw [e3]
  simp only [e1]
theorem rung_scale (p q : Nat) {c : Nat} (hc : 0 < c) : rung (p * c) (q * c) = rung p q := by
  unfold rung
  rw [Nat.mul_div_mul_right _ _ hc, Nat.mul_right_comm q c, rhe_scale _ _ hc]
theorem log2_div_pow (B y : Nat) : (B / 2 ^ y).log2 = B.log2 - y := by
  have hy : 0 < 2 ^ y := Nat.two_pow_pos y
  by_cases h : B < 2 ^ y
  · rw [Nat.div_eq_of_lt h]
    by_cases h0 : B = 0
    · subst h0; simp
    · have := (Nat.log2_lt h0).2 h
      simp; omega
  · have hB : B ≠ 0 := by omega
    have hq : B / 2 ^ y ≠ 0 := by
      have := Nat.div_pos (Nat.le_of_not_lt h) hy
      omega
    have hl : y ≤ B.log2 := (Nat.le_log2 hB).2 (Nat.le_of_not_lt h)
    have h1 := Nat.log2_self_le hB
    have h2 : B < 2 ^ (B.log2 + 1) := Nat.lt_log2_self
    obtain ⟨k, hk⟩ : ∃ k, B.log2 = k + y := ⟨B.log2 - y, by omega⟩
    rw [hk] at h1 h2 ⊢
    rw [show k + y - y = k by omega]
    refine Nat.le_antisymm ?_ ?_
    · have h3 : B / 2 ^ y < 2 ^ (k + 1) := by
        rw [Nat.div_lt_iff_lt_mul hy, ← Nat.pow_add]
        rw [show k + 1 + y = k + y + 1 by omega]; exact h2
      have := (Nat.log2_lt hq).2 h3
      omega
    · refine (Nat.le_log2 hq).2 ?_
      rw [Nat.le_div_iff_mul_le hy, ← Nat.pow_add]
      exact h1
theorem log2_between {n l : Nat} (h1 : 2 ^ l ≤ n) (h2 : n < 2 ^ (l + 1)) : n.log2 = l := by
  have h0 : n ≠ 0 := by have := Nat.two_pow_pos l; omega
  have a := (Nat.le_log2 h0).2 h1
  have b := (Nat.log2_lt h0).2 h2
  omega
/-- The nearest float of a number is that of its quotient. -/
theorem nearest_rung (s : Bool) (m : Nat) (i : Int) : D.nearest s m i = D.word s (rung (m * 2 ^ (i + 1074).toNat) (2 ^ (-(i + 1074)).toNat)) := by
  by_cases h : m = 0
  · subst h
    unfold Format.nearest rung rhe
    simp
  rw [nearest_eq s h]
  have hlog : (m * 2 ^ (i + 1074).toNat).log2 = m.log2 + (i + 1074).toNat := log2_mul_pow h _
  unfold rung
  rw [log2_div_pow, hlog, ← Nat.pow_add, rhe_cut]
  have hl : (lastOf m i + 1074).toNat = m.log2 + (i + 1074).toNat - (-(i + 1074)).toNat - 52 := by unfold lastOf; omega
  rw [← hl]
  congr 3
  have hb : -1074 ≤ lastOf m i := by unfold lastOf; omega
  generalize lastOf m i = l at hb
  rcases Int.lt_or_le i l with h1 | h1
  · have e1 : (i - l).toNat = 0 := by omega
    rw [e1, Nat.pow_zero, Nat.mul_one]
    have e2 : (-(i + 1074)).toNat + (l + 1074).toNat = (l - i).toNat + (i + 1074).toNat := by omega
    rw [e2, cutS_scale]
  · have e1 : (l - i).toNat = 0 := by omega
    have e2 : (-(i + 1074)).toNat = 0 := by omega
    have e3 : (i + 1074).toNat = (i - l).toNat + (l + 1074).toNat := by omega
    rw [e1, e2, cutS_zero, e3, Nat.pow_add, ← Nat.mul_assoc]
    have := cutS_scale (m * 2 ^ (i - l).toNat) 0 (l + 1074).toNat
    rw [this, cutS_zero]
/-- The last digit that stands for all that is left. -/
def stick (p q : Nat) : Nat := 2 * (p / q) + (p % q != 0).toNat
theorem rhe_stick (p q g : Nat) (hq : 0 < q) : rhe p (q * 2 ^ (g + 1)) = rhe (stick p q) (2 ^ (g + 2)) := by
  have hg : 0 < 2 ^ g := Nat.two_pow_pos g
  have hr : p % q < q := Nat.mod_lt _ hq
  have h1 : p / (q * 2 ^ (g + 1)) = p / q / 2 ^ (g + 1) := by rw [Nat.div_div_eq_div_mul]
  have h2 : p % (q * 2 ^ (g + 1)) = p % q + q * (p / q % 2 ^ (g + 1)) := by rw [Nat.mod_mul]
  have e2 : 2 ^ (g + 2) = 2 * 2 ^ (g + 1) := by rw [Nat.pow_succ 2 (g + 1), Nat.mul_comm]
  have e1 : 2 ^ (g + 1) = 2 * 2 ^ g := by rw [Nat.pow_succ, Nat.mul_comm]
  have hs : (p % q != 0).toNat ≤ 1 := by cases (p % q != 0) <;> simp
  have h3 : stick p q / 2 ^ (g + 2) = p / q / 2 ^ (g + 1) := by
    unfold stick
    rw [e2, ← Nat.div_div_eq_div_mul]
    congr 1
    omega
  have h4 : stick p q % 2 ^ (g + 2) = 2 * (p / q % 2 ^ (g + 1)) + (p % q != 0).toNat := by
    unfold stick
    rw [e2]
    have hm := Nat.mod_lt (p / q) (show 0 < 2 ^ (g + 1) by omega)
    have hd := Nat.div_add_mod (p / q) (2 ^ (g + 1))
    generalize p / q % 2 ^ (g + 1) = r at *
    generalize p / q / 2 ^ (g + 1) = f at *
    rw [← hd]
    generalize 2 ^ (g + 1) = C at *
    generalize (p % q != 0).toNat = t at *
    rw [show 2 * (C * f + r) + t = 2 * r + t + 2 * C * f by rw [Nat.mul_add, Nat.mul_assoc]; omega, Nat.add_mul_mod_self_left, Nat.mod_eq_of_lt (by omega)]
  unfold rhe
  rw [h1, h2, h3, h4]
  congr 2
  generalize p / q / 2 ^ (g + 1) = f
  generalize p / q % 2 ^ (g + 1) = r
  rw [e2, e1]
  generalize 2 ^ g = G at *
  have k1 : (q * (2 * G) < 2 * (p % q + q * r)) ↔ (2 * (2 * G) < 2 * (2 * r + (p % q != 0).toNat)) := by
    by_cases hz : p % q = 0
    · rw [hz]
      simp only [bne_self_eq_false, Bool.toNat_false, Nat.add_zero, Nat.zero_add]
      rw [show q * (2 * G) = q * 2 * G by rw [Nat.mul_assoc], show 2 * (q * r) = q * 2 * r by rw [← Nat.mul_assoc, Nat.mul_comm 2 q]]
      constructor
      · intro h
        have := Nat.lt_of_mul_lt_mul_left h
        omega
      · intro h
        exact Nat.mul_lt_mul_of_pos_left (by omega) (by omega)
    · rw [show (p % q != 0) = true by simpa using hz]
      simp only [Bool.toNat_true]
      constructor
      · intro h
        have h5 : q * (2 * G) < q * (2 * (r + 1)) := by
          have : q * (2 * (r + 1)) = 2 * (q + q * r) := by rw [← Nat.mul_assoc, Nat.mul_comm q 2, Nat.mul_assoc, Nat.mul_add, Nat.mul_one, Nat.add_comm q]
          omega
        have := Nat.lt_of_mul_lt_mul_left h5
        omega
      · intro h
        have h5 : q * (2 * G) ≤ q * (2 * r) := Nat.mul_le_mul_left _ (by omega)
        have : q * (2 * r) = 2 * (q * r) := by rw [← Nat.mul_assoc, Nat.mul_comm q 2, Nat.mul_assoc]
        omega
  have k2 : (q * (2 * G) = 2 * (p % q + q * r)) ↔ (2 * (2 * G) = 2 * (2 * r + (p % q != 0).toNat)) := by
    by_cases hz : p % q = 0
    · rw [hz]
      simp only [bne_self_eq_false, Bool.toNat_false, Nat.add_zero, Nat.zero_add]
      rw [show q * (2 * G) = q * 2 * G by rw [Nat.mul_assoc], show 2 * (q * r) = q * 2 * r by rw [← Nat.mul_assoc, Nat.mul_comm 2 q]]
      constructor
      · intro h
        have := Nat.eq_of_mul_eq_mul_left (by omega) h
        omega
      · intro h
        have : G = r := by omega
        rw [this]
    · rw [show (p % q != 0) = true by simpa using hz]
      simp only [Bool.toNat_true]
      constructor
      · intro h
        exfalso
        have h5 : q * G = p % q + q * r := by
          have : q * (2 * G) = 2 * (q * G) := by rw [← Nat.mul_assoc, Nat.mul_comm q 2, Nat.mul_assoc]
          omega
        have h6 : (p % q + q * r) % q = p % q := by rw [Nat.add_mul_mod_self_left, Nat.mod_mod]
        rw [← h5, Nat.mul_mod_right] at h6
        omega
      · intro h
        omega
  have k3 : (q * (2 * G) == 2 * (p % q + q * r)) = (2 * (2 * G) == 2 * (2 * r + (p % q != 0).toNat)) := by rw [Bool.eq_iff_iff]; simpa using k2
  rw [k3]
  congr 1
  exact decide_eq_decide.2 k1
/-- Enough digits and one that stands for all the others are rounded as the whole. -/
theorem rung_stick (a b x y : Nat) (hb : 0 < b) (hA : 9007199254740992 ≤ a / b) : rung (a * 2 ^ (x + 1)) (b * 2 ^ y) = rung (stick a b * 2 ^ x) (2 ^ y) := by
  have hx : 0 < 2 ^ x := Nat.two_pow_pos x
  have hA0 : a / b ≠ 0 := by omega
  have hl53 : 53 ≤ (a / b).log2 := (Nat.le_log2 hA0).2 (by simpa using hA)
  have hs : (a % b != 0).toNat ≤ 1 := by cases (a % b != 0) <;> simp
  have hN0 : stick a b ≠ 0 := by unfold stick; omega
  have p1 := Nat.log2_self_le hA0
  have p2 : a / b < 2 ^ ((a / b).log2 + 1) := Nat.lt_log2_self
  have hNl : (stick a b).log2 = (a / b).log2 + 1 := by
    refine log2_between ?_ ?_
    · rw [Nat.pow_succ]; unfold stick; omega
    · rw [Nat.pow_succ]; unfold stick; omega
  have hBl : (a * 2 ^ (x + 1) / b).log2 = (a / b).log2 + (x + 1) := by
    have hd := Nat.div_add_mod a b
    have hr := Nat.mod_lt a hb
    refine log2_between ?_ ?_
    · rw [Nat.le_div_iff_mul_le hb, Nat.pow_add]
      have : 2 ^ (a / b).log2 * b ≤ a := by
        refine Nat.le_trans (Nat.mul_le_mul_right b p1) ?_
        exact Nat.div_mul_le_self a b
      rw [Nat.mul_right_comm]
      exact Nat.mul_le_mul_right _ this
    · rw [Nat.div_lt_iff_lt_mul hb, show (a / b).log2 + (x + 1) + 1 = ((a / b).log2 + 1) + (x + 1) by omega, Nat.pow_add 2 ((a / b).log2 + 1) (x + 1), Nat.mul_right_comm]
      refine Nat.mul_lt_mul_of_pos_right ?_ (Nat.two_pow_pos _)
      exact (Nat.div_lt_iff_lt_mul hb).1 p2
  have f1 : (a * 2 ^ (x + 1) / (b * 2 ^ y)).log2 - 52 = (a / b).log2 + (x + 1) - y - 52 := by
    rw [← Nat.div_div_eq_div_mul, log2_div_pow, hBl]
  have f2 : (stick a b * 2 ^ x / 2 ^ y).log2 - 52 = (a / b).log2 + (x + 1) - y - 52 := by
    rw [log2_div_pow, log2_mul_pow hN0, hNl]; omega
  unfold rung
  rw [f1, f2]
  generalize he : (a / b).log2 + (x + 1) - y - 52 = e
  congr 2
  obtain ⟨g, hg⟩ : ∃ g, y + e = g + 1 + (x + 1) := ⟨y + e - (x + 2), by omega⟩
  rw [Nat.mul_assoc, ← Nat.pow_add, hg, Nat.pow_add 2 (g + 1) (x + 1), ← Nat.mul_assoc, rhe_scale _ _ (Nat.two_pow_pos _), rhe_stick _ _ _ hb, show 2 ^ (g + 1) * 2 ^ (x + 1) = 2 ^ (g + 2) * 2 ^ x by rw [← Nat.pow_add, ← Nat.pow_add]; congr 1; omega, rhe_scale _ _ hx]
theorem rung_le (p q : Nat) : rung p q ≤ 9218868437227405312 := Nat.min_le_right _ _
theorem rung_not_nan (s : Bool) (p q : Nat) : isNan (D.word s (rung p q)) = false := word_not_nan s (rung_le p q)
/-- A float with just this value. -/
structure Is (a : Nat) (V : Int) : Prop where
  lt : a < 18446744073709551616
  fin : a % 9223372036854775808 < 9218868437227405312
  val : val (D.read a) = V
/-- A number, told in units of the least float, that a float has. -/
def Fits (n : Nat) : Prop := ∃ m u, n = m * 2 ^ u ∧ m < 9007199254740992 ∧ u ≤ 2045
theorem Is.nan {a : Nat} {V : Int} (h : Is a V) : isNan a = false := by have := h.fin; simp [isNan]; omega
theorem rung_fits_eq {m u : Nat} (h1 : m < 9007199254740992) (h2 : 4503599627370496 ≤ m ∨ u = 0) (h3 : u ≤ 2045) : rung (m * 2 ^ u) 1 = u * 4503599627370496 + m := by
  unfold rung
  have hl : (m * 2 ^ u / 1).log2 - 52 = u := by
    rw [Nat.div_one]
    by_cases h0 : m = 0
    · have : u = 0 := by omega
      subst h0 this; decide
    · rw [log2_mul_pow h0]
      have := (Nat.log2_lt h0).2 (show m < 2 ^ 53 by simpa using h1)
      rcases h2 with h2 | h2
      · have := (Nat.le_log2 h0).2 (show 2 ^ 52 ≤ m by simpa using h2)
        omega
      · omega
  rw [hl, Nat.one_mul, rhe_cut]
  have := cutS_scale m 0 u
  rw [Nat.zero_add] at this
  rw [this, cutS_zero]
  refine Nat.min_eq_left ?_
  omega
theorem read_word (s : Bool) {m u : Nat} (h1 : m < 9007199254740992) (h2 : 4503599627370496 ≤ m ∨ u = 0) (h3 : u ≤ 2045) : D.read (D.word s (u * 4503599627370496 + m)) = .number s m (u - 1074) := by
  obtain ⟨w1, w2, w3⟩ := word_mod s (r := u * 4503599627370496 + m) (by omega)
  rw [read_eq, w1, w2]
  by_cases h4 : u * 4503599627370496 + m < 4503599627370496
  · have : u = 0 := by omega
    subst this
    rw [if_pos h4]
    simp
  · have h5 : 4503599627370496 ≤ m := by rcases h2 with h2 | h2 <;> omega
    rw [if_neg h4, if_pos (by omega)]
    have e1 : (u * 4503599627370496 + m) / 4503599627370496 = u + 1 := by omega
    have e2 : (u * 4503599627370496 + m) % 4503599627370496 = m - 4503599627370496 := by omega
    have e3 : 4503599627370496 + (m - 4503599627370496) = m := by omega
    have e4 : (-1074 : Int) + ((u + 1 - 1 : Nat) : Int) = (u : Int) - 1074 := by omega
    rw [e1, e2, e3, e4]
theorem full_of {m u : Nat} (h1 : m < 9007199254740992) (h3 : u ≤ 2045) : ∃ M U, M * 2 ^ U = m * 2 ^ u ∧ M < 9007199254740992 ∧ (4503599627370496 ≤ M ∨ U = 0) ∧ U ≤ 2045 := by
  by_cases h0 : m = 0
  · exact ⟨0, 0, by simp [h0], by omega, .inr rfl, by omega⟩
  have hl := (Nat.log2_lt h0).2 (show m < 2 ^ 53 by simpa using h1)
  have p1 := Nat.log2_self_le h0
  have p2 : m < 2 ^ (m.log2 + 1) := Nat.lt_log2_self
  rcases Nat.lt_or_ge u (52 - m.log2) with h | h
  · refine ⟨m * 2 ^ u, 0, by simp, ?_, .inr rfl, by omega⟩
    have : m * 2 ^ u < 2 ^ (m.log2 + 1) * 2 ^ u := Nat.mul_lt_mul_of_pos_right p2 (Nat.two_pow_pos u)
    rw [← Nat.pow_add] at this
    have h4 : 2 ^ (m.log2 + 1 + u) ≤ 2 ^ 53 := Nat.pow_le_pow_right (by omega) (by omega)
    have h5 : (2 : Nat) ^ 53 = 9007199254740992 := by decide
    omega
  · obtain ⟨k, hk⟩ : ∃ k, m.log2 + k = 52 := ⟨52 - m.log2, by omega⟩
    refine ⟨m * 2 ^ k, u - k, ?_, ?_, .inl ?_, by omega⟩
    · rw [Nat.mul_assoc, ← Nat.pow_add]; congr 2; omega
    · have : m * 2 ^ k < 2 ^ (m.log2 + 1) * 2 ^ k := Nat.mul_lt_mul_of_pos_right p2 (Nat.two_pow_pos k)
      rw [← Nat.pow_add, show m.log2 + 1 + k = 53 by omega] at this
      simpa using this
    · have : 2 ^ m.log2 * 2 ^ k ≤ m * 2 ^ k := Nat.mul_le_mul_right _ p1
      rw [← Nat.pow_add, hk] at this
      simpa using this
/-- A number that fits is rounded to itself. -/
theorem is_rung (s : Bool) {n p q : Nat} (hq : 0 < q) (hp : p = n * q) (h : Fits n) : Is (D.word s (rung p q)) (if s then -(n : Int) else n) := by
  obtain ⟨m, u, rfl, h1, h2⟩ := h
  obtain ⟨M, U, e, k1, k2, k3⟩ := full_of h1 h2
  have hr : rung p q = U * 4503599627370496 + M := by
    rw [hp, ← e]
    have := rung_scale (M * 2 ^ U) 1 hq
    rw [Nat.one_mul] at this
    rw [this]
    exact rung_fits_eq k1 k2 k3
  rw [hr]
  obtain ⟨w1, w2, w3⟩ := word_mod s (r := U * 4503599627370496 + M) (by omega)
  refine ⟨w3, by rw [w1]; omega, ?_⟩
  rw [read_word s k1 k2 k3]
  simp only [val, signed]
  rw [show ((U : Int) - 1074 + 1074).toNat = U by omega, Nat.shiftLeft_eq, e]
end Go.Proofs.YtgdohmaljbggjaaGreatDoor.Fl
namespace Go.Proofs.YtgdohmaljbggjaaGreatDoor.Fl
open Ieee
theorem some_E74 : ∃ n : Nat, n = 1074 := ⟨_, rfl⟩
/-- 1074, told so that nobody reckons the power. -/
noncomputable def E74 : Nat := Classical.choose some_E74
theorem E74_is : E74 = 1074 := Classical.choose_spec some_E74
/-- The sign's bit. -/
def sg (a : Nat) : Bool := a / 9223372036854775808 % 2 == 1
/-- The number, told in units of the least float. -/
def V (a : Nat) : Int := val (D.read a)
theorem signed_is (s : Bool) (m u : Nat) : signed s m u = if s then -((m * 2 ^ u : Nat) : Int) else ((m * 2 ^ u : Nat) : Int) := by
  unfold signed; rw [Nat.shiftLeft_eq]
theorem signed_abs (s : Bool) (m u : Nat) : (signed s m u).natAbs = m * 2 ^ u := by
  rw [signed_is]; split <;> omega
theorem fin_read {a : Nat} (h : a % 9223372036854775808 < 9218868437227405312) :
    ∃ m i, D.read a = .number (sg a) m i ∧ m < 9007199254740992 ∧ -1074 ≤ i ∧ i ≤ 971 ∧ V a = signed (sg a) m (i + 1074).toNat ∧ (V a).natAbs = m * 2 ^ (i + 1074).toNat := by
  have hg := good_read (a := a) (by simp [isNan]; omega)
  have hr := read_eq a
  by_cases h1 : a % 9223372036854775808 < 4503599627370496
  · rw [if_pos h1] at hr
    refine ⟨_, _, hr, by omega, by omega, by omega, ?_, ?_⟩
    · unfold V; rw [hr]; rfl
    · unfold V; rw [hr]; exact signed_abs _ _ _
  · rw [if_neg h1, if_pos h] at hr
    rw [hr] at hg
    obtain ⟨g1, g2, g3⟩ := hg
    refine ⟨_, _, hr, g3, g1, g2, ?_, ?_⟩
    · unfold V; rw [hr]; rfl
    · unfold V; rw [hr]; exact signed_abs _ _ _
theorem V_sign {a : Nat} (h : a % 9223372036854775808 < 9218868437227405312) : V a = if sg a then -((V a).natAbs : Int) else (V a).natAbs := by
  obtain ⟨m, i, _, _, _, _, hv, ha⟩ := fin_read h
  rw [ha, ← signed_is, hv]
theorem word_sg (s : Bool) {r : Nat} (h : r < 9223372036854775808) : sg (D.word s r) = s := (word_mod s h).2.1
theorem rung_pow (m q : Nat) {x y x' y' : Nat} (h : x + y' = x' + y) : rung (m * 2 ^ x) (q * 2 ^ y) = rung (m * 2 ^ x') (q * 2 ^ y') := by
  rw [← rung_scale (m * 2 ^ x) (q * 2 ^ y) (Nat.two_pow_pos y'), ← rung_scale (m * 2 ^ x') (q * 2 ^ y') (Nat.two_pow_pos y)]
  rw [Nat.mul_assoc, Nat.mul_assoc, Nat.mul_assoc, Nat.mul_assoc, ← Nat.pow_add, ← Nat.pow_add, ← Nat.pow_add, ← Nat.pow_add, h, Nat.add_comm y y']
theorem some_word {s : Bool} {r r' : Nat} (h : r = r') : some (D.word s r) = some (D.word s r') := by rw [h]
theorem sum_num {s t : Bool} {m n : Nat} {i j : Int} (hi : -1074 ≤ i) (hj : -1074 ≤ j) :
    ∃ r b, Datum.sum (.number s m i) (.number t n j) = some (.number r b (min i j)) ∧ D.nearest r b (min i j) = D.word (if signed s m (i + 1074).toNat + signed t n (j + 1074).toNat = 0 then s && t else decide (signed s m (i + 1074).toNat + signed t n (j + 1074).toNat < 0)) (rung (signed s m (i + 1074).toNat + signed t n (j + 1074).toNat).natAbs 1) := by
  refine ⟨_, _, rfl, ?_⟩
  obtain ⟨k, hk⟩ : ∃ k : Nat, min i j = (k : Int) - 1074 := ⟨(min i j + 1074).toNat, by omega⟩
  have e1 : signed s m (i + 1074).toNat = signed s m (i - min i j).toNat * (2 ^ k : Nat) := by rw [signed_mul]; congr 1; omega
  have e2 : signed t n (j + 1074).toNat = signed t n (j - min i j).toNat * (2 ^ k : Nat) := by rw [signed_mul]; congr 1; omega
  rw [e1, e2, ← Int.add_mul]
  generalize signed s m (i - min i j).toNat + signed t n (j - min i j).toNat = T
  have hp : (0 : Int) < (2 ^ k : Nat) := by have := Nat.two_pow_pos k; omega
  have c1 : (T * (2 ^ k : Nat) = 0) ↔ T = 0 := by
    constructor
    · intro h; rcases Int.mul_eq_zero.1 h with h | h <;> omega
    · intro h; rw [h, Int.zero_mul]
  have c2 : (T * (2 ^ k : Nat) < 0) ↔ T < 0 := by
    constructor
    · intro h
      rcases Int.lt_or_le T 0 with h1 | h1
      · exact h1
      · have := Int.mul_nonneg h1 (Int.le_of_lt hp); omega
    · intro h; exact Int.mul_neg_of_neg_of_pos h hp
  rw [nearest_rung, Int.natAbs_mul, hk]
  simp only [c1, c2]
  rw [show ((k : Int) - 1074 + 1074).toNat = k by omega, show (-((k : Int) - 1074 + 1074)).toNat = 0 by omega, Nat.pow_zero, Int.natAbs_natCast]
theorem fadd_rung {a b : Nat} (ha : a % 9223372036854775808 < 9218868437227405312) (hb : b % 9223372036854775808 < 9218868437227405312) :
    D.add a b = some (D.word (if V a + V b = 0 then sg a && sg b else decide (V a + V b < 0)) (rung (V a + V b).natAbs 1)) := by
  obtain ⟨m, i, hr, _, hi, _, hv, _⟩ := fin_read ha
  obtain ⟨n, j, hr', _, hj, _, hv', _⟩ := fin_read hb
  obtain ⟨r, B, h1, h2⟩ := sum_num (s := sg a) (t := sg b) (m := m) (n := n) hi hj
  unfold Format.add
  rw [hr, hr', h1, hv, hv', ← h2]
  rfl
theorem fsub_rung {a b : Nat} (ha : a % 9223372036854775808 < 9218868437227405312) (hb : b % 9223372036854775808 < 9218868437227405312) :
    D.sub a b = some (D.word (if V a - V b = 0 then sg a && !sg b else decide (V a - V b < 0)) (rung (V a - V b).natAbs 1)) := by
  obtain ⟨m, i, hr, _, hi, _, hv, _⟩ := fin_read ha
  obtain ⟨n, j, hr', _, hj, _, hv', _⟩ := fin_read hb
  obtain ⟨r, B, h1, h2⟩ := sum_num (s := sg a) (t := !sg b) (m := m) (n := n) hi hj
  unfold Format.sub
  rw [hr, hr']
  simp only [Datum.opposite]
  rw [h1, hv, hv', Int.sub_eq_add_neg, ← signed_opp, ← h2]
  rfl
theorem fmul_rung {a b : Nat} (ha : a % 9223372036854775808 < 9218868437227405312) (hb : b % 9223372036854775808 < 9218868437227405312) :
    D.mul a b = some (D.word (sg a ^^ sg b) (rung ((V a).natAbs * (V b).natAbs) (2 ^ E74))) := by
  obtain ⟨m, i, hr, _, hi, _, hv, hA⟩ := fin_read ha
  obtain ⟨n, j, hr', _, hj, _, hv', hA'⟩ := fin_read hb
  unfold Format.mul
  rw [hr, hr', hA, hA']
  simp only [Datum.product, Option.map_some, Format.write]
  rw [nearest_rung]
  refine some_word ?_
  have e1 : m * 2 ^ (i + 1074).toNat * (n * 2 ^ (j + 1074).toNat) = m * n * 2 ^ ((i + 1074).toNat + (j + 1074).toNat) := by
    rw [Nat.pow_add]; ac_rfl
  have hE := E74_is
  rw [e1, ← Nat.one_mul (2 ^ (-(i + j + 1074)).toNat), ← Nat.one_mul (2 ^ E74)]
  exact rung_pow _ _ (by omega)
theorem stick_zero (q : Nat) : stick 0 q = 0 := by unfold stick; simp
theorem rung_zero (q : Nat) : rung 0 q = 0 := by unfold rung rhe; simp
theorem fdiv_rung {a b : Nat} (ha : a % 9223372036854775808 < 9218868437227405312) (hb : b % 9223372036854775808 < 9218868437227405312) (h0 : V b ≠ 0) :
    D.div a b = some (D.word (sg a ^^ sg b) (rung ((V a).natAbs * 2 ^ E74) (V b).natAbs)) := by
  obtain ⟨m, i, hr, hm, hi, _, hv, hA⟩ := fin_read ha
  obtain ⟨n, j, hr', hn, hj, _, hv', hA'⟩ := fin_read hb
  have hn0 : n ≠ 0 := by
    intro h; subst h; apply h0; rw [hv', signed_is]; simp
  unfold Format.div
  rw [hr, hr', hA, hA']
  simp only [Datum.quotient, if_neg hn0, Option.map_some, Format.write]
  have hstick : 2 * (m <<< (D.fractionBits + 2 + n.log2 - m.log2) / n) + (m <<< (D.fractionBits + 2 + n.log2 - m.log2) % n != 0).toNat = stick (m * 2 ^ (54 + n.log2 - m.log2)) n := by
    unfold stick; rw [Nat.shiftLeft_eq]; rfl
  rw [hstick, show D.fractionBits + 2 + n.log2 - m.log2 = 54 + n.log2 - m.log2 from rfl, nearest_rung]
  refine some_word ?_
  by_cases hm0 : m = 0
  · subst hm0
    simp only [Nat.zero_mul, stick_zero, rung_zero]
  have hl := (Nat.log2_lt hm0).2 (show m < 2 ^ 53 by simpa using hm)
  obtain ⟨k, hk⟩ : ∃ k, 54 + n.log2 - m.log2 = k := ⟨_, rfl⟩
  rw [hk]
  have hk2 : m.log2 + k = 54 + n.log2 := by omega
  have p1 := Nat.log2_self_le hm0
  have p2 : n < 2 ^ (n.log2 + 1) := Nat.lt_log2_self
  have hbig : 9007199254740992 ≤ m * 2 ^ k / n := by
    rw [Nat.le_div_iff_mul_le (by omega)]
    have q1 : 2 ^ m.log2 * 2 ^ k ≤ m * 2 ^ k := Nat.mul_le_mul_right _ p1
    rw [← Nat.pow_add, hk2, show 54 + n.log2 = 53 + (n.log2 + 1) by omega, Nat.pow_add] at q1
    have q2 : 2 ^ 53 * n ≤ 2 ^ 53 * 2 ^ (n.log2 + 1) := Nat.mul_le_mul_left _ (by omega)
    have q3 : (2 : Nat) ^ 53 = 9007199254740992 := by decide
    rw [q3] at q1 q2
    exact Nat.le_trans q2 q1
  obtain ⟨x, y, hxy⟩ : ∃ x y : Nat, (x : Int) - y = i - j - k - 1 + 1074 := ⟨(i - j - k - 1 + 1074).toNat, (-(i - j - k - 1 + 1074)).toNat, by omega⟩
  have e1 : rung (stick (m * 2 ^ k) n * 2 ^ (i - j - k - 1 + 1074).toNat) (2 ^ (-(i - j - k - 1 + 1074)).toNat) = rung (stick (m * 2 ^ k) n * 2 ^ x) (2 ^ y) := by
    rw [← Nat.one_mul (2 ^ (-(i - j - k - 1 + 1074)).toNat), ← Nat.one_mul (2 ^ y)]
    exact rung_pow _ _ (by omega)
  have hE := E74_is
  rw [e1, ← rung_stick _ _ _ _ (by omega) hbig, Nat.mul_assoc, Nat.mul_assoc, ← Nat.pow_add, ← Nat.pow_add]
  exact rung_pow _ _ (by omega)
theorem told_word (s : Bool) (p q : Nat) : told (D.word s (rung p q)) = D.word s (rung p q) := by unfold told; rw [rung_not_nan, if_neg (by decide)]
theorem is_V {a : Nat} {x : Int} (h : Is a x) : V a = x := h.val
theorem Is.of_eq {a : Nat} {x y : Int} (h : Is a x) (e : x = y) : Is a y := e ▸ h
theorem is_add {a b : Nat} {x y : Int} (ha : Is a x) (hb : Is b y) (h : Fits (x + y).natAbs) : Is (fadd a b) (x + y) := by
  unfold fadd
  rw [fadd_rung ha.fin hb.fin, is_V ha, is_V hb]
  show Is (D.word _ _) _
  refine (is_rung _ (by omega) (Nat.mul_one _).symm h).of_eq ?_
  by_cases h0 : x + y = 0
  · rw [h0]; simp
  · rw [if_neg h0]
    by_cases h1 : x + y < 0
    · rw [decide_eq_true h1, if_pos rfl]; omega
    · rw [decide_eq_false h1, if_neg (by simp)]; omega
theorem sign_mul {a b : Nat} {x y : Int} (ha : Is a x) (hb : Is b y) : x * y = if sg a ^^ sg b then -((x.natAbs * y.natAbs : Nat) : Int) else ((x.natAbs * y.natAbs : Nat) : Int) := by
  have h1 := V_sign ha.fin
  have h2 := V_sign hb.fin
  rw [is_V ha] at h1
  rw [is_V hb] at h2
  generalize x.natAbs = p at *
  generalize y.natAbs = q at *
  rw [h1, h2]
  push_cast
  cases sg a <;> cases sg b <;> simp [Int.neg_mul, Int.mul_neg]
theorem is_mul {a b : Nat} {x y z : Int} (ha : Is a x) (hb : Is b y) (hz : x * y = z * 2 ^ E74) (h : Fits z.natAbs) : Is (fmul a b) z := by
  unfold fmul
  rw [fmul_rung ha.fin hb.fin, is_V ha, is_V hb]
  show Is (D.word _ _) _
  have hs := sign_mul ha hb
  have hab : x.natAbs * y.natAbs = z.natAbs * 2 ^ E74 := by
    have := congrArg Int.natAbs hz
    rw [Int.natAbs_mul, Int.natAbs_mul, Int.natAbs_pow] at this
    exact this
  refine (is_rung _ (Nat.two_pow_pos _) hab h).of_eq ?_
  rw [hz, hab] at hs
  have hp : (0 : Int) < 2 ^ E74 := Int.pow_pos (by decide)
  have hc : ((z.natAbs * 2 ^ E74 : Nat) : Int) = (z.natAbs : Int) * 2 ^ E74 := by push_cast; rfl
  rw [hc] at hs
  generalize (2 : Int) ^ E74 = P at *
  by_cases hx : (sg a ^^ sg b) = true
  · rw [if_pos hx] at hs ⊢
    rw [← Int.neg_mul] at hs
    exact (Int.eq_of_mul_eq_mul_right (by omega) hs).symm
  · rw [if_neg hx] at hs ⊢
    exact (Int.eq_of_mul_eq_mul_right (by omega) hs).symm
theorem is_div {a b : Nat} {x y z : Int} (ha : Is a x) (hb : Is b y) (hy : y ≠ 0) (hz : x * 2 ^ E74 = z * y) (h : Fits z.natAbs) : Is (fdiv a b) z := by
  unfold fdiv
  rw [fdiv_rung ha.fin hb.fin (by rw [is_V hb]; exact hy), is_V ha, is_V hb]
  show Is (D.word _ _) _
  have hs := sign_mul ha hb
  have hab : x.natAbs * 2 ^ E74 = z.natAbs * y.natAbs := by
    have := congrArg Int.natAbs hz
    rw [Int.natAbs_mul, Int.natAbs_mul, Int.natAbs_pow] at this
    exact this
  refine (is_rung _ (by omega) hab h).of_eq ?_
  have hp : (0 : Int) < 2 ^ E74 := Int.pow_pos (by decide)
  generalize (2 : Int) ^ E74 = P at *
  have h1 : x * y * P = z * (y * y) := by
    rw [Int.mul_right_comm, hz, Int.mul_assoc]
  have hyy : 0 < y * y := by
    rcases Int.lt_or_gt_of_ne hy with hl | hg
    · exact Int.mul_pos_of_neg_of_neg hl hl
    · exact Int.mul_pos hg hg
  by_cases hx : (sg a ^^ sg b) = true
  · rw [if_pos hx] at hs ⊢
    have h2 : x * y ≤ 0 := by rw [hs]; omega
    have h3 : z * (y * y) ≤ 0 := by
      rw [← h1]
      have := Int.mul_le_mul_of_nonneg_right h2 (Int.le_of_lt hp)
      rwa [Int.zero_mul] at this
    have h4 : z ≤ 0 := by
      rcases Int.lt_or_le 0 z with h5 | h5
      · have := Int.mul_pos h5 hyy; omega
      · exact h5
    omega
  · rw [if_neg hx] at hs ⊢
    have h2 : 0 ≤ x * y := by rw [hs]; omega
    have h3 : 0 ≤ z * (y * y) := by rw [← h1]; exact Int.mul_nonneg h2 (Int.le_of_lt hp)
    have h4 : 0 ≤ z := by
      rcases Int.lt_or_le z 0 with h5 | h5
      · have := Int.mul_neg_of_neg_of_pos h5 hyy; omega
      · exact h5
    omega
theorem is_neg {a : Nat} {x : Int} (ha : Is a x) : Is (fneg a) (-x) := by
  have hn := ha.nan
  obtain ⟨h1, h2, h3⟩ := xor_mod ha.lt
  have e : fneg a = a ^^^ 9223372036854775808 := by unfold fneg told; rw [isNan_xor ha.lt, hn]; rfl
  refine ⟨by rw [e]; exact h3, by rw [e, h1]; exact ha.fin, ?_⟩
  rw [(fneg_key ha.lt hn).2, ha.val]
theorem is_cmp {a b : Nat} {x y : Int} (ha : Is a x) (hb : Is b y) : fcmp a b = (ordInt (compare x y), true) := by
  rw [fcmp_key ha.nan hb.nan, ha.val, hb.val]
/-- An integer as a float. -/
def fint (n : Int) : Nat := D.nearest (decide (n < 0)) n.natAbs 0
theorem fint_rung (n : Int) : fint n = D.word (decide (n < 0)) (rung (n.natAbs * 2 ^ E74) 1) := by
  unfold fint
  have hE := E74_is
  rw [nearest_rung, show ((0 : Int) + 1074).toNat = E74 by omega, show (-((0 : Int) + 1074)).toNat = 0 by omega, Nat.pow_zero]
theorem is_int {n : Int} (h : n.natAbs < 9007199254740992) : Is (fint n) (n * 2 ^ E74) := by
  have hE := E74_is
  rw [fint_rung]
  refine (is_rung _ (n := n.natAbs * 2 ^ E74) (by omega) (Nat.mul_one _).symm ⟨_, _, rfl, h, by omega⟩).of_eq ?_
  push_cast
  generalize (2 : Int) ^ E74 = P
  by_cases h1 : n < 0
  · rw [decide_eq_true h1, if_pos rfl, ← Int.neg_mul]; congr 1; omega
  · rw [decide_eq_false h1, if_neg (by simp)]; congr 1; omega
theorem fits_int {n : Int} (h : n.natAbs < 9007199254740992) : Fits (n * 2 ^ E74).natAbs := by
  have hE := E74_is
  rw [Int.natAbs_mul, Int.natAbs_pow]
  exact ⟨_, _, rfl, h, by omega⟩
/-- A number scaled where it fits. -/
theorem is_scale {a : Nat} {x : Int} {y : Int} {k : Int} (ha : Is a x) (hk : -3000 ≤ k ∧ k ≤ 3000) (h : x * 2 ^ k.toNat = y * 2 ^ (-k).toNat) (hf : Fits y.natAbs) : Is (fscale a k) y := by
  obtain ⟨m, i, hr, _, hi, _, hv, hA⟩ := fin_read ha.fin
  rw [fscale_eq _ ha.nan, show clamp k = k by unfold clamp; omega, hr]
  show Is (D.nearest (sg a) m (i + k)) y
  rw [nearest_rung]
  have hs := V_sign ha.fin
  rw [is_V ha] at hA hs
  have hab : x.natAbs * 2 ^ k.toNat = y.natAbs * 2 ^ (-k).toNat := by
    have := congrArg Int.natAbs h
    rw [Int.natAbs_mul, Int.natAbs_mul, Int.natAbs_pow, Int.natAbs_pow] at this
    exact this
  have e1 : rung (m * 2 ^ (i + k + 1074).toNat) (2 ^ (-(i + k + 1074)).toNat) = rung (x.natAbs * 2 ^ k.toNat) (2 ^ (-k).toNat) := by
    rw [hA, Nat.mul_assoc, ← Nat.pow_add, ← Nat.one_mul (2 ^ (-(i + k + 1074)).toNat), ← Nat.one_mul (2 ^ (-k).toNat)]
    exact rung_pow _ _ (by omega)
  rw [e1]
  refine (is_rung _ (Nat.two_pow_pos _) hab hf).of_eq ?_
  have p1 : (0 : Int) < 2 ^ k.toNat := Int.pow_pos (by decide)
  have p2 : (0 : Int) < 2 ^ (-k).toNat := Int.pow_pos (by decide)
  generalize (2 : Int) ^ k.toNat = P at *
  generalize (2 : Int) ^ (-k).toNat = Q at *
  cases hsg : sg a
  · rw [hsg, if_neg (by simp)] at hs
    rw [if_neg (by simp)]
    have h2 : 0 ≤ y * Q := by rw [← h]; exact Int.mul_nonneg (by omega) (Int.le_of_lt p1)
    have h4 : 0 ≤ y := by
      rcases Int.lt_or_le y 0 with h5 | h5
      · have := Int.mul_neg_of_neg_of_pos h5 p2; omega
      · exact h5
    omega
  · rw [hsg, if_pos rfl] at hs
    rw [if_pos rfl]
    have h2 : y * Q ≤ 0 := by
      rw [← h]
      have := Int.mul_le_mul_of_nonneg_right (show x ≤ 0 by omega) (Int.le_of_lt p1)
      rwa [Int.zero_mul] at this
    have h4 : y ≤ 0 := by
      rcases Int.lt_or_le 0 y with h5 | h5
      · have := Int.mul_pos h5 p2; omega
      · exact h5
    omega
end Go.Proofs.YtgdohmaljbggjaaGreatDoor.Fl
namespace Go.Proofs.YtgdohmaljbggjaaGreatDoor
open Go.RowKit
theorem bits_and1i {a : Nat} (ha : a < 9223372036854775808) : bits .and .i64 (a : Int) 1 = ((a % 2 : Nat) : Int) := by
  have h64 : (2 : Nat) ^ IntKind.i64.bits = 18446744073709551616 := rfl
  have e : (1 : Int) = ((1 : Nat) : Int) := rfl
  rw [e]
  simp only [bits, BitVec.ofInt_natCast, BitVec.toNat_and, BitVec.toNat_ofNat, h64]
  rw [Nat.mod_eq_of_lt (by omega), Nat.mod_eq_of_lt (show 1 < 18446744073709551616 by decide), Nat.and_one_is_mod, IntWalk.i64_in _ (by omega)]
theorem heap_alloc_at (w : World) (o : Obj) : (w.alloc o).heap[w.heap.size]? = some o := by
  show (w.heap.push o)[w.heap.size]? = some o
  simp
theorem ret2i {k k' : IntKind} {a b c d : Int} (h1 : a = c) (h2 : b = d) : Ending.returned (.tuple #[.int k a, .int k' b]) = .returned (.tuple #[.int k c, .int k' d]) := by rw [h1, h2]
namespace Pl
theorem mid_bounds {e : Int} (h1 : -1085 ≤ e) (h2 : e ≤ 960) : -348 ≤ -((e + 11) * 78913 / 262144) ∧ -((e + 11) * 78913 / 262144) ≤ 347 ∧ 1 ≤ -(e + -((e + 11) * 78913 / 262144) * 108853 / 32768 + 3) ∧ -(e + -((e + 11) * 78913 / 262144) * 108853 / 32768 + 3) ≤ 20 := by omega
theorem skew_bounds {e : Int} (h1 : -1085 ≤ e) (h2 : e ≤ 960) : -348 ≤ -(((e + 11) * 631305 - 261663) / 2097152) ∧ -(((e + 11) * 631305 - 261663) / 2097152) ≤ 347 ∧ 1 ≤ -(e + -(((e + 11) * 631305 - 261663) / 2097152) * 108853 / 32768 + 3) ∧ -(e + -(((e + 11) * 631305 - 261663) / 2097152) * 108853 / 32768 + 3) ≤ 20 := by omega
end Pl

set_option maxHeartbeats 2000000 in
set_option maxRecDepth 100000 in
theorem short_mid (m : Nat) (e : Int) (w : World) (h1 : 9223372036854775808 < m) (h2 : m ≤ 18446744073709549568) (he1 : -1085 ≤ e) (he2 : e ≤ 960) (ht : Tab w) (hsz : 13 < w.heap.size) :
    Calls Tryz.prog 179 #[.int .u64 m, .int .i64 e] w fun en w' => en = .returned (.tuple #[.int .u64 (Pl.shortF m e).1, .int .i64 (Pl.shortF m e).2]) ∧ Below w.heap.size w w' := by
  have hm : ((m : Int) == 9223372036854775808) = false := by rw [beq_eq_false_iff_ne]; omega
  go_enter Tryz.func179, Tryz.ntmps179
  go_wp2_with fail
  refine (log10Pow2_any _ _ (by omega) (by omega)).mono ?_
  rintro en w' ⟨rfl, rfl⟩
  have hand : bits .and .i64 ((m : Int) / 2048) 1 = ((m / 2048 % 2 : Nat) : Int) := bits_and1i (show m / 2048 < 9223372036854775808 by omega)
  go_wp2_with fail
  obtain ⟨b1, b2, b3, b4⟩ := Pl.mid_bounds he1 he2
  generalize hp : -((e + 11) * 78913 / 262144) = p at b1 b2 b3 b4 ⊢
  obtain ⟨mn, hmn⟩ : ∃ mn : Nat, (m : Int) - 1024 = mn := ⟨m - 1024, by omega⟩
  obtain ⟨mx, hmx⟩ : ∃ mx : Nat, (m : Int) + 1024 = mx := ⟨m + 1024, by omega⟩
  obtain ⟨odd, hodd⟩ : ∃ odd : Nat, (m : Int) / 2048 % 2 = odd := ⟨m / 2048 % 2, by omega⟩
  rw [hmn, hmx, hodd]
  have HM := Lib.hid (show m - 1024 = mn ∧ m + 1024 = mx ∧ m / 2048 % 2 = odd ∧ -((e + 11) * 78913 / 262144) = p from ⟨by omega, by omega, by omega, hp⟩)
  have hod : odd < 2 := by omega
  have hmn1 : 4611686018427387904 ≤ mn := by omega
  have hmn2 : mn < 18446744073709551616 := by omega
  have hmx1 : 4611686018427387904 ≤ mx := by omega
  have hmx2 : mx < 18446744073709551616 := by omega
  clear hmn hmx hodd hp hand
  have HF := Lib.hid (show Pl.shortF m e = Pl.sfTail m mn mx odd e p by obtain ⟨e1, e2, e3, e4⟩ := HM.out; unfold Pl.shortF; rw [if_neg (by omega), if_pos he1]; rw [e1, e2, e3, e4])
  clear HM
  refine (log2Pow10_any _ _ (by omega) (by omega)).mono ?_
  rintro en w' ⟨rfl, rfl⟩
  go_wp2_with fail
  refine (prescale_tab e p w.heap.size _ (v0 := .int .u64 0) (v1 := .int .u64 0) (v2 := .int .i64 0) (T := 225) ⟨by omega, by omega⟩ ⟨b1, b2⟩ (ht.below (B := w.heap.size) ((Below.refl _ _).alloc (Nat.le_refl _) _) hsz) (heap_alloc_at _ _) hsz).mono ?_
  rintro en w1 ⟨rfl, hsc, hb1, hz1⟩
  have hB : Below w.heap.size w w1 := ((Below.refl _ _).alloc (Nat.le_refl _) _).trans hb1
  clear hb1 hz1
  have hs1 : 1 ≤ Pl.sh e p := by unfold Pl.sh; omega
  have hs2 : Pl.sh e p ≤ 58 := by unfold Pl.sh; omega
  go_wp2_with fail
  refine (uscale_tab mn w.heap.size e p _ hmn2 ⟨b1, b2⟩ (by omega) (by omega) hsc).mono ?_
  rintro en w2 ⟨rfl, n2, rfl⟩
  have hu1 := Pl.scal_lt b1 b2 hs1 hmn2
  have hu2 := Pl.scal_ge b1 b2 hs2 hmn1 hmn2
  generalize hun : Pl.scal mn e p = un at hu1 hu2 ⊢
  have HUN := Lib.hid hun
  clear hun
  go_wp2_with fail
  refine (nudge_any un (un + odd) odd _ (by omega) (by omega) (by omega)).mono ?_
  rintro en w' ⟨rfl, rfl⟩
  go_wp2_with fail
  refine (ceil_any _ _ (by omega)).mono ?_
  rintro en w' ⟨rfl, rfl⟩
  generalize hdn : (un + odd + 3) / 4 = dn
  have hdn1 : dn ≤ 9223372036854775808 := by omega
  have HDN := Lib.hid hdn
  clear hdn
  go_wp2_with fail
  refine (uscale_tab mx w.heap.size e p _ hmx2 ⟨b1, b2⟩ (by omega) (by omega) (hsc.drewN _)).mono ?_
  rintro en w2 ⟨rfl, n3, rfl⟩
  have hv1 := Pl.scal_lt b1 b2 hs1 hmx2
  have hv2 := Pl.scal_ge b1 b2 hs2 hmx1 hmx2
  generalize hux : Pl.scal mx e p = ux at hv1 hv2 ⊢
  have HUX := Lib.hid hux
  clear hux
  go_wp2_with fail
  refine (nudge_any ux (ux - odd) _ _ (by omega) (by omega) (by omega)).mono ?_
  rintro en w' ⟨rfl, rfl⟩
  go_wp2_with fail
  refine (floor_any _ _ (by omega)).mono ?_
  rintro en w' ⟨rfl, rfl⟩
  generalize hdx : (ux - odd) / 4 = dx
  have hdx1 : dx ≤ 9223372036854775808 := by omega
  have HDX := Lib.hid hdx
  clear hdx
  have HG := Lib.hid (show Pl.sfTail m mn mx odd e p = if dn ≤ dx / 10 * 10 then (dx / 10, -(p - 1)) else if dn < dx then ((Pl.scal m e p + 1 + Pl.scal m e p / 4 % 2) / 4, -p) else (dn, -p) by unfold Pl.sfTail; rw [HUN.out, HUX.out, HDN.out, HDX.out])
  clear HUN HUX HDN HDX
  by_cases c1 : dn ≤ dx / 10 * 10
  · have HZ := Lib.hid (show Pl.shortF m e = (dx / 10, -(p - 1)) by rw [HF.out, HG.out, if_pos c1])
    clear HF HG
    go_wp2_with fail
    go_ret2
    exact ⟨by rw [HZ.out]; exact ret2i (by simp) (by simp), below_drewN hB _⟩
  · by_cases c2 : dn < dx
    · have HZ := Lib.hid (show Pl.shortF m e = ((Pl.scal m e p + 1 + Pl.scal m e p / 4 % 2) / 4, -p) by rw [HF.out, HG.out, if_neg c1, if_pos c2])
      clear HF HG
      go_wp2_with fail
      refine (uscale_tab m w.heap.size e p _ (by omega) ⟨b1, b2⟩ (by omega) (by omega) (hsc.drewN _)).mono ?_
      rintro en w2 ⟨rfl, n4, rfl⟩
      have hx1 := Pl.scal_lt b1 b2 hs1 (show m < 18446744073709551616 by omega)
      generalize Pl.scal m e p = um at hx1 HZ ⊢
      go_wp2_with fail
      refine (round_any _ _ (by omega)).mono ?_
      rintro en w' ⟨rfl, rfl⟩
      go_wp2_with fail
      go_ret2
      exact ⟨by rw [HZ.out]; exact ret2i (by simp) rfl, below_drewN hB _⟩
    · have HZ := Lib.hid (show Pl.shortF m e = (dn, -p) by rw [HF.out, HG.out, if_neg c1, if_neg c2])
      clear HF HG
      go_wp2_with fail
      go_ret2
      exact ⟨by rw [HZ.out]; exact ret2i (by simp) rfl, below_drewN hB _⟩

set_option maxHeartbeats 2000000 in
set_option maxRecDepth 100000 in
theorem short_skew (m : Nat) (e : Int) (w : World) (h1 : 9223372036854775808 ≤ m) (h2 : m ≤ 9223372036854775808) (he1 : -1085 < e) (he2 : e ≤ 960) (ht : Tab w) (hsz : 13 < w.heap.size) :
    Calls Tryz.prog 179 #[.int .u64 m, .int .i64 e] w fun en w' => en = .returned (.tuple #[.int .u64 (Pl.shortF m e).1, .int .i64 (Pl.shortF m e).2]) ∧ Below w.heap.size w w' := by
  have hm : ((m : Int) == 9223372036854775808) = true := by rw [beq_iff_eq]; omega
  go_enter Tryz.func179, Tryz.ntmps179
  go_wp2_with fail
  refine (skewed_any _ _ (by omega) (by omega)).mono ?_
  rintro en w' ⟨rfl, rfl⟩
  have hand : bits .and .i64 ((m : Int) / 2048) 1 = ((m / 2048 % 2 : Nat) : Int) := bits_and1i (show m / 2048 < 9223372036854775808 by omega)
  go_wp2_with fail
  obtain ⟨b1, b2, b3, b4⟩ := Pl.skew_bounds (show -1085 ≤ e by omega) he2
  generalize hp : -(((e + 11) * 631305 - 261663) / 2097152) = p at b1 b2 b3 b4 ⊢
  obtain ⟨mn, hmn⟩ : ∃ mn : Nat, (m : Int) - 512 = mn := ⟨m - 512, by omega⟩
  obtain ⟨mx, hmx⟩ : ∃ mx : Nat, (m : Int) + 1024 = mx := ⟨m + 1024, by omega⟩
  obtain ⟨odd, hodd⟩ : ∃ odd : Nat, (m : Int) / 2048 % 2 = odd := ⟨m / 2048 % 2, by omega⟩
  rw [hmn, hmx, hodd]
  have HM := Lib.hid (show m - 512 = mn ∧ m + 1024 = mx ∧ m / 2048 % 2 = odd ∧ -(((e + 11) * 631305 - 261663) / 2097152) = p from ⟨by omega, by omega, by omega, hp⟩)
  have hod : odd < 2 := by omega
  have hmn1 : 4611686018427387904 ≤ mn := by omega
  have hmn2 : mn < 18446744073709551616 := by omega
  have hmx1 : 4611686018427387904 ≤ mx := by omega
  have hmx2 : mx < 18446744073709551616 := by omega
  clear hmn hmx hodd hp hand
  have HF := Lib.hid (show Pl.shortF m e = Pl.sfTail m mn mx odd e p by obtain ⟨e1, e2, e3, e4⟩ := HM.out; unfold Pl.shortF; rw [if_pos (by omega)]; rw [e1, e2, e3, e4])
  clear HM
  refine (log2Pow10_any _ _ (by omega) (by omega)).mono ?_
  rintro en w' ⟨rfl, rfl⟩
  go_wp2_with fail
  refine (prescale_tab e p w.heap.size _ (v0 := .int .u64 0) (v1 := .int .u64 0) (v2 := .int .i64 0) (T := 225) ⟨by omega, by omega⟩ ⟨b1, b2⟩ (ht.below (B := w.heap.size) ((Below.refl _ _).alloc (Nat.le_refl _) _) hsz) (heap_alloc_at _ _) hsz).mono ?_
  rintro en w1 ⟨rfl, hsc, hb1, hz1⟩
  have hB : Below w.heap.size w w1 := ((Below.refl _ _).alloc (Nat.le_refl _) _).trans hb1
  clear hb1 hz1
  have hs1 : 1 ≤ Pl.sh e p := by unfold Pl.sh; omega
  have hs2 : Pl.sh e p ≤ 58 := by unfold Pl.sh; omega
  go_wp2_with fail
  refine (uscale_tab mn w.heap.size e p _ hmn2 ⟨b1, b2⟩ (by omega) (by omega) hsc).mono ?_
  rintro en w2 ⟨rfl, n2, rfl⟩
  have hu1 := Pl.scal_lt b1 b2 hs1 hmn2
  have hu2 := Pl.scal_ge b1 b2 hs2 hmn1 hmn2
  generalize hun : Pl.scal mn e p = un at hu1 hu2 ⊢
  have HUN := Lib.hid hun
  clear hun
  go_wp2_with fail
  refine (nudge_any un (un + odd) odd _ (by omega) (by omega) (by omega)).mono ?_
  rintro en w' ⟨rfl, rfl⟩
  go_wp2_with fail
  refine (ceil_any _ _ (by omega)).mono ?_
  rintro en w' ⟨rfl, rfl⟩
  generalize hdn : (un + odd + 3) / 4 = dn
  have hdn1 : dn ≤ 9223372036854775808 := by omega
  have HDN := Lib.hid hdn
  clear hdn
  go_wp2_with fail
  refine (uscale_tab mx w.heap.size e p _ hmx2 ⟨b1, b2⟩ (by omega) (by omega) (hsc.drewN _)).mono ?_
  rintro en w2 ⟨rfl, n3, rfl⟩
  have hv1 := Pl.scal_lt b1 b2 hs1 hmx2
  have hv2 := Pl.scal_ge b1 b2 hs2 hmx1 hmx2
  generalize hux : Pl.scal mx e p = ux at hv1 hv2 ⊢
  have HUX := Lib.hid hux
  clear hux
  go_wp2_with fail
  refine (nudge_any ux (ux - odd) _ _ (by omega) (by omega) (by omega)).mono ?_
  rintro en w' ⟨rfl, rfl⟩
  go_wp2_with fail
  refine (floor_any _ _ (by omega)).mono ?_
  rintro en w' ⟨rfl, rfl⟩
  generalize hdx : (ux - odd) / 4 = dx
  have hdx1 : dx ≤ 9223372036854775808 := by omega
  have HDX := Lib.hid hdx
  clear hdx
  have HG := Lib.hid (show Pl.sfTail m mn mx odd e p = if dn ≤ dx / 10 * 10 then (dx / 10, -(p - 1)) else if dn < dx then ((Pl.scal m e p + 1 + Pl.scal m e p / 4 % 2) / 4, -p) else (dn, -p) by unfold Pl.sfTail; rw [HUN.out, HUX.out, HDN.out, HDX.out])
  clear HUN HUX HDN HDX
  by_cases c1 : dn ≤ dx / 10 * 10
  · have HZ := Lib.hid (show Pl.shortF m e = (dx / 10, -(p - 1)) by rw [HF.out, HG.out, if_pos c1])
    clear HF HG
    go_wp2_with fail
    go_ret2
    exact ⟨by rw [HZ.out]; exact ret2i (by simp) (by simp), below_drewN hB _⟩
  · by_cases c2 : dn < dx
    · have HZ := Lib.hid (show Pl.shortF m e = ((Pl.scal m e p + 1 + Pl.scal m e p / 4 % 2) / 4, -p) by rw [HF.out, HG.out, if_neg c1, if_pos c2])
      clear HF HG
      go_wp2_with fail
      refine (uscale_tab m w.heap.size e p _ (by omega) ⟨b1, b2⟩ (by omega) (by omega) (hsc.drewN _)).mono ?_
      rintro en w2 ⟨rfl, n4, rfl⟩
      have hx1 := Pl.scal_lt b1 b2 hs1 (show m < 18446744073709551616 by omega)
      generalize Pl.scal m e p = um at hx1 HZ ⊢
      go_wp2_with fail
      refine (round_any _ _ (by omega)).mono ?_
      rintro en w' ⟨rfl, rfl⟩
      go_wp2_with fail
      go_ret2
      exact ⟨by rw [HZ.out]; exact ret2i (by simp) rfl, below_drewN hB _⟩
    · have HZ := Lib.hid (show Pl.shortF m e = (dn, -p) by rw [HF.out, HG.out, if_neg c1, if_neg c2])
      clear HF HG
      go_wp2_with fail
      go_ret2
      exact ⟨by rw [HZ.out]; exact ret2i (by simp) rfl, below_drewN hB _⟩

set_option maxHeartbeats 2000000 in
set_option maxRecDepth 100000 in
theorem short_edge (m : Nat) (e : Int) (w : World) (h1 : 9223372036854775808 ≤ m) (h2 : m ≤ 9223372036854775808) (he1 : -1085 ≤ e) (he2 : e ≤ -1085) (ht : Tab w) (hsz : 13 < w.heap.size) :
    Calls Tryz.prog 179 #[.int .u64 m, .int .i64 e] w fun en w' => en = .returned (.tuple #[.int .u64 (Pl.shortF m e).1, .int .i64 (Pl.shortF m e).2]) ∧ Below w.heap.size w w' := by
  have hm : ((m : Int) == 9223372036854775808) = true := by rw [beq_iff_eq]; omega
  go_enter Tryz.func179, Tryz.ntmps179
  go_wp2_with fail
  refine (log10Pow2_any _ _ (by omega) (by omega)).mono ?_
  rintro en w' ⟨rfl, rfl⟩
  have hand : bits .and .i64 ((m : Int) / 2048) 1 = ((m / 2048 % 2 : Nat) : Int) := bits_and1i (show m / 2048 < 9223372036854775808 by omega)
  go_wp2_with fail
  obtain ⟨b1, b2, b3, b4⟩ := Pl.mid_bounds he1 (show e ≤ 960 by omega)
  generalize hp : -((e + 11) * 78913 / 262144) = p at b1 b2 b3 b4 ⊢
  obtain ⟨mn, hmn⟩ : ∃ mn : Nat, (m : Int) - 1024 = mn := ⟨m - 1024, by omega⟩
  obtain ⟨mx, hmx⟩ : ∃ mx : Nat, (m : Int) + 1024 = mx := ⟨m + 1024, by omega⟩
  obtain ⟨odd, hodd⟩ : ∃ odd : Nat, (m : Int) / 2048 % 2 = odd := ⟨m / 2048 % 2, by omega⟩
  rw [hmn, hmx, hodd]
  have HM := Lib.hid (show m - 1024 = mn ∧ m + 1024 = mx ∧ m / 2048 % 2 = odd ∧ -((e + 11) * 78913 / 262144) = p from ⟨by omega, by omega, by omega, hp⟩)
  have hod : odd < 2 := by omega
  have hmn1 : 4611686018427387904 ≤ mn := by omega
  have hmn2 : mn < 18446744073709551616 := by omega
  have hmx1 : 4611686018427387904 ≤ mx := by omega
  have hmx2 : mx < 18446744073709551616 := by omega
  clear hmn hmx hodd hp hand
  have HF := Lib.hid (show Pl.shortF m e = Pl.sfTail m mn mx odd e p by obtain ⟨e1, e2, e3, e4⟩ := HM.out; unfold Pl.shortF; rw [if_neg (by omega), if_pos he1]; rw [e1, e2, e3, e4])
  clear HM
  refine (log2Pow10_any _ _ (by omega) (by omega)).mono ?_
  rintro en w' ⟨rfl, rfl⟩
  go_wp2_with fail
  refine (prescale_tab e p w.heap.size _ (v0 := .int .u64 0) (v1 := .int .u64 0) (v2 := .int .i64 0) (T := 225) ⟨by omega, by omega⟩ ⟨b1, b2⟩ (ht.below (B := w.heap.size) ((Below.refl _ _).alloc (Nat.le_refl _) _) hsz) (heap_alloc_at _ _) hsz).mono ?_
  rintro en w1 ⟨rfl, hsc, hb1, hz1⟩
  have hB : Below w.heap.size w w1 := ((Below.refl _ _).alloc (Nat.le_refl _) _).trans hb1
  clear hb1 hz1
  have hs1 : 1 ≤ Pl.sh e p := by unfold Pl.sh; omega
  have hs2 : Pl.sh e p ≤ 58 := by unfold Pl.sh; omega
  go_wp2_with fail
  refine (uscale_tab mn w.heap.size e p _ hmn2 ⟨b1, b2⟩ (by omega) (by omega) hsc).mono ?_
  rintro en w2 ⟨rfl, n2, rfl⟩
  have hu1 := Pl.scal_lt b1 b2 hs1 hmn2
  have hu2 := Pl.scal_ge b1 b2 hs2 hmn1 hmn2
  generalize hun : Pl.scal mn e p = un at hu1 hu2 ⊢
  have HUN := Lib.hid hun
  clear hun
  go_wp2_with fail
  refine (nudge_any un (un + odd) odd _ (by omega) (by omega) (by omega)).mono ?_
  rintro en w' ⟨rfl, rfl⟩
  go_wp2_with fail
  refine (ceil_any _ _ (by omega)).mono ?_
  rintro en w' ⟨rfl, rfl⟩
  generalize hdn : (un + odd + 3) / 4 = dn
  have hdn1 : dn ≤ 9223372036854775808 := by omega
  have HDN := Lib.hid hdn
  clear hdn
  go_wp2_with fail
  refine (uscale_tab mx w.heap.size e p _ hmx2 ⟨b1, b2⟩ (by omega) (by omega) (hsc.drewN _)).mono ?_
  rintro en w2 ⟨rfl, n3, rfl⟩
  have hv1 := Pl.scal_lt b1 b2 hs1 hmx2
  have hv2 := Pl.scal_ge b1 b2 hs2 hmx1 hmx2
  generalize hux : Pl.scal mx e p = ux at hv1 hv2 ⊢
  have HUX := Lib.hid hux
  clear hux
  go_wp2_with fail
  refine (nudge_any ux (ux - odd) _ _ (by omega) (by omega) (by omega)).mono ?_
  rintro en w' ⟨rfl, rfl⟩
  go_wp2_with fail
  refine (floor_any _ _ (by omega)).mono ?_
  rintro en w' ⟨rfl, rfl⟩
  generalize hdx : (ux - odd) / 4 = dx
  have hdx1 : dx ≤ 9223372036854775808 := by omega
  have HDX := Lib.hid hdx
  clear hdx
  have HG := Lib.hid (show Pl.sfTail m mn mx odd e p = if dn ≤ dx / 10 * 10 then (dx / 10, -(p - 1)) else if dn < dx then ((Pl.scal m e p + 1 + Pl.scal m e p / 4 % 2) / 4, -p) else (dn, -p) by unfold Pl.sfTail; rw [HUN.out, HUX.out, HDN.out, HDX.out])
  clear HUN HUX HDN HDX
  by_cases c1 : dn ≤ dx / 10 * 10
  · have HZ := Lib.hid (show Pl.shortF m e = (dx / 10, -(p - 1)) by rw [HF.out, HG.out, if_pos c1])
    clear HF HG
    go_wp2_with fail
    go_ret2
    exact ⟨by rw [HZ.out]; exact ret2i (by simp) (by simp), below_drewN hB _⟩
  · by_cases c2 : dn < dx
    · have HZ := Lib.hid (show Pl.shortF m e = ((Pl.scal m e p + 1 + Pl.scal m e p / 4 % 2) / 4, -p) by rw [HF.out, HG.out, if_neg c1, if_pos c2])
      clear HF HG
      go_wp2_with fail
      refine (uscale_tab m w.heap.size e p _ (by omega) ⟨b1, b2⟩ (by omega) (by omega) (hsc.drewN _)).mono ?_
      rintro en w2 ⟨rfl, n4, rfl⟩
      have hx1 := Pl.scal_lt b1 b2 hs1 (show m < 18446744073709551616 by omega)
      generalize Pl.scal m e p = um at hx1 HZ ⊢
      go_wp2_with fail
      refine (round_any _ _ (by omega)).mono ?_
      rintro en w' ⟨rfl, rfl⟩
      go_wp2_with fail
      go_ret2
      exact ⟨by rw [HZ.out]; exact ret2i (by simp) rfl, below_drewN hB _⟩
    · have HZ := Lib.hid (show Pl.shortF m e = (dn, -p) by rw [HF.out, HG.out, if_neg c1, if_neg c2])
      clear HF HG
      go_wp2_with fail
      go_ret2
      exact ⟨by rw [HZ.out]; exact ret2i (by simp) rfl, below_drewN hB _⟩
end Go.Proofs.YtgdohmaljbggjaaGreatDoor
