/- Plain facts: sums, products and quotients of floats are the exact ones, rounded once; where they fit they are exact. Plain: whole numbers times and by powers of ten, as floats. Plain: the exact road of reading: what stays small is exact. Plain: unrounded scaling is exact: two near multiples of each power of ten bound all others (checked by the kernel, row by row). -/
import Derived.Test.YtpilniljhmkedaaGreatDoorRaam
import Derived.Test.YtpilniljhmkedaaGreatDoorRaac
namespace Go.Proofs.YtpilniljhmkedaaGreatDoor.Fl
open Ieee
theorem some_E74 : ∃ n : Nat, n = 1074 := ⟨_, rfl⟩
/-- 1074, told so that nobody reckons the power. -/
noncomputable def E74 : Nat := Classical.choose some_E74
theorem E74_is : E74 = 1074 := Classical.choose_spec some_E74
/-- The sign's bit. -/
def sg (a : Nat) : Bool := a / 9223372036854775808 % 2 == 1
/-- The number, told in units of the least float. -/
def V (a : Nat) : Int := val (D.read a)
theorem signed_is (s : Bool) (m u : Nat) : signed s m u = if s then -((m * 2 ^ u : Nat) : Int) else ((m * 2 ^ u : Nat) : Int) := by
  unfold signed; rw [Nat.shiftLeft_eq]
theorem signed_abs (s : Bool) (m u : Nat) : (signed s m u).natAbs = m * 2 ^ u := by
  rw [signed_is]; split <;> omega
theorem fin_read {a : Nat} (h : a % 9223372036854775808 < 9218868437227405312) :
    ∃ m i, D.read a = .number (sg a) m i ∧ m < 9007199254740992 ∧ -1074 ≤ i ∧ i ≤ 971 ∧ V a = signed (sg a) m (i + 1074).toNat ∧ (V a).natAbs = m * 2 ^ (i + 1074).toNat := by
  have hg := good_read (a := a) (by simp [isNan]; omega)
  have hr := read_eq a
  by_cases h1 : a % 9223372036854775808 < 4503599627370496
  · rw [if_pos h1] at hr
    refine ⟨_, _, hr, by omega, by omega, by omega, ?_, ?_⟩
    · unfold V; rw [hr]; rfl
    · unfold V; rw [hr]; exact signed_abs _ _ _
  · rw [if_neg h1, if_pos h] at hr
    rw [hr] at hg
    obtain ⟨g1, g2, g3⟩ := hg
    refine ⟨_, _, hr, g3, g1, g2, ?_, ?_⟩
    · unfold V; rw [hr]; rfl
    · unfold V; rw [hr]; exact signed_abs _ _ _
theorem V_sign {a : Nat} (h : a % 9223372036854775808 < 9218868437227405312) : V a = if sg a then -((V a).natAbs : Int) else (V a).natAbs := by
  obtain ⟨m, i, _, _, _, _, hv, ha⟩ := fin_read h
  rw [ha, ← signed_is, hv]
theorem word_sg (s : Bool) {r : Nat} (h : r < 9223372036854775808) : sg (D.word s r) = s := (word_mod s h).2.1
theorem rung_pow (m q : Nat) {x y x' y' : Nat} (h : x + y' = x' + y) : rung (m * 2 ^ x) (q * 2 ^ y) = rung (m * 2 ^ x') (q * 2 ^ y') := by
  rw [← rung_scale (m * 2 ^ x) (q * 2 ^ y) (Nat.two_pow_pos y'), ← rung_scale (m * 2 ^ x') (q * 2 ^ y') (Nat.two_pow_pos y)]
  rw [Nat.mul_assoc, Nat.mul_assoc, Nat.mul_assoc, Nat.mul_assoc, ← Nat.pow_add, ← Nat.pow_add, ← Nat.pow_add, ← Nat.pow_add, h, Nat.add_comm y y']
theorem some_word {s : Bool} {r r' : Nat} (h : r = r') : some (D.word s r) = some (D.word s r') := by rw [h]
theorem sum_num {s t : Bool} {m n : Nat} {i j : Int} (hi : -1074 ≤ i) (hj : -1074 ≤ j) :
    ∃ r b, Datum.sum (.number s m i) (.number t n j) = some (.number r b (min i j)) ∧ D.nearest r b (min i j) = D.word (if signed s m (i + 1074).toNat + signed t n (j + 1074).toNat = 0 then s && t else decide (signed s m (i + 1074).toNat + signed t n (j + 1074).toNat < 0)) (rung (signed s m (i + 1074).toNat + signed t n (j + 1074).toNat).natAbs 1) := by
  refine ⟨_, _, rfl, ?_⟩
  obtain ⟨k, hk⟩ : ∃ k : Nat, min i j = (k : Int) - 1074 := ⟨(min i j + 1074).toNat, by omega⟩
  have e1 : signed s m (i + 1074).toNat = signed s m (i - min i j).toNat * (2 ^ k : Nat) := by rw [signed_mul]; congr 1; omega
  have e2 : signed t n (j + 1074).toNat = signed t n (j - min i j).toNat * (2 ^ k : Nat) := by rw [signed_mul]; congr 1; omega
  rw [e1, e2, ← Int.add_mul]
  generalize signed s m (i - min i j).toNat + signed t n (j - min i j).toNat = T
  have hp : (0 : Int) < (2 ^ k : Nat) := by have := Nat.two_pow_pos k; omega
  have c1 : (T * (2 ^ k : Nat) = 0) ↔ T = 0 := by
    constructor
    · intro h; rcases Int.mul_eq_zero.1 h with h | h <;> omega
    · intro h; rw [h, Int.zero_mul]
  have c2 : (T * (2 ^ k : Nat) < 0) ↔ T < 0 := by
    constructor
    · intro h
      rcases Int.lt_or_le T 0 with h1 | h1
      · exact h1
      · have := Int.mul_nonneg h1 (Int.le_of_lt hp); omega
    · intro h; exact Int.mul_neg_of_neg_of_pos h hp
  rw [nearest_rung, Int.natAbs_mul, hk]
  simp only [c1, c2]
  rw [show ((k : Int) - 1074 + 1074).toNat = k by omega, show (-((k : Int) - 1074 + 1074)).toNat = 0 by omega, Nat.pow_zero, Int.natAbs_natCast]
theorem fadd_rung {a b : Nat} (ha : a % 9223372036854775808 < 9218868437227405312) (hb : b % 9223372036854775808 < 9218868437227405312) :
    D.add a b = some (D.word (if V a + V b = 0 then sg a && sg b else decide (V a + V b < 0)) (rung (V a + V b).natAbs 1)) := by
  obtain ⟨m, i, hr, _, hi, _, hv, _⟩ := fin_read ha
  obtain ⟨n, j, hr', _, hj, _, hv', _⟩ := fin_read hb
  obtain ⟨r, B, h1, h2⟩ := sum_num (s := sg a) (t := sg b) (m := m) (n := n) hi hj
  unfold Format.add
  rw [hr, hr', h1, hv, hv', ← h2]
  rfl
theorem fsub_rung {a b : Nat} (ha : a % 9223372036854775808 < 9218868437227405312) (hb : b % 9223372036854775808 < 9218868437227405312) :
    D.sub a b = some (D.word (if V a - V b = 0 then sg a && !sg b else decide (V a - V b < 0)) (rung (V a - V b).natAbs 1)) := by
  obtain ⟨m, i, hr, _, hi, _, hv, _⟩ := fin_read ha
  obtain ⟨n, j, hr', _, hj, _, hv', _⟩ := fin_read hb
  obtain ⟨r, B, h1, h2⟩ := sum_num (s := sg a) (t := !sg b) (m := m) (n := n) hi hj
  unfold Format.sub
  rw [hr, hr']
  simp only [Datum.opposite]
  rw [h1, hv, hv', Int.sub_eq_add_neg, ← signed_opp, ← h2]
  rfl
theorem fmul_rung {a b : Nat} (ha : a % 9223372036854775808 < 9218868437227405312) (hb : b % 9223372036854775808 < 9218868437227405312) :
    D.mul a b = some (D.word (sg a ^^ sg b) (rung ((V a).natAbs * (V b).natAbs) (2 ^ E74))) := by
  obtain ⟨m, i, hr, _, hi, _, hv, hA⟩ := fin_read ha
  obtain ⟨n, j, hr', _, hj, _, hv', hA'⟩ := fin_read hb
  unfold Format.mul
  rw [hr, hr', hA, hA']
  simp only [Datum.product, Option.map_some, Format.write]
  rw [nearest_rung]
  refine some_word ?_
  have e1 : m * 2 ^ (i + 1074).toNat * (n * 2 ^ (j + 1074).toNat) = m * n * 2 ^ ((i + 1074).toNat + (j + 1074).toNat) := by
    rw [Nat.pow_add]; ac_rfl
  have hE := E74_is
  rw [e1, ← Nat.one_mul (2 ^ (-(i + j + 1074)).toNat), ← Nat.one_mul (2 ^ E74)]
  exact rung_pow _ _ (by omega)
theorem stick_zero (q : Nat) : stick 0 q = 0 := by unfold stick; simp
theorem rung_zero (q : Nat) : rung 0 q = 0 := by unfold rung rhe; simp
theorem fdiv_rung {a b : Nat} (ha : a % 9223372036854775808 < 9218868437227405312) (hb : b % 9223372036854775808 < 9218868437227405312) (h0 : V b ≠ 0) :
    D.div a b = some (D.word (sg a ^^ sg b) (rung ((V a).natAbs * 2 ^ E74) (V b).natAbs)) := by
  obtain ⟨m, i, hr, hm, hi, _, hv, hA⟩ := fin_read ha
  obtain ⟨n, j, hr', hn, hj, _, hv', hA'⟩ := fin_read hb
  have hn0 : n ≠ 0 := by
    intro h; subst h; apply h0; rw [hv', signed_is]; simp
  unfold Format.div
  rw [hr, hr', hA, hA']
  simp only [Datum.quotient, if_neg hn0, Option.map_some, Format.write]
  have hstick : 2 * (m <<< (D.fractionBits + 2 + n.log2 - m.log2) / n) + (m <<< (D.fractionBits + 2 + n.log2 - m.log2) % n != 0).toNat = stick (m * 2 ^ (54 + n.log2 - m.log2)) n := by
    unfold stick; rw [Nat.shiftLeft_eq]; rfl
  rw [hstick, show D.fractionBits + 2 + n.log2 - m.log2 = 54 + n.log2 - m.log2 from rfl, nearest_rung]
  refine some_word ?_
  by_cases hm0 : m = 0
  · subst hm0
    simp only [Nat.zero_mul, stick_zero, rung_zero]
  have hl := (Nat.log2_lt hm0).2 (show m < 2 ^ 53 by simpa using hm)
  obtain ⟨k, hk⟩ : ∃ k, 54 + n.log2 - m.log2 = k := ⟨_, rfl⟩
  rw [hk]
  have hk2 : m.log2 + k = 54 + n.log2 := by omega
  have p1 := Nat.log2_self_le hm0
  have p2 : n < 2 ^ (n.log2 + 1) := Nat.lt_log2_self
  have hbig : 9007199254740992 ≤ m * 2 ^ k / n := by
    rw [Nat.le_div_iff_mul_le (by omega)]
    have q1 : 2 ^ m.log2 * 2 ^ k ≤ m * 2 ^ k := Nat.mul_le_mul_right _ p1
    rw [← Nat.pow_add, hk2, show 54 + n.log2 = 53 + (n.log2 + 1) by omega, Nat.pow_add] at q1
    have q2 : 2 ^ 53 * n ≤ 2 ^ 53 * 2 ^ (n.log2 + 1) := Nat.mul_le_mul_left _ (by omega)
    have q3 : (2 : Nat) ^ 53 = 9007199254740992 := by decide
    rw [q3] at q1 q2
    exact Nat.le_trans q2 q1
  obtain ⟨x, y, hxy⟩ : ∃ x y : Nat, (x : Int) - y = i - j - k - 1 + 1074 := ⟨(i - j - k - 1 + 1074).toNat, (-(i - j - k - 1 + 1074)).toNat, by omega⟩
  have e1 : rung (stick (m * 2 ^ k) n * 2 ^ (i - j - k - 1 + 1074).toNat) (2 ^ (-(i - j - k - 1 + 1074)).toNat) = rung (stick (m * 2 ^ k) n * 2 ^ x) (2 ^ y) := by
    rw [← Nat.one_mul (2 ^ (-(i - j - k - 1 + 1074)).toNat), ← Nat.one_mul (2 ^ y)]
    exact rung_pow _ _ (by omega)
  have hE := E74_is
  rw [e1, ← rung_stick _ _ _ _ (by omega) hbig, Nat.mul_assoc, Nat.mul_assoc, ← Nat.pow_add, ← Nat.pow_add]
  exact rung_pow _ _ (by omega)
theorem told_word (s : Bool) (p q : Nat) : told (D.word s (rung p q)) = D.word s (rung p q) := by unfold told; rw [rung_not_nan, if_neg (by decide)]
theorem is_V {a : Nat} {x : Int} (h : Is a x) : V a = x := h.val
theorem Is.of_eq {a : Nat} {x y : Int} (h : Is a x) (e : x = y) : Is a y := e ▸ h
theorem is_add {a b : Nat} {x y : Int} (ha : Is a x) (hb : Is b y) (h : Fits (x + y).natAbs) : Is (fadd a b) (x + y) := by
  unfold fadd
  rw [fadd_rung ha.fin hb.fin, is_V ha, is_V hb]
  show Is (D.word _ _) _
  refine (is_rung _ (by omega) (Nat.mul_one _).symm h).of_eq ?_
  by_cases h0 : x + y = 0
  · rw [h0]; simp
  · rw [if_neg h0]
    by_cases h1 : x + y < 0
    · rw [decide_eq_true h1, if_pos rfl]; omega
    · rw [decide_eq_false h1, if_neg (by simp)]; omega
theorem sign_mul {a b : Nat} {x y : Int} (ha : Is a x) (hb : Is b y) : x * y = if sg a ^^ sg b then -((x.natAbs * y.natAbs : Nat) : Int) else ((x.natAbs * y.natAbs : Nat) : Int) := by
  have h1 := V_sign ha.fin
  have h2 := V_sign hb.fin
  rw [is_V ha] at h1
  rw [is_V hb] at h2
  generalize x.natAbs = p at *
  generalize y.natAbs = q at *
  rw [h1, h2]
  push_cast
  cases sg a <;> cases sg b <;> simp [Int.neg_mul, Int.mul_neg]
theorem is_mul {a b : Nat} {x y z : Int} (ha : Is a x) (hb : Is b y) (hz : x * y = z * 2 ^ E74) (h : Fits z.natAbs) : Is (fmul a b) z := by
  unfold fmul
  rw [fmul_rung ha.fin hb.fin, is_V ha, is_V hb]
  show Is (D.word _ _) _
  have hs := sign_mul ha hb
  have hab : x.natAbs * y.natAbs = z.natAbs * 2 ^ E74 := by
    have := congrArg Int.natAbs hz
    rw [Int.natAbs_mul, Int.natAbs_mul, Int.natAbs_pow] at this
    exact this
  refine (is_rung _ (Nat.two_pow_pos _) hab h).of_eq ?_
  rw [hz, hab] at hs
  have hp : (0 : Int) < 2 ^ E74 := Int.pow_pos (by decide)
  have hc : ((z.natAbs * 2 ^ E74 : Nat) : Int) = (z.natAbs : Int) * 2 ^ E74 := by push_cast; rfl
  rw [hc] at hs
  generalize (2 : Int) ^ E74 = P at *
  by_cases hx : (sg a ^^ sg b) = true
  · rw [if_pos hx] at hs ⊢
    rw [← Int.neg_mul] at hs
    exact (Int.eq_of_mul_eq_mul_right (by omega) hs).symm
  · rw [if_neg hx] at hs ⊢
    exact (Int.eq_of_mul_eq_mul_right (by omega) hs).symm
theorem is_div {a b : Nat} {x y z : Int} (ha : Is a x) (hb : Is b y) (hy : y ≠ 0) (hz : x * 2 ^ E74 = z * y) (h : Fits z.natAbs) : Is (fdiv a b) z := by
  unfold fdiv
  rw [fdiv_rung ha.fin hb.fin (by rw [is_V hb]; exact hy), is_V ha, is_V hb]
  show Is (D.word _ _) _
  have hs := sign_mul ha hb
  have hab : x.natAbs * 2 ^ E74 = z.natAbs * y.natAbs := by
    have := congrArg Int.natAbs hz
    rw [Int.natAbs_mul, Int.natAbs_mul, Int.natAbs_pow] at this
    exact this
  refine (is_rung _ (by omega) hab h).of_eq ?_
  have hp : (0 : Int) < 2 ^ E74 := Int.pow_pos (by decide)
  generalize (2 : Int) ^ E74 = P at *
  have h1 : x * y * P = z * (y * y) := by
    rw [Int.mul_right_comm, hz, Int.mul_assoc]
  have hyy : 0 < y * y := by
    rcases Int.lt_or_gt_of_ne hy with hl | hg
    · exact Int.mul_pos_of_neg_of_neg hl hl
    · exact Int.mul_pos hg hg
  by_cases hx : (sg a ^^ sg b) = true
  · rw [if_pos hx] at hs ⊢
    have h2 : x * y ≤ 0 := by rw [hs]; omega
    have h3 : z * (y * y) ≤ 0 := by
      rw [← h1]
      have := Int.mul_le_mul_of_nonneg_right h2 (Int.le_of_lt hp)
      rwa [Int.zero_mul] at this
    have h4 : z ≤ 0 := by
      rcases Int.lt_or_le 0 z with h5 | h5
      · have := Int.mul_pos h5 hyy; omega
      · exact h5
    omega
  · rw [if_neg hx] at hs ⊢
    have h2 : 0 ≤ x * y := by rw [hs]; omega
    have h3 : 0 ≤ z * (y * y) := by rw [← h1]; exact Int.mul_nonneg h2 (Int.le_of_lt hp)
    have h4 : 0 ≤ z := by
      rcases Int.lt_or_le z 0 with h5 | h5
      · have := Int.mul_neg_of_neg_of_pos h5 hyy; omega
      · exact h5
    omega
theorem is_neg {a : Nat} {x : Int} (ha : Is a x) : Is (fneg a) (-x) := by
  have hn := ha.nan
  obtain ⟨h1, h2, h3⟩ := xor_mod ha.lt
  have e : fneg a = a ^^^ 9223372036854775808 := by unfold fneg told; rw [isNan_xor ha.lt, hn]; rfl
  refine ⟨by rw [e]; exact h3, by rw [e, h1]; exact ha.fin, ?_⟩
  rw [(fneg_key ha.lt hn).2, ha.val]
theorem is_cmp {a b : Nat} {x y : Int} (ha : Is a x) (hb : Is b y) : fcmp a b = (ordInt (compare x y), true) := by
  rw [fcmp_key ha.nan hb.nan, ha.val, hb.val]
/-- An integer as a float. -/
def fint (n : Int) : Nat := D.nearest (decide (n < 0)) n.natAbs 0
theorem fint_rung (n : Int) : fint n = D.word (decide (n < 0)) (rung (n.natAbs * 2 ^ E74) 1) := by
  unfold fint
  have hE := E74_is
  rw [nearest_rung, show ((0 : Int) + 1074).toNat = E74 by omega, show (-((0 : Int) + 1074)).toNat = 0 by omega, Nat.pow_zero]
theorem is_int {n : Int} (h : n.natAbs < 9007199254740992) : Is (fint n) (n * 2 ^ E74) := by
  have hE := E74_is
  rw [fint_rung]
  refine (is_rung _ (n := n.natAbs * 2 ^ E74) (by omega) (Nat.mul_one _).symm ⟨_, _, rfl, h, by omega⟩).of_eq ?_
  push_cast
  generalize (2 : Int) ^ E74 = P
  by_cases h1 : n < 0
  · rw [decide_eq_true h1, if_pos rfl, ← Int.neg_mul]; congr 1; omega
  · rw [decide_eq_false h1, if_neg (by simp)]; congr 1; omega
theorem fits_int {n : Int} (h : n.natAbs < 9007199254740992) : Fits (n * 2 ^ E74).natAbs := by
  have hE := E74_is
  rw [Int.natAbs_mul, Int.natAbs_pow]
  exact ⟨_, _, rfl, h, by omega⟩
/-- A number scaled where it fits. -/
theorem is_scale {a : Nat} {x : Int} {y : Int} {k : Int} (ha : Is a x) (hk : -3000 ≤ k ∧ k ≤ 3000) (h : x * 2 ^ k.toNat = y * 2 ^ (-k).toNat) (hf : Fits y.natAbs) : Is (fscale a k) y := by
  obtain ⟨m, i, hr, _, hi, _, hv, hA⟩ := fin_read ha.fin
  rw [fscale_eq _ ha.nan, show clamp k = k by unfold clamp; omega, hr]
  show Is (D.nearest (sg a) m (i + k)) y
  rw [nearest_rung]
  have hs := V_sign ha.fin
  rw [is_V ha] at hA hs
  have hab : x.natAbs * 2 ^ k.toNat = y.natAbs * 2 ^ (-k).toNat := by
    have := congrArg Int.natAbs h
    rw [Int.natAbs_mul, Int.natAbs_mul, Int.natAbs_pow, Int.natAbs_pow] at this
    exact this
  have e1 : rung (m * 2 ^ (i + k + 1074).toNat) (2 ^ (-(i + k + 1074)).toNat) = rung (x.natAbs * 2 ^ k.toNat) (2 ^ (-k).toNat) := by
    rw [hA, Nat.mul_assoc, ← Nat.pow_add, ← Nat.one_mul (2 ^ (-(i + k + 1074)).toNat), ← Nat.one_mul (2 ^ (-k).toNat)]
    exact rung_pow _ _ (by omega)
  rw [e1]
  refine (is_rung _ (Nat.two_pow_pos _) hab hf).of_eq ?_
  have p1 : (0 : Int) < 2 ^ k.toNat := Int.pow_pos (by decide)
  have p2 : (0 : Int) < 2 ^ (-k).toNat := Int.pow_pos (by decide)
  generalize (2 : Int) ^ k.toNat = P at *
  generalize (2 : Int) ^ (-k).toNat = Q at *
  cases hsg : sg a
  · rw [hsg, if_neg (by simp)] at hs
    rw [if_neg (by simp)]
    have h2 : 0 ≤ y * Q := by rw [← h]; exact Int.mul_nonneg (by omega) (Int.le_of_lt p1)
    have h4 : 0 ≤ y := by
      rcases Int.lt_or_le y 0 with h5 | h5
      · have := Int.mul_neg_of_neg_of_pos h5 p2; omega
      · exact h5
    omega
  · rw [hsg, if_pos rfl] at hs
    rw [if_pos rfl]
    have h2 : y * Q ≤ 0 := by
      rw [← h]
      have := Int.mul_le_mul_of_nonneg_right (show x ≤ 0 by omega) (Int.le_of_lt p1)
      rwa [Int.zero_mul] at this
    have h4 : y ≤ 0 := by
      rcases Int.lt_or_le 0 y with h5 | h5
      · have := Int.mul_pos h5 p2; omega
      · exact h5
    omega
end Go.Proofs.YtpilniljhmkedaaGreatDoor.Fl
namespace Go.Proofs.YtpilniljhmkedaaGreatDoor.Fl
open Ieee
theorem fits_ten {k : Nat} (hk : k ≤ 22) : Fits (10 ^ k * 2 ^ E74) := by
  refine ⟨5 ^ k, k + E74, ?_, ?_, ?_⟩
  · rw [Nat.pow_add, ← Nat.mul_assoc, ← Nat.mul_pow]
  · have : 5 ^ k ≤ 5 ^ 22 := Nat.pow_le_pow_right (by decide) hk
    have e : (5 : Nat) ^ 22 = 2384185791015625 := rfl
    omega
  · rw [E74_is]; omega
theorem fits_nat {n : Nat} (h : n < 9007199254740992) : Fits (n * 2 ^ E74) := ⟨n, E74, rfl, h, by rw [E74_is]; omega⟩
/-- a whole number with a sign, as a float -/
def sx (neg : Bool) (d : Nat) : Nat := if neg then fint (d : Int) ^^^ 9223372036854775808 else fint (d : Int)
theorem fint_nat (d : Nat) : fint (d : Int) = D.word false (rung (d * 2 ^ E74) 1) := by
  rw [fint_rung]
  have : decide ((d : Int) < 0) = false := decide_eq_false (by omega)
  rw [this]; rfl
theorem word_flip {r : Nat} (hr : r ≤ 9218868437227405312) : D.word false r ^^^ 9223372036854775808 = D.word true r := by
  obtain ⟨a1, a2, a3⟩ := word_mod false (r := r) (by omega)
  obtain ⟨b1, b2, b3⟩ := word_mod true (r := r) (by omega)
  generalize D.word false r = x at a1 a2 a3 ⊢
  generalize D.word true r = y at b1 b2 b3 ⊢
  have c1 : x < 9223372036854775808 := by
    rw [beq_eq_false_iff_ne] at a2; omega
  rw [xor_low c1]
  rw [beq_iff_eq] at b2
  omega
theorem sx_word (neg : Bool) (d : Nat) : sx neg d = D.word neg (rung (d * 2 ^ E74) 1) := by
  have hr := rung_le (d * 2 ^ E74) 1
  have hf := fint_nat d
  unfold sx
  rw [hf]
  obtain ⟨r, h⟩ : ∃ r, rung (d * 2 ^ E74) 1 = r := ⟨_, rfl⟩
  rw [h] at hr ⊢
  cases neg
  · simp
  · simp only [if_true]
    exact word_flip hr
theorem is_sx (neg : Bool) {d : Nat} (h : d < 9007199254740992) : Is (sx neg d) (if neg then -((d * 2 ^ E74 : Nat) : Int) else (d * 2 ^ E74 : Nat)) := by
  rw [sx_word]
  exact is_rung neg (by decide) (Nat.mul_one _).symm (fits_nat h)
theorem is_ten {k : Nat} (hk : k ≤ 22) : Is (fint ((10 ^ k : Nat) : Int)) ((10 ^ k * 2 ^ E74 : Nat) : Int) := by
  rw [fint_nat]
  exact is_rung false (by decide) (Nat.mul_one _).symm (fits_ten hk)
theorem sg_sx (neg : Bool) (d : Nat) : sg (sx neg d) = neg := by
  rw [sx_word]; exact word_sg neg (Nat.lt_of_le_of_lt (rung_le _ _) (by decide))
theorem sg_ten (k : Nat) : sg (fint ((10 ^ k : Nat) : Int)) = false := by
  rw [fint_nat]; exact word_sg false (Nat.lt_of_le_of_lt (rung_le _ _) (by decide))
theorem abs_sx (neg : Bool) {d : Nat} (h : d < 9007199254740992) : (V (sx neg d)).natAbs = d * 2 ^ E74 := by
  rw [is_V (is_sx neg h)]
  generalize d * 2 ^ E74 = n
  cases neg <;> simp
theorem abs_ten {k : Nat} (hk : k ≤ 22) : (V (fint ((10 ^ k : Nat) : Int))).natAbs = 10 ^ k * 2 ^ E74 := by
  rw [is_V (is_ten hk)]
  generalize 10 ^ k * 2 ^ E74 = n
  simp
theorem mul_ten (neg : Bool) {d k : Nat} (h : d < 9007199254740992) (hk : k ≤ 22) : D.mul (sx neg d) (fint ((10 ^ k : Nat) : Int)) = some (D.word neg (rung (d * 10 ^ k * 2 ^ E74) 1)) := by
  rw [fmul_rung (is_sx neg h).fin (is_ten hk).fin, sg_sx, sg_ten, Bool.xor_false, abs_sx neg h, abs_ten hk]
  have := rung_scale (d * 10 ^ k * 2 ^ E74) 1 (c := 2 ^ E74) (Nat.two_pow_pos _)
  rw [Nat.one_mul] at this
  rw [← this]
  congr 3
  ac_rfl
theorem mul_exact (neg : Bool) {d k : Nat} (h : d < 9007199254740992) (hk : k ≤ 22) (h2 : d * 10 ^ k < 9007199254740992) : D.mul (sx neg d) (fint ((10 ^ k : Nat) : Int)) = some (sx neg (d * 10 ^ k)) := by
  rw [mul_ten neg h hk, sx_word]
theorem div_ten (neg : Bool) {d k : Nat} (h : d < 9007199254740992) (hk : k ≤ 22) : D.div (sx neg d) (fint ((10 ^ k : Nat) : Int)) = some (D.word neg (rung (d * 2 ^ E74) (10 ^ k))) := by
  have h0 : 0 < 10 ^ k * 2 ^ E74 := Nat.mul_pos (Nat.pow_pos (by decide)) (Nat.two_pow_pos _)
  rw [fdiv_rung (is_sx neg h).fin (is_ten hk).fin (by rw [is_V (is_ten hk)]; omega), sg_sx, sg_ten, Bool.xor_false, abs_sx neg h, abs_ten hk]
  rw [← rung_scale (d * 2 ^ E74) (10 ^ k) (c := 2 ^ E74) (Nat.two_pow_pos _)]
/-- great products stay great -/
theorem rung_great {n : Nat} (h : 9007199254740992 ≤ n) : 4845873199050653696 ≤ rung (n * 2 ^ E74) 1 := by
  unfold rung
  rw [Nat.div_one]
  have hp : 2 ^ (53 + E74) ≤ n * 2 ^ E74 := by
    rw [Nat.pow_add]
    exact Nat.mul_le_mul_right _ h
  have h0 : n * 2 ^ E74 ≠ 0 := by
    have : 0 < n * 2 ^ E74 := Nat.mul_pos (by omega) (Nat.two_pow_pos _)
    omega
  have hl := (Nat.le_log2 h0).2 hp
  have hE := E74_is
  generalize n * 2 ^ E74 = P at hp h0 hl
  clear hp h
  generalize E74 = E at hl hE
  obtain ⟨k, hk⟩ : ∃ k, P.log2 = 52 + k := ⟨P.log2 - 52, by omega⟩
  rw [hk, show 52 + k - 52 = k by omega, Nat.one_mul]
  have h1 : 2 ^ (52 + k) ≤ P := by rw [← hk]; exact Nat.log2_self_le h0
  have h2 : 4503599627370496 ≤ rhe P (2 ^ k) := by
    unfold rhe
    have : 4503599627370496 ≤ P / 2 ^ k := by
      rw [Nat.le_div_iff_mul_le (Nat.two_pow_pos k)]
      rw [Nat.pow_add] at h1
      exact h1
    omega
  omega
theorem val_great {neg : Bool} {r : Nat} (h : 4845873199050653696 ≤ r) (h2 : r < 9218868437227405312) : ∃ n : Nat, V (D.word neg r) = (if neg then -((n * 2 ^ E74 : Nat) : Int) else (n * 2 ^ E74 : Nat)) ∧ 9007199254740992 ≤ n := by
  obtain ⟨u, m, e, h3, h4⟩ : ∃ u m, r = u * 4503599627370496 + m ∧ 4503599627370496 ≤ m ∧ m < 9007199254740992 := ⟨r / 4503599627370496 - 1, r % 4503599627370496 + 4503599627370496, by omega, by omega, by omega⟩
  have hu : 1075 ≤ u ∧ u ≤ 2045 := by omega
  obtain ⟨a1, a2, a3⟩ := read_full neg (m := m) (z := u) h3 h4 hu.2
  refine ⟨m * 2 ^ (u - 1074), ?_, ?_⟩
  · unfold V
    rw [e, a1]
    have hz : m * 2 ^ (u - 1074) * 2 ^ E74 = m * 2 ^ u := by rw [Nat.mul_assoc, ← Nat.pow_add, E74_is, show u - 1074 + 1074 = u by omega]
    rw [hz]
    show signed neg m ((u : Int) - 1074 + 1074).toNat = _
    rw [show ((u : Int) - 1074 + 1074).toNat = u by omega, signed_is]
  · have : 2 ^ 1 ≤ 2 ^ (u - 1074) := Nat.pow_le_pow_right (by decide) (by omega)
    have := Nat.mul_le_mul h3 this
    omega
end Go.Proofs.YtpilniljhmkedaaGreatDoor.Fl
namespace Go.Proofs.YtpilniljhmkedaaGreatDoor.Fl
open Ieee
theorem rung_small {n : Nat} (h : n < 2 ^ 200) : rung (n * 2 ^ E74) 1 < 9218868437227405312 := by
  unfold rung
  rw [Nat.div_one]
  have hp : n * 2 ^ E74 < 2 ^ (200 + E74) := by
    rw [Nat.pow_add]
    exact Nat.mul_lt_mul_of_pos_right h (Nat.two_pow_pos _)
  have hE := E74_is
  generalize n * 2 ^ E74 = P at hp
  generalize E74 = E at hp hE
  rcases Nat.eq_zero_or_pos P with h0 | h0
  · subst h0
    simp [rhe]
  · have hl := (Nat.log2_lt (by omega)).2 hp
    obtain ⟨k, hk⟩ : ∃ k, P.log2 - 52 = k := ⟨_, rfl⟩
    rw [hk, Nat.one_mul]
    have h1 : P < 2 ^ (53 + k) := Nat.lt_of_lt_of_le Nat.lt_log2_self (Nat.pow_le_pow_right (by decide) (by omega))
    have h2 : rhe P (2 ^ k) ≤ 9007199254740992 := by
      unfold rhe
      have : P / 2 ^ k < 9007199254740992 := by
        rw [Nat.div_lt_iff_lt_mul (Nat.two_pow_pos k)]
        rw [Nat.pow_add] at h1
        exact h1
      have := Bool.toNat_le (decide (2 ^ k < 2 * (P % 2 ^ k)) || (2 ^ k == 2 * (P % 2 ^ k) && P / 2 ^ k % 2 == 1))
      omega
    have hk2 : k ≤ 1222 := by omega
    clear hp hl hk h1 hE h
    omega
theorem rung_small_quo {n q : Nat} (h : n < 2 ^ 200) (hq : 0 < q) : rung (n * 2 ^ E74) q < 9218868437227405312 := by
  unfold rung
  have hp : n * 2 ^ E74 / q < 2 ^ (200 + E74) := by
    rw [Nat.pow_add]
    exact Nat.lt_of_le_of_lt (Nat.div_le_self _ _) (Nat.mul_lt_mul_of_pos_right h (Nat.two_pow_pos _))
  have hE := E74_is
  generalize n * 2 ^ E74 = P at hp ⊢
  generalize E74 = E at hp hE
  obtain ⟨f, hf⟩ : ∃ f, P / q = f := ⟨_, rfl⟩
  rw [hf] at hp ⊢
  obtain ⟨k, hk⟩ : ∃ k, f.log2 - 52 = k := ⟨_, rfl⟩
  have hk2 : k ≤ 1222 := by
    rcases Nat.eq_zero_or_pos f with h0 | h0
    · subst h0; simp at hk; omega
    · have := (Nat.log2_lt (by omega)).2 hp
      omega
  have h1 : f < 2 ^ (53 + k) := by
    rcases Nat.eq_zero_or_pos f with h0 | h0
    · subst h0; exact Nat.two_pow_pos _
    · exact Nat.lt_of_lt_of_le Nat.lt_log2_self (Nat.pow_le_pow_right (by decide) (by omega))
  have h2 : rhe P (q * 2 ^ k) ≤ 9007199254740992 := by
    unfold rhe
    have : P / (q * 2 ^ k) < 9007199254740992 := by
      rw [← Nat.div_div_eq_div_mul, hf, Nat.div_lt_iff_lt_mul (Nat.two_pow_pos k)]
      rw [Nat.pow_add] at h1
      exact h1
    have := Bool.toNat_le (decide (q * 2 ^ k < 2 * (P % (q * 2 ^ k))) || (q * 2 ^ k == 2 * (P % (q * 2 ^ k)) && P / (q * 2 ^ k) % 2 == 1))
    omega
  rw [hk]
  clear hp hk hE h h1 hf
  omega
theorem order_some {a b : Nat} (ha : isNan a = false) (hb : isNan b = false) : ∃ o, D.order a b = some o := ⟨_, order_key ha hb⟩
theorem fint15 : fint ((10 ^ 15 : Nat) : Int) = 4831355200913801216 := by decide +kernel
theorem f10_fin : ∀ k : Fin 23, Go.Proofs.YtpilniljhmkedaaGreatDoor.Pl.f10[k.val]? = some (fint ((10 ^ k.val : Nat) : Int)) := by decide +kernel
theorem val15 : val (D.read 4831355200913801216) = ((1000000000000000 * 2 ^ E74 : Nat) : Int) := by
  have := (is_ten (k := 15) (by omega)).val
  rw [fint15] at this
  exact this
theorem val15n : val (D.read 14054727237768577024) = -((1000000000000000 * 2 ^ E74 : Nat) : Int) := by
  have h := read_xor (a := 4831355200913801216) (by decide)
  rw [show (4831355200913801216 : Nat) ^^^ 9223372036854775808 = 14054727237768577024 by decide] at h
  rw [h, val_opp, val15]
/-- what stays below 10 to the 15 was exact -/
theorem small_of_order (neg : Bool) {d j y : Nat} (hd : d < 4503599627370496) (hj : j ≤ 15) (hy : D.mul (sx neg d) (fint ((10 ^ j : Nat) : Int)) = some y) (h1 : D.order y 4831355200913801216 ≠ some .gt) (h2 : D.order y 14054727237768577024 ≠ some .lt) : d * 10 ^ j < 9007199254740992 := by
  rcases Nat.lt_or_ge (d * 10 ^ j) 9007199254740992 with h | h
  · exact h
  · exfalso
    have hn := mul_not_nan hy
    rw [mul_ten neg (by omega) (by omega)] at hy
    have hy' := Option.some.inj hy
    have hbig : d * 10 ^ j < 2 ^ 200 := by
      have a1 : 10 ^ j ≤ 10 ^ 15 := Nat.pow_le_pow_right (by decide) hj
      have a2 : d * 10 ^ j ≤ 4503599627370496 * 10 ^ 15 := Nat.mul_le_mul (by omega) a1
      exact Nat.lt_of_le_of_lt a2 (by decide)
    obtain ⟨n, hv, hn2⟩ := val_great (neg := neg) (rung_great h) (rung_small hbig)
    rw [hy'] at hv
    unfold V at hv
    have hlt : 1000000000000000 * 2 ^ E74 < n * 2 ^ E74 := Nat.mul_lt_mul_of_pos_right (by omega) (Nat.two_pow_pos _)
    generalize n * 2 ^ E74 = N at hv hlt
    cases neg
    · rw [order_key hn (by decide), hv, val15] at h1
      apply h1
      generalize 1000000000000000 * 2 ^ E74 = M at hlt
      rw [cmp_gt (by simp; omega)]
    · rw [order_key hn (by decide), hv, val15n] at h2
      apply h2
      generalize 1000000000000000 * 2 ^ E74 = M at hlt
      rw [cmp_lt (by simp; omega)]
end Go.Proofs.YtpilniljhmkedaaGreatDoor.Fl
namespace Go.Proofs.YtpilniljhmkedaaGreatDoor
open Go
namespace Pl
/-- ten to the p, times 2 to the 127 less the whole part of its logarithm: a quotient -/
def numA (p : Int) : Nat := if 0 ≤ p then 10 ^ p.toNat * 2 ^ 127 else 2 ^ (127 - p * 108853 / 32768).toNat
def denB (p : Int) : Nat := if 0 ≤ p then 2 ^ (p * 108853 / 32768).toNat else 10 ^ (-p).toNat
/-- the table's number for it -/
def pm (p : Int) : Nat := (pw p).1 * 18446744073709551616 - (pw p).2
theorem denB_pos (p : Int) : 0 < denB p := by
  unfold denB; split <;> exact Nat.pow_pos (by decide)
def rowOk (p : Int) : Bool := decide ((pw p).2 ≤ (pw p).1 * 18446744073709551616 ∧ (pw p).1 < 18446744073709551616 ∧ (pw p).2 < 18446744073709551616 ∧ pm p * denB p < numA p + denB p ∧ numA p ≤ pm p * denB p)
theorem rows_all : ((List.range 696).all fun i => rowOk ((i : Int) - 348)) = true := by decide +kernel
structure RowIs (p : Int) : Prop where
  le : (pw p).2 ≤ (pw p).1 * 18446744073709551616
  hi : (pw p).1 < 18446744073709551616
  lo : (pw p).2 < 18446744073709551616
  up : pm p * denB p < numA p + denB p
  dn : numA p ≤ pm p * denB p
theorem row_is {p : Int} (h1 : -348 ≤ p) (h2 : p ≤ 347) : RowIs p := by
  have h := List.all_eq_true.1 rows_all (p + 348).toNat (List.mem_range.2 (by omega))
  have e : (((p + 348).toNat : Nat) : Int) - 348 = p := by omega
  rw [e] at h
  obtain ⟨a, b, c, d, f⟩ := of_decide_eq_true h
  exact ⟨a, b, c, d, f⟩
/-- two near multiples, and no nearer one below their sum -/
theorem ucert {M a x1 r1 x2 r2 N : Nat} (hM : 0 < M) (h1 : x1 * a % M = r1) (h2 : x2 * a % M + r2 = M) (hd : x1 * r2 + x2 * r1 = M) (hN : N ≤ x1 + x2) (h0 : 0 < x1) {x : Nat} (hx : 0 < x) (hxN : x < N) :
    ((∃ i, 1 ≤ i ∧ x = i * x1 ∧ x * a % M = i * r1) ∨ r1 + r2 ≤ x * a % M) ∧ ∃ j, 1 ≤ j ∧ x ≤ j * x2 ∧ x * a % M + j * r2 ≤ M := by
  have hr2 : 0 < r2 := by have := Nat.mod_lt (x2 * a) hM; omega
  obtain ⟨r, hr⟩ : ∃ r, x * a % M = r := ⟨_, rfl⟩
  have hrM : r < M := by rw [← hr]; exact Nat.mod_lt _ hM
  have e1 := Nat.div_add_mod (x1 * a) M
  have e2 := Nat.div_add_mod (x2 * a) M
  have e3 := Nat.div_add_mod (x * a) M
  rw [h1] at e1
  rw [hr] at e3 ⊢
  generalize x1 * a / M = k1 at e1
  generalize x2 * a / M = k2 at e2
  generalize x * a / M = q at e3
  have e2' : x2 * a + r2 = M * (k2 + 1) := by rw [Nat.mul_add, Nat.mul_one, ← h2, ← Nat.add_assoc, h2]; omega
  clear e2 h2 h1 hr
  -- all in whole numbers
  have E1 : (M : Int) * k1 + r1 = x1 * a := by exact_mod_cast e1
  have E2 : (x2 : Int) * a + r2 = M * (k2 + 1) := by exact_mod_cast e2'
  have E3 : (M : Int) * q + r = x * a := by exact_mod_cast e3
  have HD : (x1 : Int) * r2 + x2 * r1 = M := by exact_mod_cast hd
  have hMi : (M : Int) ≠ 0 := by omega
  obtain ⟨i, hi⟩ : ∃ i : Int, i = x * (k2 + 1) - x2 * q := ⟨_, rfl⟩
  obtain ⟨j, hj⟩ : ∃ j : Int, j = x1 * q - x * k1 := ⟨_, rfl⟩
  have Hi : i * M = x * r2 + x2 * r := by subst hi; grind
  have Hj : j * M = x * r1 - x1 * r := by subst hj; grind
  have Hx : (x : Int) = i * x1 + j * x2 := by
    apply Int.eq_of_mul_eq_mul_right hMi; grind
  have Hr : (r : Int) = i * r1 - j * r2 := by
    apply Int.eq_of_mul_eq_mul_right hMi; grind
  have hMp : (0 : Int) < M := by omega
  have hi1 : 1 ≤ i := by
    have : 0 < i * M := by
      rw [Hi]
      have h1 : (0 : Int) < x * r2 := Int.mul_pos (by omega) (by omega)
      have h2 : (0 : Int) ≤ x2 * r := Int.mul_nonneg (by omega) (by omega)
      omega
    have := Int.pos_of_mul_pos_left this hMp
    omega
  have hN' : (N : Int) ≤ x1 + x2 := by exact_mod_cast hN
  have hxN' : (x : Int) < N := by exact_mod_cast hxN
  have mono : ∀ {a b c : Int}, a ≤ b → 0 ≤ c → a * c ≤ b * c := fun h hc => Int.mul_le_mul_of_nonneg_right h hc
  constructor
  · rcases Int.lt_trichotomy j 0 with hj0 | hj0 | hj0
    · right
      have a1 : 1 * (r1 : Int) ≤ i * r1 := mono hi1 (by omega)
      have a2 : 1 * (r2 : Int) ≤ (-j) * r2 := mono (by omega) (by omega)
      have a3 : (-j) * (r2 : Int) = -(j * r2) := by grind
      omega
    · left
      subst hj0
      obtain ⟨n, rfl⟩ := Int.eq_ofNat_of_zero_le (show 0 ≤ i by omega)
      refine ⟨n, by omega, ?_, ?_⟩
      · have : (x : Int) = (n * x1 : Nat) := by rw [Hx]; simp
        exact_mod_cast this
      · have : (r : Int) = (n * r1 : Nat) := by rw [Hr]; simp
        exact_mod_cast this
    · exfalso
      have a1 : 1 * (x1 : Int) ≤ i * x1 := mono hi1 (by omega)
      have a2 : 1 * (x2 : Int) ≤ j * x2 := mono (by omega) (by omega)
      omega
  · obtain ⟨i', hi'⟩ : ∃ i' : Int, i' = i - x2 := ⟨_, rfl⟩
    obtain ⟨j', hj'⟩ : ∃ j' : Int, j' = j + x1 := ⟨_, rfl⟩
    have HJ : j' * M = x * r1 + x1 * (M - r) := by subst hj'; grind
    have HX : (x : Int) = i' * x1 + j' * x2 := by subst hi' hj'; grind
    have HR : (M : Int) - r = j' * r2 - i' * r1 := by subst hi' hj'; grind
    have hj1 : 1 ≤ j' := by
      have : 0 < j' * M := by
        rw [HJ]
        have h1 : (0 : Int) ≤ x * r1 := Int.mul_nonneg (by omega) (by omega)
        have h2 : (0 : Int) < x1 * (M - r) := Int.mul_pos (by omega) (by omega)
        omega
      have := Int.pos_of_mul_pos_left this hMp
      omega
    have hi0 : i' ≤ 0 := by
      rcases Int.lt_or_le 0 i' with h | h
      · exfalso
        have a1 : 1 * (x1 : Int) ≤ i' * x1 := mono (by omega) (by omega)
        have a2 : 1 * (x2 : Int) ≤ j' * x2 := mono (by omega) (by omega)
        omega
      · exact h
    obtain ⟨n, rfl⟩ := Int.eq_ofNat_of_zero_le (show 0 ≤ j' by omega)
    have b1 : i' * x1 ≤ 0 := by have := mono hi0 (show (0 : Int) ≤ x1 by omega); simpa using this
    have b2 : i' * r1 ≤ 0 := by have := mono hi0 (show (0 : Int) ≤ r1 by omega); simpa using this
    refine ⟨n, by omega, ?_, ?_⟩
    · have : (x : Int) ≤ (n * x2 : Nat) := by push_cast; omega
      exact_mod_cast this
    · have : ((r + n * r2 : Nat) : Int) ≤ M := by push_cast; omega
      exact_mod_cast this
/-- x is an exact one at the table's p and the shift s, or none is near -/
def Good (p : Int) (s x : Nat) : Prop :=
  (denB p * 2 ^ (128 + s) ∣ x * numA p) ∨ (18446744073709551616 < x * pm p % 2 ^ (128 + s) ∧ x * pm p % 2 ^ (128 + s) + 18446744073709551616 ≤ 2 ^ (128 + s))
/-- the unrounded number of a quotient -/
noncomputable def unr (n d : Nat) : Nat := n / d ||| (if d ∣ n then 0 else 1)
theorem sq64 (s : Nat) : 2 ^ (128 + s) = 2 ^ s * 340282366920938463463374607431768211456 := by
  rw [Nat.pow_add, Nat.mul_comm]
theorem uscale_core {x hi lo S A B : Nat} {s : Nat} (hS : 2 ^ s = S) (hx0 : 0 < x) (hx : x < 18446744073709551616) (hh : hi < 18446744073709551616) (hl : lo < 18446744073709551616) (hle : lo ≤ hi * 18446744073709551616) (hB : 0 < B)
    (h1 : (hi * 18446744073709551616 - lo) * B < A + B) (h2 : A ≤ (hi * 18446744073709551616 - lo) * B)
    (g : (B * (S * 340282366920938463463374607431768211456) ∣ x * A) ∨ (18446744073709551616 < x * (hi * 18446744073709551616 - lo) % (S * 340282366920938463463374607431768211456) ∧ x * (hi * 18446744073709551616 - lo) % (S * 340282366920938463463374607431768211456) + 18446744073709551616 ≤ S * 340282366920938463463374607431768211456)) :
    uscale x hi lo s = unr (x * A) (B * (S * 340282366920938463463374607431768211456)) := by
  have hS0 : 0 < S := by rw [← hS]; exact Nat.pow_pos (by decide)
  obtain ⟨P, hP⟩ : ∃ P, hi * 18446744073709551616 - lo = P := ⟨_, rfl⟩
  rw [hP] at h1 h2 g
  obtain ⟨M, hM⟩ : ∃ M, S * 340282366920938463463374607431768211456 = M := ⟨_, rfl⟩
  rw [hM] at g ⊢
  obtain ⟨X, hX⟩ : ∃ X, x * P = X := ⟨_, rfl⟩
  rw [hX] at g
  have hXx : X + x * lo = x * hi * 18446744073709551616 := by
    rw [← hX, ← hP, Nat.mul_sub, Nat.mul_assoc]
    have := Nat.mul_le_mul_left x hle
    omega
  have hxl : x * lo ≤ 18446744073709551615 * 18446744073709551615 := Nat.mul_le_mul (by omega) (by omega)
  have hxh : x * hi ≤ 18446744073709551615 * 18446744073709551615 := Nat.mul_le_mul (by omega) (by omega)
  obtain ⟨h, hh'⟩ : ∃ h, x * hi / 18446744073709551616 = h := ⟨_, rfl⟩
  obtain ⟨mid, hm'⟩ : ∃ m, x * hi % 18446744073709551616 = m := ⟨_, rfl⟩
  obtain ⟨mid2, hm2'⟩ : ∃ m, x * lo / 18446744073709551616 = m := ⟨_, rfl⟩
  obtain ⟨lo2, hlo2⟩ : ∃ m, x * lo % 18446744073709551616 = m := ⟨_, rfl⟩
  have heq : X + mid2 * 18446744073709551616 + lo2 = h * 340282366920938463463374607431768211456 + mid * 18446744073709551616 := by omega
  have hm1 : mid < 18446744073709551616 := by omega
  have hm2 : mid2 ≤ 18446744073709551614 := by omega
  have hl2 : lo2 < 18446744073709551616 := by omega
  have hh2 : h < 18446744073709551616 := by omega
  have hXA : x * A ≤ X * B := by rw [← hX, Nat.mul_assoc]; exact Nat.mul_le_mul_left x h2
  have hXB : X * B < x * A + 18446744073709551616 * B := by
    have : x * (P * B) < x * (A + B) := Nat.mul_lt_mul_of_pos_left h1 hx0
    rw [← Nat.mul_assoc, hX, Nat.mul_add] at this
    have : x * B ≤ 18446744073709551616 * B := Nat.mul_le_mul_right B (by omega)
    omega
  have hM0 : 0 < M := by omega
  unfold uscale unr
  rw [hh', hm', hm2', hS]
  clear hh' hm' hm2' hlo2 hXx hxl hxh hX hP h1 h2 hle hh hl
  rcases g with g | ⟨g1, g2⟩
  · obtain ⟨q, hq⟩ := g
    have e : x * A / (B * M) = q := by rw [hq, Nat.mul_div_cancel_left _ (Nat.mul_pos hB hM0)]
    have hd : B * M ∣ x * A := ⟨q, hq⟩
    rw [e, if_pos hd]
    have hlo : q * M ≤ X := by
      apply Nat.le_of_mul_le_mul_right _ hB
      have : q * M * B = B * M * q := by rw [Nat.mul_comm, ← Nat.mul_assoc, Nat.mul_right_comm]
      omega
    have hup : X < q * M + 18446744073709551616 := by
      apply Nat.lt_of_mul_lt_mul_right (a := B)
      have : (q * M + 18446744073709551616) * B = B * M * q + 18446744073709551616 * B := by rw [Nat.add_mul, Nat.mul_comm (q * M), ← Nat.mul_assoc, Nat.mul_right_comm]
      omega
    have hqM : q * M = q * S * 340282366920938463463374607431768211456 := by rw [← hM, Nat.mul_assoc]
    have hhS : h = q * S := by omega
    have hd1 : mid2 ≤ mid ∧ mid ≤ mid2 + 1 := by omega
    have e1 : h / S = q := by rw [hhS, Nat.mul_div_cancel _ hS0]
    rw [e1, if_pos hhS.symm, if_neg (by omega), Nat.sub_zero, Nat.add_mod_right, Nat.mod_eq_of_lt hh2, e1, if_neg]
    have : mid + 18446744073709551616 - mid2 = (mid - mid2) + 18446744073709551616 := by omega
    rw [this, Nat.add_mod_right, Nat.mod_eq_of_lt (by omega)]
    omega
  · have e0 := Nat.div_add_mod X M
    obtain ⟨q, hq⟩ : ∃ q, X / M = q := ⟨_, rfl⟩
    rw [hq] at e0
    have e0' : q * M + X % M = X := by rw [Nat.mul_comm]; exact e0
    have lo' : q * (B * M) < x * A := by
      have a1 : (q * M + 18446744073709551616) * B < X * B := Nat.mul_lt_mul_of_pos_right (by omega) hB
      have a2 : (q * M + 18446744073709551616) * B = q * (B * M) + 18446744073709551616 * B := by rw [Nat.add_mul, Nat.mul_assoc, Nat.mul_comm M B]
      omega
    have up' : x * A < (q + 1) * (B * M) := by
      have a1 : X * B < ((q + 1) * M) * B := Nat.mul_lt_mul_of_pos_right (by rw [Nat.add_mul, Nat.one_mul]; omega) hB
      have a2 : ((q + 1) * M) * B = (q + 1) * (B * M) := by rw [Nat.mul_assoc, Nat.mul_comm M B]
      omega
    have e : x * A / (B * M) = q := Nat.div_eq_of_lt_le (by omega) (by omega)
    have hnd : ¬ B * M ∣ x * A := by
      rintro ⟨k, hk⟩
      have hk' : x * A = k * (B * M) := by rw [hk, Nat.mul_comm]
      rw [hk'] at lo' up'
      have a1 := Nat.lt_of_mul_lt_mul_right lo'
      have a2 := Nat.lt_of_mul_lt_mul_right up'
      omega
    rw [e, if_neg hnd]
    have hk0 := Nat.div_add_mod h S
    obtain ⟨k, hk⟩ : ∃ k, h / S = k := ⟨_, rfl⟩
    rw [hk] at hk0 ⊢
    have hc := Nat.mod_lt h hS0
    have hkS : S * k = k * S := Nat.mul_comm _ _
    have hkM : k * M = k * S * 340282366920938463463374607431768211456 := by rw [← hM, Nat.mul_assoc]
    have hkM1 : (k + 1) * M = k * M + M := by rw [Nat.add_mul, Nat.one_mul]
    have hXr : X % M = X - q * M := by omega
    by_cases hmul : k * S = h
    · rw [if_pos hmul]
      by_cases c1 : mid2 + 2 ≤ mid
      · have : X / M = k := Nat.div_eq_of_lt_le (by omega) (by omega)
        have hqk : q = k := by omega
        have eg : (mid + 18446744073709551616 - mid2) % 18446744073709551616 = mid - mid2 := by
          have : mid + 18446744073709551616 - mid2 = (mid - mid2) + 18446744073709551616 := by omega
          rw [this, Nat.add_mod_right, Nat.mod_eq_of_lt (by omega)]
        rw [if_neg (by omega), Nat.sub_zero, Nat.add_mod_right, Nat.mod_eq_of_lt hh2, hk, eg, if_pos (by omega), hqk]
      · by_cases c2 : mid2 ≤ mid
        · exfalso
          rcases Nat.lt_or_ge X (k * M) with hlt | hge
          · have hk1 : 1 ≤ k := by rcases Nat.eq_zero_or_pos k with e | e
                                   · subst e; simp at hlt
                                   · exact e
            obtain ⟨k', rfl⟩ : ∃ k', k = k' + 1 := ⟨k - 1, by omega⟩
            have hk2 : (k' + 1) * M = k' * M + M := by rw [Nat.add_mul, Nat.one_mul]
            have : X / M = k' := Nat.div_eq_of_lt_le (by omega) (by omega)
            have hqk : q = k' := by omega
            subst hqk
            omega
          · have : X / M = k := Nat.div_eq_of_lt_le (by omega) (by omega)
            have hqk : q = k := by omega
            subst hqk
            omega
        · have hk1 : 1 ≤ k := by rcases Nat.eq_zero_or_pos k with e | e
                                 · subst e; simp at hmul; omega
                                 · exact e
          obtain ⟨k', rfl⟩ : ∃ k', k = k' + 1 := ⟨k - 1, by omega⟩
          have hk2 : (k' + 1) * M = k' * M + M := by rw [Nat.add_mul, Nat.one_mul]
          have hk3 : (k' + 1) * S = k' * S + S := by rw [Nat.add_mul, Nat.one_mul]
          have : X / M = k' := Nat.div_eq_of_lt_le (by omega) (by omega)
          have hqk : q = k' := by omega
          have eg : (mid + 18446744073709551616 - mid2) % 18446744073709551616 = mid + 18446744073709551616 - mid2 := Nat.mod_eq_of_lt (by omega)
          have eh : (h + 18446744073709551616 - 1) % 18446744073709551616 = h - 1 := by
            have : h + 18446744073709551616 - 1 = (h - 1) + 18446744073709551616 := by omega
            rw [this, Nat.add_mod_right, Nat.mod_eq_of_lt (by omega)]
          have ek : (h - 1) / S = k' := Nat.div_eq_of_lt_le (by omega) (by rw [hk3]; omega)
          rw [if_pos (by omega), eh, ek, eg, if_pos (by omega), hqk]
    · rw [if_neg hmul]
      have hc0 : 0 < h % S := by omega
      have : X / M = k := Nat.div_eq_of_lt_le (by omega) (by omega)
      have hqk : q = k := by omega
      rw [hqk]
theorem uscale_exact {p : Int} {s x : Nat} (h : RowIs p) (hx0 : 0 < x) (hx : x < 18446744073709551616) (g : Good p s x) : uscale x (pw p).1 (pw p).2 s = unr (x * numA p) (denB p * 2 ^ (128 + s)) := by
  unfold Good pm at g
  rw [sq64] at g ⊢
  exact uscale_core rfl hx0 hx h.hi h.lo h.le (denB_pos p) h.up h.dn g
theorem Good.up {p : Int} {s x : Nat} (h : RowIs p) (hx0 : 0 < x) (hx : x < 18446744073709551616) (g : Good p s x) (k : Nat) : Good p (s + k) x := by
  obtain ⟨M, hM⟩ : ∃ M, 2 ^ (128 + s) = M := ⟨_, rfl⟩
  obtain ⟨K, hK⟩ : ∃ K, 2 ^ k = K := ⟨_, rfl⟩
  have hK0 : 0 < K := by rw [← hK]; exact Nat.pow_pos (by decide)
  have hM2 : 340282366920938463463374607431768211456 ≤ M := by
    rw [← hM, sq64]
    have : 0 < 2 ^ s := Nat.pow_pos (by decide)
    omega
  have e : 2 ^ (128 + (s + k)) = M * K := by rw [← Nat.add_assoc, Nat.pow_add, hM, hK]
  unfold Good at g ⊢
  rw [hM] at g
  rw [e]
  obtain ⟨X, hX⟩ : ∃ X, x * pm p = X := ⟨_, rfl⟩
  rw [hX] at g ⊢
  have hB := denB_pos p
  have hXA : x * numA p ≤ X * denB p := by rw [← hX, Nat.mul_assoc]; exact Nat.mul_le_mul_left x h.dn
  have hXB : X * denB p < x * numA p + 18446744073709551616 * denB p := by
    have : x * (pm p * denB p) < x * (numA p + denB p) := Nat.mul_lt_mul_of_pos_left h.up hx0
    rw [← Nat.mul_assoc, hX, Nat.mul_add] at this
    have : x * denB p ≤ 18446744073709551616 * denB p := Nat.mul_le_mul_right _ (by omega)
    omega
  have hmm := Nat.mod_mul (x := X) (a := M) (b := K)
  have hcl : M * (X / M % K) + M ≤ M * K := by
    have h1 : X / M % K + 1 ≤ K := Nat.mod_lt _ hK0
    have h2 := Nat.mul_le_mul_left M h1
    rw [Nat.mul_add, Nat.mul_one] at h2
    exact h2
  rcases g with ⟨q, hq⟩ | ⟨g1, g2⟩
  · generalize denB p = B at hq hB hXA hXB ⊢
    have hlo : q * M ≤ X := by
      apply Nat.le_of_mul_le_mul_right _ hB
      have : q * M * B = B * M * q := by rw [Nat.mul_comm, ← Nat.mul_assoc, Nat.mul_right_comm]
      omega
    have hup : X < q * M + 18446744073709551616 := by
      apply Nat.lt_of_mul_lt_mul_right (a := B)
      have : (q * M + 18446744073709551616) * B = B * M * q + 18446744073709551616 * B := by rw [Nat.add_mul, Nat.mul_comm (q * M), ← Nat.mul_assoc, Nat.mul_right_comm]
      omega
    have hqM : (q + 1) * M = q * M + M := by rw [Nat.add_mul, Nat.one_mul]
    have e1 : X / M = q := Nat.div_eq_of_lt_le (by omega) (by omega)
    have e2 : X % M = X - q * M := by have := Nat.div_add_mod X M; rw [e1, Nat.mul_comm] at this; omega
    rw [e1] at hmm hcl
    rcases Nat.eq_zero_or_pos (q % K) with hz | hz
    · left
      obtain ⟨c, hc⟩ := Nat.dvd_of_mod_eq_zero hz
      exact ⟨c, by rw [hq, hc, Nat.mul_assoc, Nat.mul_assoc, Nat.mul_assoc]⟩
    · right
      rw [hmm]
      have : M * 1 ≤ M * (q % K) := Nat.mul_le_mul_left M hz
      omega
  · right
    rw [hmm]
    omega
/-- looks for two near multiples -/
def ufind : Nat → Nat → Nat → Nat → Nat → Nat → Nat × Nat
  | 0, _, x1, _, x2, _ => (x1, x2)
  | f + 1, N, x1, r1, x2, r2 =>
    if N ≤ x1 + x2 then (x1, x2)
    else if r2 ≤ r1 then
      let k := if x2 = 0 then r1 / r2 else min (r1 / r2) (max 1 ((N - x1 - x2 + x2 - 1) / x2))
      ufind f N (x1 + k * x2) (r1 - k * r2) x2 r2
    else
      let k := min ((r2 - 1) / r1) (max 1 ((N - x1 - x2 + x1 - 1) / x1))
      ufind f N x1 r1 (x2 + k * x1) (r2 - k * r1)
def uchkP (t s N L : Nat) (p : Int) (x1 x2 r1 r2 : Nat) : Bool :=
  decide (x1 * r2 + x2 * r1 = 2 ^ (128 + s - t) ∧ N ≤ x1 + x2 ∧ 0 < x1 ∧ 18446744073709551616 < 2 ^ t * (r1 + r2) ∧ 18446744073709551616 ≤ 2 ^ t * (((L + x2 - 1) / x2) * r2) ∧
    (18446744073709551616 < 2 ^ t * (((L + x1 - 1) / x1) * r1) ∨ (2 ^ t * x1 * numA p) % (denB p * 2 ^ (128 + s)) = 0))
def uchk (t s N L : Nat) (p : Int) : Bool :=
  (decide (pm p % 36893488147419103232 = 0 ∧ pm p * denB p = numA p)) ||
    (let c := ufind 60 N 1 (pm p % 2 ^ (128 + s - t)) 0 (2 ^ (128 + s - t))
     uchkP t s N L p c.1 c.2 (c.1 * pm p % 2 ^ (128 + s - t)) (2 ^ (128 + s - t) - c.2 * pm p % 2 ^ (128 + s - t)))
theorem ceil_le {L x y j : Nat} (h : L ≤ y) (hj : y ≤ j * x) : (L + x - 1) / x ≤ j := by
  rcases Nat.eq_zero_or_pos x with rfl | hx
  · simp
  · rw [Nat.div_le_iff_le_mul_add_pred hx]
    rw [Nat.mul_comm] at hj
    omega
theorem good_of_uchk {t s N L : Nat} {p : Int} (hc : uchk t s N L p = true) (ht : t ≤ 128 + s) {y : Nat} (hy : 0 < y) (hyN : y < N) (hyL : L ≤ y) : Good p s (2 ^ t * y) := by
  have eM : 2 ^ (128 + s) = 2 ^ t * 2 ^ (128 + s - t) := by rw [← Nat.pow_add]; congr 1; omega
  rcases Bool.or_eq_true _ _ |>.mp hc with h | h
  · obtain ⟨h1, h2⟩ := of_decide_eq_true h
    obtain ⟨c, hc⟩ := Nat.dvd_of_mod_eq_zero h1
    obtain ⟨X, hX⟩ : ∃ X, 2 ^ t * y * pm p = X := ⟨_, rfl⟩
    unfold Good
    rw [hX]
    have e65 : 2 ^ (128 + s) = 36893488147419103232 * 2 ^ (63 + s) := by
      rw [show 128 + s = 65 + (63 + s) by omega, Nat.pow_add]
    obtain ⟨M, hM⟩ : ∃ M, 2 ^ (128 + s) = M := ⟨_, rfl⟩
    rw [hM] at e65 ⊢
    have hMp : 0 < M := by rw [← hM]; exact Nat.pow_pos (by decide)
    have hXd : 36893488147419103232 ∣ X := ⟨2 ^ t * y * c, by rw [← hX, hc]; exact Nat.mul_left_comm _ _ _⟩
    have hMd : 36893488147419103232 ∣ M := ⟨_, e65⟩
    have hr := (Nat.dvd_mod_iff hMd).2 hXd
    have hlt := Nat.mod_lt X hMp
    rcases Nat.eq_zero_or_pos (X % M) with hz | hz
    · left
      obtain ⟨q, hq⟩ := Nat.dvd_of_mod_eq_zero hz
      exact ⟨q, by rw [← h2, ← Nat.mul_assoc, hX, hq]; rw [Nat.mul_comm, Nat.mul_assoc]⟩
    · right
      obtain ⟨u, hu⟩ := hr
      obtain ⟨v, hv⟩ := hMd
      omega
  · obtain ⟨x1, hx1⟩ : ∃ x1, (ufind 60 N 1 (pm p % 2 ^ (128 + s - t)) 0 (2 ^ (128 + s - t))).1 = x1 := ⟨_, rfl⟩
    obtain ⟨x2, hx2⟩ : ∃ x2, (ufind 60 N 1 (pm p % 2 ^ (128 + s - t)) 0 (2 ^ (128 + s - t))).2 = x2 := ⟨_, rfl⟩
    simp only [hx1, hx2] at h
    obtain ⟨h1, h2, h3, h4, h5, h6⟩ := of_decide_eq_true h
    obtain ⟨M, hM⟩ : ∃ M, 2 ^ (128 + s - t) = M := ⟨_, rfl⟩
    obtain ⟨T, hT⟩ : ∃ T, 2 ^ t = T := ⟨_, rfl⟩
    have hMp : 0 < M := by rw [← hM]; exact Nat.pow_pos (by decide)
    rw [hM, hT] at eM
    simp only [hM, hT, eM] at h1 h4 h5 h6
    clear hx1 hx2 hc h
    obtain ⟨r1, hr1⟩ : ∃ r1, x1 * pm p % M = r1 := ⟨_, rfl⟩
    obtain ⟨r2, hr2⟩ : ∃ r2, M - x2 * pm p % M = r2 := ⟨_, rfl⟩
    rw [hr1, hr2] at h1
    rw [hr1, hr2] at h4
    rw [hr2] at h5
    rw [hr1] at h6
    have hlt := Nat.mod_lt (x2 * pm p) hMp
    obtain ⟨hlow, j, hj1, hj2, hj3⟩ := ucert hMp hr1 (by omega) h1 h2 h3 hy hyN
    unfold Good
    rw [hT, eM, Nat.mul_assoc T y (pm p), Nat.mul_mod_mul_left]
    obtain ⟨r, hr⟩ : ∃ r, y * pm p % M = r := ⟨_, rfl⟩
    rw [hr] at hlow hj3 ⊢
    have hup : T * r + 18446744073709551616 ≤ T * M := by
      have a1 := Nat.mul_le_mul_right r2 (ceil_le hyL hj2)
      have a2 := Nat.mul_le_mul_left T a1
      have a3 := Nat.mul_le_mul_left T hj3
      rw [Nat.mul_add] at a3
      omega
    rcases hlow with ⟨i, hi1, hi2, hi3⟩ | hlow
    · rcases h6 with h6 | h6
      · right
        refine ⟨?_, hup⟩
        have a1 := Nat.mul_le_mul_right r1 (ceil_le hyL (Nat.le_of_eq hi2))
        have a2 := Nat.mul_le_mul_left T a1
        rw [hi3]
        omega
      · left
        obtain ⟨c, hc⟩ := Nat.dvd_of_mod_eq_zero h6
        refine ⟨c * i, ?_⟩
        rw [hi2, show T * (i * x1) * numA p = T * x1 * numA p * i by rw [Nat.mul_comm i x1, ← Nat.mul_assoc, Nat.mul_right_comm], hc, Nat.mul_assoc]
    · right
      refine ⟨?_, hup⟩
      have := Nat.mul_le_mul_left T hlow
      omega
theorem parse_all : ((List.range 656).all fun i => uchk 0 8 18446744073709551616 9223372036854775808 ((i : Int) - 345)) = true := by decide +kernel
theorem fmt_all : ((List.range 617).all fun i => uchk 9 5 36028797018963968 1 ((i : Int) - 292)) = true := by decide +kernel
/-- what is read: at the shift 8 and above -/
theorem parse_good {p : Int} (h1 : -345 ≤ p) (h2 : p ≤ 310) {s x : Nat} (hs : 8 ≤ s) (hx1 : 9223372036854775808 ≤ x) (hx2 : x < 18446744073709551616) : Good p s x := by
  have h := List.all_eq_true.1 parse_all (p + 345).toNat (List.mem_range.2 (by omega))
  rw [show (((p + 345).toNat : Nat) : Int) - 345 = p by omega] at h
  have g := good_of_uchk h (by omega) (y := x) (by omega) (by omega) (by omega)
  rw [Nat.pow_zero, Nat.one_mul] at g
  have := g.up (row_is (by omega) (by omega)) (by omega) hx2 (s - 8)
  rwa [show 8 + (s - 8) = s by omega] at this
/-- what is written: at the shift 5 and above -/
theorem fmt_good {p : Int} (h1 : -292 ≤ p) (h2 : p ≤ 324) {s y : Nat} (hs : 5 ≤ s) (hy : 0 < y) (hy2 : y < 36028797018963968) : Good p s (512 * y) := by
  have h := List.all_eq_true.1 fmt_all (p + 292).toNat (List.mem_range.2 (by omega))
  rw [show (((p + 292).toNat : Nat) : Int) - 292 = p by omega] at h
  have g := good_of_uchk h (by omega) (y := y) hy hy2 hy
  have := g.up (row_is (by omega) (by omega)) (by show 0 < 512 * y; omega) (by show 512 * y < _; omega) (s - 5)
  rwa [show 5 + (s - 5) = s by omega] at this
end Pl
end Go.Proofs.YtpilniljhmkedaaGreatDoor
