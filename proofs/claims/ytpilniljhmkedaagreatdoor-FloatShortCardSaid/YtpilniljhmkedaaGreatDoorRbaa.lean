/- Plain: no number of fewer digits is rounded to the float whose shortest digits these are. Plain: how many digits a text has from the first to the last that is not nought. Plain: what a text's digits are, the kept ones and the rest. How many digits a text has: the walk of many. -/
import Derived.Test.YtpilniljhmkedaaGreatDoorRaap
import Derived.Test.YtpilniljhmkedaaGreatDoorRaam
import Derived.Test.YtpilniljhmkedaaGreatDoorRaas
import Derived.Deep.LoopGhost
namespace Go.Proofs.YtpilniljhmkedaaGreatDoor
namespace Fl
theorem rhe_back {p q n : Nat} (hq : 0 < q) (h : rhe p q = n) : (2 * p < (2 * n + 1) * q ∨ (2 * p = (2 * n + 1) * q ∧ n % 2 = 0)) ∧ ((2 * n) * q < 2 * p + q ∨ ((2 * n) * q = 2 * p + q ∧ n % 2 = 0)) := by
  have e := Nat.div_add_mod p q
  have hr := Nat.mod_lt p hq
  unfold rhe at h
  generalize p / q = f at e h
  generalize p % q = r at e hr h
  have e2 : q * f = f * q := Nat.mul_comm _ _
  rw [e2] at e
  cases hb : (decide (q < 2 * r) || (q == 2 * r && f % 2 == 1))
  · rw [hb] at h
    have hn : n = f := by rw [← h]; rfl
    subst hn
    rw [Bool.or_eq_false_iff, decide_eq_false_iff_not, Bool.and_eq_false_iff, beq_eq_false_iff_ne, beq_eq_false_iff_ne] at hb
    rw [Nat.add_mul, Nat.one_mul, Nat.mul_assoc]
    obtain ⟨b1, b2⟩ := hb
    generalize n * q = x at e ⊢
    constructor
    · rcases Nat.lt_or_ge (2 * r) q with h1 | h1
      · left; omega
      · right; rcases b2 with b2 | b2 <;> omega
    · left; omega
  · rw [hb] at h
    have hn : n = f + 1 := by rw [← h]; rfl
    subst hn
    rw [Bool.or_eq_true_iff, decide_eq_true_iff, Bool.and_eq_true_iff, beq_iff_eq, beq_iff_eq] at hb
    rw [show (2 * (f + 1) + 1) * q = 2 * (f * q) + 3 * q by rw [show 2 * (f + 1) + 1 = 2 * f + 3 by omega, Nat.add_mul, Nat.mul_assoc], show 2 * (f + 1) * q = 2 * (f * q) + 2 * q by rw [show 2 * (f + 1) = 2 * f + 2 by omega, Nat.add_mul, Nat.mul_assoc]]
    generalize f * q = x at e ⊢
    constructor
    · left; omega
    · rcases hb with hb | ⟨hb, hb2⟩
      · left; omega
      · right; omega
theorem rhe_back2 {p q n : Nat} (hq : 0 < q) (h : rhe p q = n) : (2 * p < 2 * (n * q) + q ∨ (2 * p = 2 * (n * q) + q ∧ n % 2 = 0)) ∧ (2 * (n * q) < 2 * p + q ∨ (2 * (n * q) = 2 * p + q ∧ n % 2 = 0)) := by
  have := rhe_back hq h
  rw [Nat.add_mul, Nat.one_mul, Nat.mul_assoc] at this
  exact this
theorem aux_r1 {P X Y Z : Nat} (h : 2 * Y + X ≤ Z) (b : 2 * Z ≤ 2 * P + X) (hup : P < 2 * Y) (hX : 0 < X) : False := by omega
theorem aux_r2 {P X Y Z : Nat} (h : Z + X ≤ Y) (b : 2 * P ≤ 2 * Z + X) (hlow : Y ≤ P) (hX : 0 < X) : False := by omega
theorem aux_l {P X Y : Nat} (b : 2 * (2 * Y) ≤ 2 * P + X) (hX : 0 < X) : 4 * Y < 2 * P + 2 * X := by omega
theorem aux_t {P X Y : Nat} (b : 2 * (2 * Y) ≤ 2 * P + X) : 8 * Y ≤ 4 * P + 2 * X := by omega
theorem near_of_rung {P Q m u : Nat} (hQ : 0 < Q) (hm0 : 0 < m) (hm : m < 9007199254740992) (hc : 4503599627370496 ≤ m ∨ u = 0) (hu : u ≤ 2045) (h : rung P Q = u * 4503599627370496 + m) : Near P Q m u := by
  have e52 : 2 ^ 52 = 4503599627370496 := rfl
  have e53 : 2 ^ 53 = 9007199254740992 := rfl
  unfold rung at h
  obtain ⟨k, hk⟩ : ∃ k, (P / Q).log2 - 52 = k := ⟨_, rfl⟩
  rw [hk] at h
  obtain ⟨X, hX⟩ : ∃ X, 2 ^ k * Q = X := ⟨_, rfl⟩
  have hX0 : 0 < X := by rw [← hX]; exact Nat.mul_pos (Nat.two_pow_pos _) hQ
  rw [Nat.mul_comm Q, hX] at h
  obtain ⟨Y, hY⟩ : ∃ Y, 4503599627370496 * X = Y := ⟨_, rfl⟩
  have hY2 : 9007199254740992 * X = 2 * Y := by rw [← hY, show 9007199254740992 = 2 * 4503599627370496 from rfl, Nat.mul_assoc]
  have hXY : X ≤ Y := by rw [← hY]; exact Nat.le_mul_of_pos_left X (by decide)
  have hup : P < 2 * Y := by
    have h1 : P / Q < 2 ^ (53 + k) := by
      have := Nat.lt_log2_self (n := P / Q)
      exact Nat.lt_of_lt_of_le this (Nat.pow_le_pow_right (by decide) (by omega))
    rw [Nat.div_lt_iff_lt_mul hQ, Nat.pow_add, e53, Nat.mul_assoc, hX, hY2] at h1
    exact h1
  have hlow : 0 < k → Y ≤ P := by
    intro hk0
    have hz : P / Q ≠ 0 := by
      intro hz
      rw [hz] at hk
      have : Nat.log2 0 = 0 := rfl
      omega
    have h1 : 2 ^ (52 + k) ≤ P / Q := by
      have := Nat.log2_self_le (n := P / Q) hz
      rwa [show (P / Q).log2 = 52 + k by omega] at this
    rw [Nat.le_div_iff_mul_le hQ, Nat.pow_add, e52, Nat.mul_assoc, hX, hY] at h1
    exact h1
  obtain ⟨r, hr⟩ : ∃ r, rhe P X = r := ⟨_, rfl⟩
  obtain ⟨b1, b2⟩ := rhe_back2 hX0 hr
  rw [hr] at h
  obtain ⟨Z, hZ⟩ : ∃ Z, r * X = Z := ⟨_, rfl⟩
  rw [hZ] at b1 b2
  have hr1 : r ≤ 9007199254740992 := by
    rcases Nat.lt_or_ge 9007199254740992 r with h1 | h1
    · exfalso
      have h2 : 9007199254740993 * X ≤ r * X := Nat.mul_le_mul_right X (show 9007199254740993 ≤ r from h1)
      have h3 : 9007199254740993 * X = 2 * Y + X := by rw [show 9007199254740993 = 9007199254740992 + 1 from rfl, Nat.add_mul, Nat.one_mul, hY2]
      rw [h3, hZ] at h2
      exact aux_r1 h2 (by rcases b2 with b2 | b2 <;> omega) hup hX0
    · exact h1
  have hr2 : 0 < k → 4503599627370496 ≤ r := by
    intro hk0
    rcases Nat.lt_or_ge r 4503599627370496 with h1 | h1
    · exfalso
      have h2 : (r + 1) * X ≤ 4503599627370496 * X := Nat.mul_le_mul_right X h1
      rw [Nat.succ_mul, hZ, hY] at h2
      exact aux_r2 h2 (by rcases b1 with b1 | b1 <;> omega) (hlow hk0) hX0
    · exact h1
  have hs : k * 4503599627370496 + r = u * 4503599627370496 + m := by
    clear b1 b2 hup hlow hY hY2 hZ hX hr hk
    omega
  clear h
  rcases Nat.lt_or_ge r 9007199254740992 with hr3 | hr3
  · have hku : k = u := by
      clear b1 b2 hup hlow hY hY2 hZ hX hr hk hXY hX0
      rcases Nat.eq_zero_or_pos k with h0 | h0
      · subst h0; rcases hc with hc | hc <;> omega
      · have := hr2 h0; rcases hc with hc | hc <;> omega
    subst hku
    obtain rfl : r = m := by clear b1 b2 hup hlow hY hY2 hZ hX hr hk hXY hX0; omega
    refine ⟨?_, ?_, fun h1 h2 => ?_⟩ <;> rw [hX]
    · rw [Nat.add_mul, Nat.one_mul, Nat.mul_assoc, hZ]; exact b1
    · rw [Nat.mul_assoc, hZ]; exact b2
    · have h3 := hlow h2
      have h4 : 18014398509481984 * X = 4 * Y := by
        rw [show 18014398509481984 = 2 * 9007199254740992 from rfl, Nat.mul_assoc, hY2]
        omega
      rw [h4]
      omega
  · obtain rfl : r = 9007199254740992 := Nat.le_antisymm hr1 hr3
    have hku : u = k + 1 ∧ m = 4503599627370496 := by
      clear b1 b2 hup hlow hY hY2 hZ hX hr hk hXY hX0
      rcases hc with hc | hc <;> omega
    obtain ⟨rfl, rfl⟩ := hku
    have hv : 2 ^ (k + 1) * Q = 2 * X := by rw [← hX, Nat.pow_succ, Nat.mul_comm (2 ^ k) 2, Nat.mul_assoc]
    rw [hY2] at hZ
    subst hZ
    have g1 : (2 * 4503599627370496 + 1) * (2 * X) = 4 * Y + 2 * X := by
      rw [show 2 * 4503599627370496 + 1 = 9007199254740992 + 1 from rfl, Nat.add_mul, Nat.one_mul, Nat.mul_left_comm, hY2]
      omega
    have g2 : 2 * 4503599627370496 * (2 * X) = 4 * Y := by
      rw [show 2 * 4503599627370496 = 9007199254740992 from rfl, Nat.mul_left_comm, hY2]
      omega
    have g3 : 18014398509481984 * (2 * X) = 8 * Y := by
      rw [show 18014398509481984 = 2 * 9007199254740992 from rfl, Nat.mul_assoc, Nat.mul_left_comm 9007199254740992, hY2]
      omega
    refine ⟨.inl ?_, .inl ?_, fun _ _ => ?_⟩ <;> rw [hv]
    · rw [g1]; omega
    · rw [g2]; exact aux_l (b2.elim Nat.le_of_lt (fun h => Nat.le_of_eq h.1)) hX0
    · rw [g3]; exact aux_t (b2.elim Nat.le_of_lt (fun h => Nat.le_of_eq h.1))
end Fl
namespace Pl
/-- of at most n digits, noughts behind not counted -/
def Sd (d n : Nat) : Prop := ∃ c t, d = c * 10 ^ t ∧ c < 10 ^ n
theorem back_lo {u L E d N k : Nat} {e p : Int} (he : e = (u : Int) - 1074 - L) (hE : E = 1074) (hk : k + 1 ≤ L + 1) (o : Nat) (h : N * (2 ^ u * 10 ^ p.toNat) + o ≤ 2 ^ k * (d * 10 ^ (-p).toNat * 2 ^ E)) (ho : o ≤ 1) : N * 2 ^ (L - k) * tT e p + o ≤ d * tY e p := by
  unfold tT tY
  obtain ⟨A, hA⟩ : ∃ A, 2 ^ e.toNat = A := ⟨_, rfl⟩
  obtain ⟨B, hB⟩ : ∃ B, 2 ^ (-e).toNat = B := ⟨_, rfl⟩
  obtain ⟨G, hG⟩ : ∃ G, 10 ^ (-p).toNat = G := ⟨_, rfl⟩
  obtain ⟨Q, hQ⟩ : ∃ Q, 10 ^ p.toNat = Q := ⟨_, rfl⟩
  obtain ⟨K, hK⟩ : ∃ K, 2 ^ (E + k) = K := ⟨_, rfl⟩
  obtain ⟨C, hC⟩ : ∃ C, 2 ^ (L - k) = C := ⟨_, rfl⟩
  obtain ⟨U, hU⟩ : ∃ U, 2 ^ u = U := ⟨_, rfl⟩
  have hB0 : 0 < B := by rw [← hB]; exact Nat.two_pow_pos _
  have hK0 : 0 < K := by rw [← hK]; exact Nat.two_pow_pos _
  have hCAK : C * A * K = U * B := by
    rw [← hC, ← hA, ← hK, ← hU, ← hB, ← Nat.pow_add, ← Nat.pow_add, ← Nat.pow_add]
    congr 1
    omega
  have hKE : K = 2 ^ k * 2 ^ E := by rw [← hK, Nat.pow_add, Nat.mul_comm]
  rw [hU, hG, hQ] at h
  rw [hA, hB, hG, hQ, hC]
  have l1 : N * C * (A * Q) * K = B * (N * (U * Q)) := by
    calc N * C * (A * Q) * K = N * (C * A * K) * Q := by ac_rfl
      _ = _ := by rw [hCAK]; ac_rfl
  have l2 : d * (B * G) * K = B * (2 ^ k * (d * G * 2 ^ E)) := by rw [hKE]; ac_rfl
  have h2 := Nat.mul_le_mul_left B h
  rw [Nat.mul_add, ← l1, ← l2] at h2
  rcases Nat.le_one_iff_eq_zero_or_eq_one.1 ho with rfl | rfl
  · exact Nat.le_of_mul_le_mul_right (by rw [Nat.add_zero]; omega) hK0
  · apply Nat.lt_of_mul_lt_mul_right (a := K)
    omega
theorem back_hi {u L E d N k : Nat} {e p : Int} (he : e = (u : Int) - 1074 - L) (hE : E = 1074) (hk : k + 1 ≤ L + 1) (o : Nat) (h : 2 ^ k * (d * 10 ^ (-p).toNat * 2 ^ E) + o ≤ N * (2 ^ u * 10 ^ p.toNat)) (ho : o ≤ 1) : d * tY e p + o ≤ N * 2 ^ (L - k) * tT e p := by
  unfold tT tY
  obtain ⟨A, hA⟩ : ∃ A, 2 ^ e.toNat = A := ⟨_, rfl⟩
  obtain ⟨B, hB⟩ : ∃ B, 2 ^ (-e).toNat = B := ⟨_, rfl⟩
  obtain ⟨G, hG⟩ : ∃ G, 10 ^ (-p).toNat = G := ⟨_, rfl⟩
  obtain ⟨Q, hQ⟩ : ∃ Q, 10 ^ p.toNat = Q := ⟨_, rfl⟩
  obtain ⟨K, hK⟩ : ∃ K, 2 ^ (E + k) = K := ⟨_, rfl⟩
  obtain ⟨C, hC⟩ : ∃ C, 2 ^ (L - k) = C := ⟨_, rfl⟩
  obtain ⟨U, hU⟩ : ∃ U, 2 ^ u = U := ⟨_, rfl⟩
  have hB0 : 0 < B := by rw [← hB]; exact Nat.two_pow_pos _
  have hK0 : 0 < K := by rw [← hK]; exact Nat.two_pow_pos _
  have hCAK : C * A * K = U * B := by
    rw [← hC, ← hA, ← hK, ← hU, ← hB, ← Nat.pow_add, ← Nat.pow_add, ← Nat.pow_add]
    congr 1
    omega
  have hKE : K = 2 ^ k * 2 ^ E := by rw [← hK, Nat.pow_add, Nat.mul_comm]
  rw [hU, hG, hQ] at h
  rw [hA, hB, hG, hQ, hC]
  have l1 : N * C * (A * Q) * K = B * (N * (U * Q)) := by
    calc N * C * (A * Q) * K = N * (C * A * K) * Q := by ac_rfl
      _ = _ := by rw [hCAK]; ac_rfl
  have l2 : d * (B * G) * K = B * (2 ^ k * (d * G * 2 ^ E)) := by rw [hKE]; ac_rfl
  have h2 := Nat.mul_le_mul_left B h
  rw [Nat.mul_add, ← l1, ← l2] at h2
  rcases Nat.le_one_iff_eq_zero_or_eq_one.1 ho with rfl | rfl
  · exact Nat.le_of_mul_le_mul_right (by rw [Nat.add_zero]; omega) hK0
  · apply Nat.lt_of_mul_lt_mul_right (a := K)
    omega
theorem ten_ratio (e p : Int) (j : Nat) : tT e (p + j) * tY e p = 10 ^ j * tT e p * tY e (p + j) := by
  unfold tT tY
  have h : 10 ^ (p + j).toNat * 10 ^ (-p).toNat = 10 ^ j * 10 ^ p.toNat * 10 ^ (-(p + j)).toNat := by
    rw [← Nat.pow_add, ← Nat.pow_add, ← Nat.pow_add]; congr 1; omega
  calc 2 ^ e.toNat * 10 ^ (p + j).toNat * (2 ^ (-e).toNat * 10 ^ (-p).toNat) = 2 ^ e.toNat * 2 ^ (-e).toNat * (10 ^ (p + j).toNat * 10 ^ (-p).toNat) := by ac_rfl
    _ = _ := by rw [h]; ac_rfl
/-- a range in which the number c with j places behind the point lies -/
structure InR (a b Y o c j : Nat) : Prop where
  lo : a * 10 ^ j + o ≤ c * Y
  hi : c * Y + o ≤ b * 10 ^ j
theorem down_lo {e p : Int} {j N d o : Nat} (ho : o ≤ 1) (h : N * tT e (p + j) + o ≤ d * tY e (p + j)) : N * tT e p * 10 ^ j + o ≤ d * tY e p := by
  have hr := ten_ratio e p j
  have h1 := tY_pos e (p + j)
  have h2 := tY_pos e p
  have h3 := Nat.mul_le_mul_right (tY e p) h
  rw [Nat.add_mul] at h3
  have e1 : N * tT e (p + j) * tY e p = N * tT e p * 10 ^ j * tY e (p + j) := by rw [Nat.mul_assoc, hr]; ac_rfl
  have e2 : d * tY e (p + j) * tY e p = d * tY e p * tY e (p + j) := by ac_rfl
  rw [e1, e2] at h3
  rcases Nat.le_one_iff_eq_zero_or_eq_one.1 ho with rfl | rfl
  · exact Nat.le_of_mul_le_mul_right (by rw [Nat.add_zero]; omega) h1
  · apply Nat.lt_of_mul_lt_mul_right (a := tY e (p + j))
    omega
theorem down_hi {e p : Int} {j N d o : Nat} (ho : o ≤ 1) (h : d * tY e (p + j) + o ≤ N * tT e (p + j)) : d * tY e p + o ≤ N * tT e p * 10 ^ j := by
  have hr := ten_ratio e p j
  have h1 := tY_pos e (p + j)
  have h2 := tY_pos e p
  have h3 := Nat.mul_le_mul_right (tY e p) h
  rw [Nat.add_mul] at h3
  have e1 : N * tT e (p + j) * tY e p = N * tT e p * 10 ^ j * tY e (p + j) := by rw [Nat.mul_assoc, hr]; ac_rfl
  have e2 : d * tY e (p + j) * tY e p = d * tY e p * tY e (p + j) := by ac_rfl
  rw [e1, e2] at h3
  rcases Nat.le_one_iff_eq_zero_or_eq_one.1 ho with rfl | rfl
  · exact Nat.le_of_mul_le_mul_right (by rw [Nat.add_zero]; omega) h1
  · apply Nat.lt_of_mul_lt_mul_right (a := tY e (p + j))
    omega
/-- which way the digits were picked: S lies in the range; no ten else does -/
structure Pick (a b Y o : Nat) (p : Int) (r : Nat × Int) (S : Nat) : Prop where
  inr : InR a b Y o S 0
  ten : (∃ d', S = 10 * d' ∧ r = (d', -(p - 1))) ∨ (r = (S, -p) ∧ ∀ c, ¬ InR a b Y o (10 * c) 0)
theorem inr0 {a b Y o c : Nat} : InR a b Y o c 0 ↔ a + o ≤ c * Y ∧ c * Y + o ≤ b :=
  ⟨fun h => ⟨by have := h.lo; rwa [Nat.pow_zero, Nat.mul_one] at this, by have := h.hi; rwa [Nat.pow_zero, Nat.mul_one] at this⟩, fun h => ⟨by rw [Nat.pow_zero, Nat.mul_one]; exact h.1, by rw [Nat.pow_zero, Nat.mul_one]; exact h.2⟩⟩
theorem sfT_pick {a v b Y odd sn sm sx : Nat} {p : Int} (hY : 0 < Y) (ho : odd ≤ 1) (hn : UnrIs a Y sn) (hm : UnrIs v Y sm) (hx : UnrIs b Y sx) (hav : a < v) (hvb : v < b) (hs1 : b - v ≤ 2 * (v - a)) (hs2 : v - a ≤ b - v) (hex : ∃ d, a + odd ≤ d * Y ∧ d * Y + odd ≤ b) :
    ∃ S, Pick a b Y odd p (sfT sn sm sx odd p) S := by
  obtain ⟨S, hS, hr⟩ := sfT_in (p := p) hY ho hn hm hx hav hvb hs1 hs2 hex
  have hlo : ∀ d, (sn + odd + 3) / 4 ≤ d ↔ a + odd ≤ d * Y := by
    intro d
    rcases Nat.le_one_iff_eq_zero_or_eq_one.1 ho with rfl | rfl
    · exact hn.ceil d
    · exact hn.above d
  have hhi : ∀ d, d ≤ (sx - odd) / 4 ↔ d * Y + odd ≤ b := by
    intro d
    rcases Nat.le_one_iff_eq_zero_or_eq_one.1 ho with rfl | rfl
    · exact hx.floor d
    · exact hx.below d
  by_cases c1 : (sn + odd + 3) / 4 ≤ (sx - odd) / 4 / 10 * 10
  · have hT : sfT sn sm sx odd p = ((sx - odd) / 4 / 10, -(p - 1)) := by unfold sfT; rw [if_pos c1]
    rw [hT]
    refine ⟨10 * ((sx - odd) / 4 / 10), inr0.2 ⟨(hlo _).1 (by omega), (hhi _).1 (by omega)⟩, .inl ⟨_, rfl, rfl⟩⟩
  · have hno : ∀ c, ¬ InR a b Y odd (10 * c) 0 := by
      intro c hc
      obtain ⟨k1, k2⟩ := inr0.1 hc
      have := (hlo _).2 k1
      have := (hhi _).2 k2
      omega
    rcases hr with hr | ⟨d', rfl, hr⟩
    · rw [hr]
      exact ⟨S, inr0.2 hS, .inr ⟨rfl, hno⟩⟩
    · exact absurd (inr0.2 hS) (hno d')
theorem ten_one {a b Y o x y : Nat} (hY : 0 < Y) (hw : b < a + 10 * Y) (hx : InR a b Y o (10 * x) 0) (hy : InR a b Y o (10 * y) 0) : x = y := by
  obtain ⟨x1, x2⟩ := inr0.1 hx
  obtain ⟨y1, y2⟩ := inr0.1 hy
  have key : ∀ {x y : Nat}, a + o ≤ 10 * x * Y → 10 * y * Y + o ≤ b → ¬ x < y := by
    intro x y h1 h2 h
    have h3 : 10 * (x + 1) * Y ≤ 10 * y * Y := Nat.mul_le_mul_right Y (by omega)
    have h4 : 10 * (x + 1) * Y = 10 * x * Y + 10 * Y := by rw [Nat.mul_add, Nat.add_mul, Nat.mul_one]
    omega
  have h1 := key x1 y2
  have h2 := key y1 x2
  omega
/-- of a number that is rounded to the same, the digits picked are no more -/
theorem pick_min {a b Y o S c j n : Nat} {p : Int} {r : Nat × Int} (hY : 0 < Y) (ho : o ≤ 1) (h : Pick a b Y o p r S) (hw : b < a + 10 * Y) (hn : 1 ≤ n) (hc : c < 10 ^ n) (hi : InR a b Y o c j) : Sd r.1 n := by
  obtain ⟨s1, s2⟩ := inr0.1 h.inr
  have hZ : 10 ^ n ≤ S → InR a b Y o (10 * 10 ^ (n - 1)) 0 := by
    intro hS
    have e1 : 10 * 10 ^ (n - 1) = 10 ^ n := by rw [Nat.mul_comm, ← Nat.pow_succ]; congr 1; omega
    rw [e1, inr0]
    have hj := Nat.pow_pos (n := j) (show 0 < 10 by decide)
    have k1 := hi.lo
    have k2 : (c + 1) * Y ≤ 10 ^ n * Y := Nat.mul_le_mul_right Y hc
    rw [Nat.add_mul, Nat.one_mul] at k2
    have k3 : 10 ^ n * Y * 1 ≤ 10 ^ n * Y * 10 ^ j := Nat.mul_le_mul_left _ hj
    have k4 := Nat.mul_le_mul_right Y hS
    have : a < 10 ^ n * Y := by
      apply Nat.lt_of_mul_lt_mul_right (a := 10 ^ j)
      omega
    constructor <;> omega
  rcases Nat.lt_or_ge S (10 ^ n) with hS | hS
  · rcases h.ten with ⟨d', rfl, hr⟩ | ⟨hr, _⟩
    · rw [hr]; exact ⟨d', 0, by rw [Nat.pow_zero, Nat.mul_one], by omega⟩
    · rw [hr]; exact ⟨S, 0, by rw [Nat.pow_zero, Nat.mul_one], hS⟩
  · have hz := hZ hS
    rcases h.ten with ⟨d', rfl, hr⟩ | ⟨_, hno⟩
    · have := ten_one hY hw h.inr hz
      rw [hr, this]
      exact ⟨1, n - 1, by rw [Nat.one_mul], Nat.one_lt_pow (by omega) (by decide)⟩
    · exact absurd hz (hno _)
theorem min_fin {a b E n c v S o : Nat} {e p q : Int} {r : Nat × Int} (ho : o ≤ 1) (h : Pick a b (tY e p) o p r S) (hw : b < a + 10 * tY e p) (hn : 1 ≤ n) (hc : c < 10 ^ n) (hall : ∀ (c' j : Nat), rnd E (c', -(p + j)) = v → InR a b (tY e p) o c' j) (hv : rnd E (c, q) = v) : Sd r.1 n := by
  rcases Int.lt_or_le 0 (q + p) with hi | hi
  · obtain ⟨i, hi2⟩ : ∃ i : Nat, q + p = (i : Int) + 1 := ⟨(q + p - 1).toNat, by omega⟩
    have e1 : rnd E (c * 10 ^ (i + 1), -(p + (0 : Nat))) = v := by
      have := rnd_shift E c q (i + 1)
      rw [← hv, ← this]
      congr 2
      omega
    have h1 := hall _ 0 e1
    rw [show c * 10 ^ (i + 1) = 10 * (c * 10 ^ i) by rw [Nat.pow_succ]; ac_rfl] at h1
    rcases h.ten with ⟨d', rfl, hr⟩ | ⟨_, hno⟩
    · have := ten_one (tY_pos e p) hw h.inr h1
      rw [hr, this]
      exact ⟨c, i, rfl, hc⟩
    · exact absurd h1 (hno _)
  · obtain ⟨j, hj⟩ : ∃ j : Nat, q = -(p + j) := ⟨(-(q + p)).toNat, by omega⟩
    rw [hj] at hv
    exact pick_min (tY_pos e p) ho h hw hn hc (hall _ _ hv)
def factW (e : Int) : Bool := decide (2048 * tT e (pN e) < 10 * tY e (pN e)) && decide (1536 * tT e (pS e) < 10 * tY e (pS e))
def factX (e : Int) : Bool := decide (2 ^ (-1074 - e).toNat * tT e 324 < 10 * tY e 324)
theorem factW_all : ((List.range 2046).all fun i => factW ((i : Int) - 1085)) = true := by decide +kernel
theorem factX_all : ((List.range 52).all fun i => factX ((i : Int) - 1137)) = true := by decide +kernel
/-- where a number lies that is rounded to this -/
theorem hall_mk {M u L E : Nat} {e p : Int} (he : e = (u : Int) - 1074 - L) (hE : E = 1074) (hL : 1 ≤ L) (hM0 : 0 < M) (hM : M < 9007199254740992) (hc : 4503599627370496 ≤ M ∨ u = 0) (hu : u ≤ 2045) (c j : Nat) (h : rnd E (c, -(p + j)) = u * 4503599627370496 + M) :
    InR ((2 * M - 1) * 2 ^ (L - 1) * tT e p) ((2 * M + 1) * 2 ^ (L - 1) * tT e p) (tY e p) (M % 2) c j ∧ (M = 4503599627370496 → 0 < u → 2 ≤ L → InR (18014398509481983 * 2 ^ (L - 2) * tT e p) (9007199254740993 * 2 ^ (L - 1) * tT e p) (tY e p) 0 c j) := by
  unfold rnd at h
  simp only at h
  rw [Int.neg_neg] at h
  obtain ⟨n1, n2, n3⟩ := Fl.near_of_rung (Nat.pow_pos (by decide)) hM0 hM hc hu h
  clear h
  have ho : M % 2 ≤ 1 := Nat.le_of_lt_succ (Nat.mod_lt _ (by decide))
  have key : ∀ X P : Nat, (2 * M * X < 2 * P + X ∨ (2 * M * X = 2 * P + X ∧ M % 2 = 0)) → (2 * M - 1) * X + M % 2 ≤ 2 ^ 1 * P := by
    intro X P n2
    rw [show (2 : Nat) ^ 1 = 2 from rfl]
    have e1 : (2 * M - 1) * X + X = 2 * M * X := by
      have : 2 * M - 1 + 1 = 2 * M := by omega
      calc (2 * M - 1) * X + X = (2 * M - 1 + 1) * X := by rw [Nat.add_mul, Nat.one_mul]
        _ = _ := by rw [this]
    generalize (2 * M - 1) * X = A at e1 ⊢
    generalize 2 * M * X = B at e1 n2
    clear hM hM0 hc
    rcases n2 with n2 | n2 <;> omega
  have key2 : ∀ X P : Nat, (2 * P < (2 * M + 1) * X ∨ (2 * P = (2 * M + 1) * X ∧ M % 2 = 0)) → 2 ^ 1 * P + M % 2 ≤ (2 * M + 1) * X := by
    intro X P n1
    rw [show (2 : Nat) ^ 1 = 2 from rfl]
    generalize (2 * M + 1) * X = A at n1 ⊢
    clear hM hM0 hc
    rcases n1 with n1 | n1 <;> omega
  constructor
  · constructor
    · exact down_lo ho (back_lo he hE (by omega) _ (key _ _ n2) ho)
    · exact down_hi ho (back_hi he hE (by omega) _ (key2 _ _ n1) ho)
  · intro h1 h2 h3
    have n3 := n3 h1 h2
    have k2 := key2 _ _ n1
    subst h1
    constructor
    · refine down_lo (o := 0) (by omega) (back_lo (k := 2) he hE (by omega) 0 ?_ (by omega))
      rw [show (2 : Nat) ^ 2 = 4 from rfl]
      generalize c * 10 ^ (-(p + (j : Int))).toNat * 2 ^ E = P at n3 ⊢
      generalize 2 ^ u * 10 ^ (p + (j : Int)).toNat = X at n3 ⊢
      clear n1 n2 key key2 k2 hM hM0 hc
      omega
    · exact down_hi (o := 0) (by omega) (back_hi (k := 1) he hE (by omega) 0 k2 (by omega))
theorem short_min {M L u E n c : Nat} {q : Int} (hE : E = 1074) (hM0 : 0 < M) (hM : M < 9007199254740992) (hc : 4503599627370496 ≤ M ∨ u = 0) (hu : u ≤ 2045) (hn1 : 9223372036854775808 ≤ M * 2 ^ L) (hn2 : M * 2 ^ L < 18446744073709551616) (hn : 1 ≤ n) (hcn : c < 10 ^ n) (hv : rnd E (c, q) = u * 4503599627370496 + M) :
    Sd (shortF (M * 2 ^ L) ((u : Int) - 1074 - L)).1 n := by
  obtain ⟨e, he⟩ : ∃ e : Int, (u : Int) - 1074 - L = e := ⟨_, rfl⟩
  rw [he]
  have he' : e = (u : Int) - 1074 - L := he.symm
  have hL1 : 1 ≤ L := by
    rcases Nat.eq_zero_or_pos L with h0 | h0
    · subst h0; omega
    · exact h0
  have hall := fun p => hall_mk (p := p) he' hE hL1 hM0 hM hc hu
  by_cases hbig : 4503599627370496 ≤ M
  · have hL : L = 11 := by
      rcases Nat.lt_trichotomy L 11 with h | h | h
      · exfalso
        have : 2 ^ L ≤ 2 ^ 10 := Nat.pow_le_pow_right (by decide) (by omega)
        have := Nat.mul_le_mul hM this
        have h10 : 2 ^ 10 = 1024 := rfl
        rw [h10] at this
        have h2 := Nat.mul_le_mul_left M ‹2 ^ L ≤ 2 ^ 10›
        rw [h10] at h2
        omega
      · exact h
      · exfalso
        have : 2 ^ 12 ≤ 2 ^ L := Nat.pow_le_pow_right (by decide) h
        have h2 := Nat.mul_le_mul_left M this
        have h12 : 2 ^ 12 = 4096 := rfl
        rw [h12] at h2
        omega
    subst hL
    have h11 : 2 ^ 11 = 2048 := rfl
    rw [h11] at hn1 hn2 ⊢
    have hmx : M * 2048 + 1024 < 18446744073709551616 := by
      have h3 : M * 2048 + 1024 ≤ 9007199254740991 * 2048 + 1024 := Nat.add_le_add_right (Nat.mul_le_mul_right 2048 (Nat.le_of_lt_succ hM)) 1024
      exact Nat.lt_of_le_of_lt h3 (by decide)
    unfold shortF
    have hr : (e + 1085).toNat < 2046 := by omega
    have hre : (((e + 1085).toNat : Nat) : Int) - 1085 = e := by omega
    by_cases hsk : M * 2048 = 9223372036854775808 ∧ -1085 < e
    · rw [if_pos hsk]
      have hM52 : M = 4503599627370496 := by omega
      have hw := List.all_eq_true.1 factW_all (e + 1085).toNat (List.mem_range.2 hr)
      rw [hre] at hw
      have hw := of_decide_eq_true (Bool.and_eq_true_iff.1 hw).2
      have hf := List.all_eq_true.1 factS_all (e + 1085).toNat (List.mem_range.2 hr)
      rw [hre] at hf
      obtain ⟨f1, f2, f3, f4, f5⟩ := of_decide_eq_true hf
      change Sd (sfTail (M * 2048) (M * 2048 - 512) (M * 2048 + 1024) (M * 2048 / 2048 % 2) e (pS e)).1 n
      generalize pS e = p at f1 f2 f3 f4 f5 hw ⊢
      have hodd : M * 2048 / 2048 % 2 = 0 := by omega
      rw [hodd]
      have g : ∀ y, 0 < y → y < 36028797018963968 → UnrIs (512 * y * tT e p) (tY e p) (scal (512 * y) e p) := fun y h1 h2 =>
        scal_is (by omega) (by omega) (by omega) (by omega) (by omega) (fmt_good f1 f2 (by unfold sh; omega) h1 h2)
      have gm := g (M * 4) (by omega) (by omega)
      have gn := g (M * 4 - 1) (by omega) (by omega)
      have gx := g (M * 4 + 2) (by omega) (by omega)
      rw [show 512 * (M * 4) = M * 2048 by omega] at gm
      rw [show 512 * (M * 4 - 1) = M * 2048 - 512 by omega] at gn
      rw [show 512 * (M * 4 + 2) = M * 2048 + 1024 by omega] at gx
      have hT := tT_pos e p
      have hY := tY_pos e p
      have w1 : (M * 2048 - 512) * tT e p + 512 * tT e p = M * 2048 * tT e p := by rw [← Nat.add_mul, show M * 2048 - 512 + 512 = M * 2048 by omega]
      have w2 : M * 2048 * tT e p + 1024 * tT e p = (M * 2048 + 1024) * tT e p := by rw [← Nat.add_mul]
      obtain ⟨S, hP⟩ := sfT_pick (p := p) hY (show 0 ≤ 1 by omega) gn gm gx (by omega) (by omega) (by omega) (by omega) (ex_even hY (by omega))
      refine min_fin (by omega) hP (by omega) hn hcn (fun c' j h => ?_) hv
      have hi := (hall p c' j h).2 hM52 (by omega) (by omega)
      rw [show 18014398509481983 * 2 ^ (11 - 2) = M * 2048 - 512 by rw [hM52], show 9007199254740993 * 2 ^ (11 - 1) = M * 2048 + 1024 by rw [hM52]] at hi
      exact hi
    · rw [if_neg hsk, if_pos (by omega)]
      have hw := List.all_eq_true.1 factW_all (e + 1085).toNat (List.mem_range.2 hr)
      rw [hre] at hw
      have hw := of_decide_eq_true (Bool.and_eq_true_iff.1 hw).1
      have hf := List.all_eq_true.1 factN_all (e + 1085).toNat (List.mem_range.2 hr)
      rw [hre] at hf
      obtain ⟨f1, f2, f3, f4, f5⟩ := of_decide_eq_true hf
      change Sd (sfTail (M * 2048) (M * 2048 - 1024) (M * 2048 + 1024) (M * 2048 / 2048 % 2) e (pN e)).1 n
      have hpN : e = -11 → pN e = 0 := by rintro rfl; rfl
      generalize pN e = p at f1 f2 f3 f4 f5 hpN hw ⊢
      have hodd : M * 2048 / 2048 % 2 = M % 2 := by omega
      rw [hodd]
      have g : ∀ y, 0 < y → y < 36028797018963968 → UnrIs (512 * y * tT e p) (tY e p) (scal (512 * y) e p) := fun y h1 h2 =>
        scal_is (by omega) (by omega) (by omega) (by omega) (by omega) (fmt_good f1 f2 (by unfold sh; omega) h1 h2)
      have gm := g (M * 4) (by omega) (by omega)
      have gn := g (M * 4 - 2) (by omega) (by omega)
      have gx := g (M * 4 + 2) (by omega) (by omega)
      rw [show 512 * (M * 4) = M * 2048 by omega] at gm
      rw [show 512 * (M * 4 - 2) = M * 2048 - 1024 by omega] at gn
      rw [show 512 * (M * 4 + 2) = M * 2048 + 1024 by omega] at gx
      have hT := tT_pos e p
      have hY := tY_pos e p
      have w1 : (M * 2048 - 1024) * tT e p + 1024 * tT e p = M * 2048 * tT e p := by rw [← Nat.add_mul, show M * 2048 - 1024 + 1024 = M * 2048 by omega]
      have w2 : M * 2048 * tT e p + 1024 * tT e p = (M * 2048 + 1024) * tT e p := by rw [← Nat.add_mul]
      have hex : ∃ d, (M * 2048 - 1024) * tT e p + M % 2 ≤ d * tY e p ∧ d * tY e p + M % 2 ≤ (M * 2048 + 1024) * tT e p := by
        rcases f4 with f4 | f4
        · have hp0 := hpN f4
          subst f4 hp0
          have t1 : tT (-11) 0 = 1 := rfl
          have t2 : tY (-11) 0 = 2048 := rfl
          rw [t1, t2]
          exact ⟨M, by omega, by omega⟩
        · exact ex_wide hY (by omega) (by omega)
      obtain ⟨S, hP⟩ := sfT_pick (p := p) hY (show M % 2 ≤ 1 by omega) gn gm gx (by omega) (by omega) (by omega) (by omega) hex
      refine min_fin (by omega) hP (by omega) hn hcn (fun c' j h => ?_) hv
      have hi := (hall p c' j h).1
      rw [show (2 * M - 1) * 2 ^ (11 - 1) = M * 2048 - 1024 by rw [show (2 : Nat) ^ (11 - 1) = 1024 from rfl]; omega, show (2 * M + 1) * 2 ^ (11 - 1) = M * 2048 + 1024 by rw [show (2 : Nat) ^ (11 - 1) = 1024 from rfl]; omega] at hi
      exact hi
  · have hu0 : u = 0 := by omega
    subst hu0
    have hL1 : 12 ≤ L := by
      rcases Nat.lt_or_ge L 12 with h | h
      · exfalso
        have h3 : 2 ^ L ≤ 2 ^ 11 := Nat.pow_le_pow_right (by decide) (by omega)
        have h2 := Nat.mul_le_mul_left M h3
        have h11 : 2 ^ 11 = 2048 := rfl
        rw [h11] at h2
        omega
      · exact h
    have hL2 : L ≤ 63 := by
      rcases Nat.lt_or_ge 63 L with h | h
      · exfalso
        have h3 : 2 ^ 64 ≤ 2 ^ L := Nat.pow_le_pow_right (by decide) h
        have h2 := Nat.mul_le_mul_right (2 ^ L) hM0
        have h64 : 2 ^ 64 = 18446744073709551616 := rfl
        rw [h64] at h3
        omega
      · exact h
    obtain ⟨l, rfl⟩ : ∃ l, L = l + 10 := ⟨L - 10, by omega⟩
    have hl512 : 2 ^ (l + 10) = 512 * (2 * 2 ^ l) := by rw [Nat.pow_add, show 2 ^ 10 = 512 * 2 from rfl, Nat.mul_comm, Nat.mul_assoc]
    have hl9 : 2 ^ (l + 10 - 1) = 512 * 2 ^ l := by rw [show l + 10 - 1 = l + 9 by omega, Nat.pow_add, show 2 ^ 9 = 512 from rfl, Nat.mul_comm]
    have hf := List.all_eq_true.1 factD_all (e + 1137).toNat (List.mem_range.2 (by omega))
    rw [show (((e + 1137).toNat : Nat) : Int) - 1137 = e by omega] at hf
    obtain ⟨f3, f4, f5⟩ := of_decide_eq_true hf
    unfold shortF
    rw [if_neg (by omega), if_neg (by omega)]
    change Sd (sfTail (M * 2 ^ (l + 10)) (M * 2 ^ (l + 10) - 2 ^ (-1075 - e).toNat) (M * 2 ^ (l + 10) + 2 ^ (-1075 - e).toNat) (M * 2 ^ (l + 10) / 2 ^ (-1074 - e).toNat % 2) e 324).1 n
    rw [show (-1075 - e).toNat = l + 10 - 1 by omega, show (-1074 - e).toNat = l + 10 by omega, Nat.mul_div_cancel _ (Nat.two_pow_pos _)]
    rw [show (-1074 - e).toNat = l + 10 by omega] at f4
    obtain ⟨W, hW⟩ : ∃ W, 2 ^ l = W := ⟨_, rfl⟩
    have hW0 : 0 < W := by rw [← hW]; exact Nat.two_pow_pos _
    rw [hW] at hl512 hl9
    have hMW : W ≤ M * W := Nat.le_mul_of_pos_left W hM0
    have hm1 : M * 2 ^ (l + 10) = 512 * (2 * (M * W)) := by rw [hl512]; simp only [Nat.mul_left_comm M]
    rw [hm1] at hn1 hn2 ⊢
    rw [hl9]
    rw [hl512] at f4
    have hMW2 : M * W + W ≤ 18014398509481984 := by
      have e54 : 2 ^ (54 - l) * W = 18014398509481984 := by rw [← hW, ← Nat.pow_add, show 54 - l + l = 54 by omega]
      have h1 : M < 2 ^ (54 - l) := by
        apply Nat.lt_of_mul_lt_mul_right (a := W)
        rw [e54]; omega
      have h2 := Nat.mul_le_mul_right W h1
      rw [e54, Nat.succ_mul] at h2
      exact h2
    have g : ∀ y, 0 < y → y < 36028797018963968 → UnrIs (512 * y * tT e 324) (tY e 324) (scal (512 * y) e 324) := fun y h1 h2 =>
      scal_is (by omega) (by omega) (by omega) (by omega) (by omega) (fmt_good (by omega) (by omega) (by unfold sh; omega) h1 h2)
    have gm := g (2 * (M * W)) (by omega) (by omega)
    have gn := g (2 * (M * W) - W) (by omega) (by omega)
    have gx := g (2 * (M * W) + W) (by omega) (by omega)
    rw [Nat.mul_sub] at gn
    rw [Nat.mul_add] at gx
    have hT := tT_pos e 324
    have hY := tY_pos e 324
    have w1 : (512 * (2 * (M * W)) - 512 * W) * tT e 324 + 512 * W * tT e 324 = 512 * (2 * (M * W)) * tT e 324 := by rw [← Nat.add_mul, Nat.sub_add_cancel (by omega)]
    have w2 : 512 * (2 * (M * W)) * tT e 324 + 512 * W * tT e 324 = (512 * (2 * (M * W)) + 512 * W) * tT e 324 := by rw [← Nat.add_mul]
    have w3 : 512 * (2 * W) * tT e 324 = 2 * (512 * W * tT e 324) := by ac_rfl
    have w4 : 0 < 512 * W * tT e 324 := Nat.mul_pos (by omega) hT
    obtain ⟨S, hP⟩ := sfT_pick (p := 324) hY (show M % 2 ≤ 1 by omega) gn gm gx (by omega) (by omega) (by omega) (by omega) (ex_wide hY (by omega) (by omega))
    have hf2 := of_decide_eq_true (List.all_eq_true.1 factX_all (e + 1137).toNat (List.mem_range.2 (by omega)))
    rw [show (((e + 1137).toNat : Nat) : Int) - 1137 = e by omega, show (-1074 - e).toNat = l + 10 by omega, hl512] at hf2
    refine min_fin (by omega) hP (by omega) hn hcn (fun c' j h => ?_) hv
    have hi := (hall 324 c' j h).1
    rw [hl9, show (2 * M - 1) * (512 * W) = 512 * (2 * (M * W)) - 512 * W by rw [Nat.sub_mul, Nat.one_mul, show 2 * M * (512 * W) = 512 * (2 * (M * W)) by ac_rfl], show (2 * M + 1) * (512 * W) = 512 * (2 * (M * W)) + 512 * W by rw [Nat.add_mul, Nat.one_mul, show 2 * M * (512 * W) = 512 * (2 * (M * W)) by ac_rfl]] at hi
    exact hi
end Pl
end Go.Proofs.YtpilniljhmkedaaGreatDoor
namespace Go.Proofs.YtpilniljhmkedaaGreatDoor
open Go.RowKit Go.Lib
namespace Pl
structure Ms where
  n : Nat
  first : Int
  last : Int
def Ms.zero : Ms := ⟨0, -1, -1⟩
def mstep (s : Ms) (c : UInt8) : Ms := if c.toNat < 48 ∨ 57 < c.toNat then s else if c = 48 then ⟨s.n + 1, s.first, s.last⟩ else ⟨s.n + 1, if s.first < 0 then s.n else s.first, s.n⟩
def mrun (l : List UInt8) : Ms := l.foldl mstep Ms.zero
def Ms.res (s : Ms) : Int := if s.first < 0 then 0 else s.last - s.first + 1
theorem mrun_snoc (l : List UInt8) (c : UInt8) : mrun (l ++ [c]) = mstep (mrun l) c := by simp [mrun]
structure Ms.Ok (s : Ms) (k : Nat) : Prop where
  n : s.n ≤ k
  f : -1 ≤ s.first
  fl : s.first ≤ s.last
  l : s.last < s.n
  b : 0 ≤ s.last → 0 ≤ s.first
theorem mrun_ok (l : List UInt8) : (mrun l).Ok l.length := by
  induction l using snocRec with
  | nil => exact ⟨by decide, by decide, by decide, by decide, by decide⟩
  | snoc l c ih =>
    obtain ⟨h1, h2, h3, h4, h5⟩ := ih
    rw [mrun_snoc, List.length_append, List.length_singleton]
    generalize mrun l = s at h1 h2 h3 h4 h5 ⊢
    unfold mstep
    split
    · exact ⟨by omega, h2, h3, h4, h5⟩
    · split
      · exact ⟨by simp only; omega, h2, h3, by simp only; omega, h5⟩
      · constructor <;> simp only <;> (try split) <;> omega
theorem mrun_digits (l : List UInt8) (h : ∀ c ∈ l, digit c) : (mrun l).n = l.length ∧ (((mrun l).first = -1 ∧ (mrun l).last = -1 ∧ vl l = 0) ∨
    ∃ f la e : Nat, (mrun l).first = f ∧ (mrun l).last = la ∧ f ≤ la ∧ la < l.length ∧ vl l = e * 10 ^ (l.length - 1 - la) ∧ e % 10 ≠ 0 ∧ 10 ^ (la - f) ≤ e ∧ e < 10 ^ (la - f + 1)) := by
  induction l using snocRec with
  | nil => exact ⟨rfl, .inl ⟨rfl, rfl, rfl⟩⟩
  | snoc l c ih =>
    have hc := h c (by simp)
    obtain ⟨i1, i2⟩ := ih (fun x hx => h x (by simp [hx]))
    unfold digit at hc
    have hd : ¬ (c.toNat < 48 ∨ 57 < c.toNat) := by omega
    rw [mrun_snoc, vl_snoc, List.length_append, List.length_singleton]
    unfold mstep
    rw [if_neg hd]
    by_cases h48 : c = 48
    · rw [if_pos h48]
      refine ⟨by simp only; omega, ?_⟩
      have h480 : c.toNat - 48 = 0 := by rw [h48]; rfl
      rw [h480]
      rcases i2 with ⟨a1, a2, a3⟩ | ⟨f, la, e, a1, a2, a3, a4, a5, a6, a7, a8⟩
      · exact .inl ⟨a1, a2, by omega⟩
      · refine .inr ⟨f, la, e, a1, a2, a3, by omega, ?_, a6, a7, a8⟩
        rw [a5, show l.length + 1 - 1 - la = l.length - 1 - la + 1 by omega, Nat.pow_succ, Nat.add_zero, Nat.mul_assoc]
    · rw [if_neg h48]
      have hn48 : c.toNat ≠ 48 := fun e => h48 (UInt8.toNat_inj.1 e)
      refine ⟨by simp only; omega, .inr ?_⟩
      rcases i2 with ⟨a1, a2, a3⟩ | ⟨f, la, e, a1, a2, a3, a4, a5, a6, a7, a8⟩
      · refine ⟨l.length, l.length, c.toNat - 48, ?_, by simp only; omega, Nat.le_refl _, by omega, ?_, by omega, ?_, ?_⟩
        · simp only [a1]; rw [if_pos (by decide)]; omega
        · rw [a3, show l.length + 1 - 1 - l.length = 0 by omega]; omega
        · rw [Nat.sub_self]; show 1 ≤ _; omega
        · rw [Nat.sub_self]; show _ < 10; omega
      · refine ⟨f, l.length, vl l * 10 + (c.toNat - 48), ?_, by simp only; omega, by omega, by omega, ?_, by omega, ?_, ?_⟩
        · simp only [a1]; rw [if_neg (by omega)]
        · rw [show l.length + 1 - 1 - l.length = 0 by omega]; omega
        · have : 10 ^ (l.length - f) = 10 ^ (la - f) * 10 ^ (l.length - 1 - la) * 10 := by rw [← Nat.pow_add, ← Nat.pow_succ]; congr 1; omega
          rw [this, a5]
          have := Nat.mul_le_mul_right (10 ^ (l.length - 1 - la)) a7
          omega
        · have : 10 ^ (l.length - f + 1) = 10 ^ (la - f + 1) * 10 ^ (l.length - 1 - la) * 10 := by rw [← Nat.pow_add, ← Nat.pow_succ]; congr 1; omega
          rw [this, a5]
          have h3 : (e + 1) * 10 ^ (l.length - 1 - la) ≤ 10 ^ (la - f + 1) * 10 ^ (l.length - 1 - la) := Nat.mul_le_mul_right _ a8
          rw [Nat.add_mul, Nat.one_mul] at h3
          have h4 := Nat.pow_pos (n := l.length - 1 - la) (show 0 < 10 by decide)
          omega
theorem mrun_skip (A B : List UInt8) : mrun (A ++ 46 :: B) = mrun (A ++ B) := by
  unfold mrun
  rw [List.foldl_append, List.foldl_append, List.foldl_cons]
  rfl
theorem mrun_sign (M : List UInt8) : mrun (45 :: M) = mrun M := rfl
theorem res_zero {l : List UInt8} (h : ∀ c ∈ l, digit c) (h0 : vl l = 0) : (mrun l).res = 0 := by
  obtain ⟨_, ⟨a1, _, _⟩ | ⟨f, la, e, a1, a2, a3, a4, a5, a6, a7, a8⟩⟩ := mrun_digits l h
  · unfold Ms.res; rw [a1]; rfl
  · exfalso
    have h4 := Nat.pow_pos (n := l.length - 1 - la) (show 0 < 10 by decide)
    have h5 := Nat.pow_pos (n := la - f) (show 0 < 10 by decide)
    have := Nat.mul_pos (show 0 < e by omega) h4
    omega
theorem res_sd {l : List UInt8} (h : ∀ c ∈ l, digit c) (h0 : vl l ≠ 0) : ∃ n : Nat, (mrun l).res = n ∧ 1 ≤ n ∧ ∃ c t, vl l = c * 10 ^ t ∧ c < 10 ^ n := by
  obtain ⟨_, ⟨_, _, a3⟩ | ⟨f, la, e, a1, a2, a3, a4, a5, a6, a7, a8⟩⟩ := mrun_digits l h
  · exact absurd a3 h0
  · refine ⟨la - f + 1, ?_, by omega, e, _, a5, a8⟩
    unfold Ms.res
    rw [a1, a2, if_neg (by omega)]; omega
theorem res_le {l : List UInt8} (h : ∀ c ∈ l, digit c) {a c t n : Nat} (he : vl l * 10 ^ a = c * 10 ^ t) (hc : c < 10 ^ n) : (mrun l).res ≤ n := by
  obtain ⟨_, ⟨a1, _, _⟩ | ⟨f, la, e, a1, a2, a3, a4, a5, a6, a7, a8⟩⟩ := mrun_digits l h
  · unfold Ms.res; rw [a1]; simp only [show (-1 : Int) < 0 from by decide, if_true]; omega
  · rw [a5, Nat.mul_assoc, ← Nat.pow_add] at he
    obtain ⟨k, hk⟩ : ∃ k, l.length - 1 - la + a = k := ⟨_, rfl⟩
    rw [hk] at he
    have htk : t ≤ k := by
      rcases Nat.lt_or_ge k t with h1 | h1
      · exfalso
        have e1 : e = c * 10 ^ (t - k) := by
          apply Nat.eq_of_mul_eq_mul_right (Nat.pow_pos (n := k) (show 0 < 10 by decide))
          rw [he, Nat.mul_assoc, ← Nat.pow_add]; congr 2; omega
        apply a6
        rw [e1, show t - k = (t - k - 1) + 1 by omega, Nat.pow_succ, ← Nat.mul_assoc]
        exact Nat.mul_mod_left _ _
      · exact h1
    have e2 : c = e * 10 ^ (k - t) := by
      apply Nat.eq_of_mul_eq_mul_right (Nat.pow_pos (n := t) (show 0 < 10 by decide))
      rw [← he, Nat.mul_assoc, ← Nat.pow_add]; congr 2; omega
    have h3 : e * 1 ≤ e * 10 ^ (k - t) := Nat.mul_le_mul_left _ (Nat.pow_pos (by decide))
    have h4 : 10 ^ (la - f) < 10 ^ n := by omega
    have h5 : la - f < n := (Nat.pow_lt_pow_iff_right (by decide)).1 h4
    unfold Ms.res
    rw [a1, a2, if_neg (by omega)]; omega
end Pl
end Go.Proofs.YtpilniljhmkedaaGreatDoor
namespace Go.Proofs.YtpilniljhmkedaaGreatDoor
open Go.RowKit Go.Lib
namespace Pl
/-- the kept digits m, and what is left behind them -/
structure Rv (s : St) (V : Nat) : Prop where
  le : s.nm ≤ s.nd
  lt : s.nm < 19 → s.nm = s.nd
  v : ∃ r, V = s.m * 10 ^ (s.nd - s.nm) + r ∧ r < 10 ^ (s.nd - s.nm) ∧ (s.tr = false → r = 0) ∧ (s.tr = true → 0 < r)
  z : s.nd = 0 → s.m = 0
  lo : 0 < s.nd → 0 < s.nm ∧ 10 ^ (s.nm - 1) ≤ s.m
theorem rv_step {s : St} {V : Nat} {c : UInt8} (h : Rv s V) (hc : c = 46 ∨ digit c) : Rv (step s c) (if c = 46 then V else V * 10 + (c.toNat - 48)) := by
  obtain ⟨h1, h2, ⟨r, h3, h4, h5, h6⟩, h7, h8⟩ := h
  unfold step
  by_cases e46 : c = 46
  · rw [if_pos e46, if_pos e46]
    exact ⟨h1, h2, ⟨r, h3, h4, h5, h6⟩, h7, h8⟩
  · rw [if_neg e46, if_neg e46]
    have hd : digit c := hc.resolve_left e46
    unfold digit at hd
    by_cases e48 : c = 48 ∧ s.nd = 0
    · rw [if_pos e48]
      have hn0 : s.nm = 0 := by omega
      have hm0 := h7 e48.2
      have hr0 : r = 0 := by rw [e48.2, hn0] at h4; simpa using h4
      have hV : V = 0 := by rw [h3, hm0, hr0]; simp
      have hc0 : c.toNat - 48 = 0 := by rw [e48.1]; rfl
      rw [hc0]
      refine ⟨h1, h2, ⟨r, ?_, h4, h5, h6⟩, h7, h8⟩
      rw [← h3, hV]
    · rw [if_neg e48]
      by_cases e19 : s.nm < 19
      · rw [if_pos e19]
        have e := h2 e19
        rw [e, Nat.sub_self, Nat.pow_zero, Nat.mul_one] at h3
        rw [e, Nat.sub_self, Nat.pow_zero] at h4
        have hr0 : r = 0 := by omega
        refine ⟨by simp only; omega, fun _ => by simp only; omega, ⟨0, ?_, Nat.pow_pos (by decide), fun _ => rfl, fun ht => absurd (h6 ht) (by omega)⟩, fun h => by simp at h, fun _ => ⟨by simp only; omega, ?_⟩⟩
        · simp only
          rw [e, Nat.sub_self, Nat.pow_zero, Nat.mul_one, Nat.add_zero, h3, hr0, Nat.add_zero]
        · simp only
          rw [Nat.add_sub_cancel]
          rcases Nat.eq_zero_or_pos s.nd with h0 | h0
          · have : c ≠ 48 := fun e => e48 ⟨e, h0⟩
            have : c.toNat ≠ 48 := fun e => this (UInt8.toNat_inj.1 e)
            rw [show s.nm = 0 by omega]
            show 1 ≤ _
            omega
          · obtain ⟨k1, k2⟩ := h8 h0
            have : 10 ^ s.nm = 10 ^ (s.nm - 1) * 10 := by rw [← Nat.pow_succ]; congr 1; omega
            rw [this]; omega
      · rw [if_neg e19]
        have hp : 10 ^ (s.nd + 1 - s.nm) = 10 ^ (s.nd - s.nm) * 10 := by rw [← Nat.pow_succ]; congr 1; omega
        refine ⟨by simp only; omega, fun h => absurd h e19, ⟨r * 10 + (c.toNat - 48), ?_, ?_, ?_, ?_⟩, fun h => by simp at h, fun _ => h8 (by omega)⟩
        · simp only
          rw [hp, h3, ← Nat.mul_assoc]; omega
        · simp only
          rw [hp]; omega
        · intro ht
          simp only [Bool.or_eq_false_iff, decide_eq_false_iff_not, ne_eq, Decidable.not_not] at ht
          have := h5 ht.1
          have h48 : c.toNat - 48 = 0 := by rw [ht.2]; rfl
          omega
        · intro ht
          simp only [Bool.or_eq_true_iff, decide_eq_true_eq, ne_eq] at ht
          rcases ht with ht | ht
          · have := h6 ht; omega
          · have : c.toNat ≠ 48 := fun e => ht (UInt8.toNat_inj.1 e)
            omega
theorem rv_run (l : List UInt8) (h : ∀ c ∈ l, c = 46 ∨ digit c) : Rv (run l) (dv l) := by
  induction l using snocRec with
  | nil => exact ⟨Nat.le_refl _, fun _ => rfl, ⟨0, rfl, by decide, fun _ => rfl, fun h => by cases h⟩, fun _ => rfl, fun h => absurd h (by decide)⟩
  | snoc l c ih =>
    rw [run_snoc, dv_snoc]
    exact rv_step (ih (fun x hx => h x (by simp [hx]))) (h c (by simp))
/-- cut digits are more than nineteen -/
theorem rv_cut {s : St} {V c t n : Nat} (h : Rv s V) (h19 : s.nm ≤ 19) (htr : s.tr = true) (hv : V = c * 10 ^ t) (hc : c < 10 ^ n) : 19 < n := by
  obtain ⟨h1, h2, ⟨r, h3, h4, h5, h6⟩, h7, h8⟩ := h
  have hr := h6 htr
  rcases Nat.lt_or_ge 19 n with hn | hn
  · exact hn
  · exfalso
    have hnm : s.nm = 19 := by
      rcases Nat.lt_or_ge s.nm 19 with h | h
      · have e := h2 h
        rw [e, Nat.sub_self, Nat.pow_zero] at h4
        omega
      · omega
    obtain ⟨k1, k2⟩ := h8 (by omega)
    rw [hnm] at h3 h4 k2
    obtain ⟨k, hk⟩ : ∃ k, s.nd - 19 = k := ⟨_, rfl⟩
    rw [hk] at h3 h4
    have hkt : k ≤ t := by
      rcases Nat.lt_or_ge t k with h | h
      · exfalso
        have a1 : 10 ^ 18 * 10 ^ k ≤ c * 10 ^ t := by
          rw [← hv, h3]
          exact Nat.le_trans (Nat.mul_le_mul_right _ k2) (Nat.le_add_right _ _)
        have a2 : c * 10 ^ t < 10 ^ 19 * 10 ^ t := Nat.mul_lt_mul_of_pos_right (Nat.lt_of_lt_of_le hc (Nat.pow_le_pow_right (by decide) hn)) (Nat.pow_pos (by decide))
        have a3 : 10 ^ 19 * 10 ^ t ≤ 10 ^ 18 * 10 ^ k := by
          rw [← Nat.pow_add, ← Nat.pow_add]
          exact Nat.pow_le_pow_right (by decide) (by omega)
        omega
      · exact h
    have e1 : c * 10 ^ t = c * 10 ^ (t - k) * 10 ^ k := by rw [Nat.mul_assoc, ← Nat.pow_add]; congr 2; omega
    rw [hv, e1] at h3
    have h10 : 0 < 10 ^ k := Nat.pow_pos (by decide)
    have b1 : r % 10 ^ k = 0 := by
      have := congrArg (· % 10 ^ k) h3
      simp only [Nat.mul_mod_left, Nat.mul_add_mod_self_right] at this
      exact this.symm
    rw [Nat.mod_eq_of_lt h4] at b1
    omega
end Pl
end Go.Proofs.YtpilniljhmkedaaGreatDoor
namespace Go.Proofs.YtpilniljhmkedaaGreatDoor
open Go.RowKit Go.Lib
set_option maxHeartbeats 4000000 in
theorem many_any (M T : List UInt8) (w : World) (hM : ∀ c ∈ M, c ≠ 101) (hT : T = [] ∨ ∃ r, T = 101 :: r) (hl : M.length + T.length ≤ 1000) :
    Calls Tryz.prog 9 #[.string (bs (M ++ T))] w fun e w' => e = .returned (.int .i64 (Pl.mrun M).res) ∧ w = w' := by
  obtain ⟨s, hs⟩ : ∃ s, bs (M ++ T) = s := ⟨_, rfl⟩
  have hsz : s.size = M.length + T.length := by rw [← hs, bs_size, List.length_append]
  have HA := Lib.hid (show At s 0 M by rw [← hs]; exact at_mid [] M T)
  have HT := Lib.hid (show s.size = M.length ∨ (M.length < s.size ∧ At s M.length [101]) by
    rcases hT with rfl | ⟨r, rfl⟩
    · left; rw [hsz]; simp
    · right
      refine ⟨by rw [hsz]; simp, ?_⟩
      rw [← hs]
      exact at_mid M [101] r)
  have HM := Lib.hid hM
  have hs1 : s.size ≤ 1000 := by omega
  have hMl : M.length ≤ s.size := by omega
  rw [hs]
  clear hM hT hl hs hsz
  go_enter Tryz.func9, Tryz.ntmps9
  go_wp2_with fail
  go_loopw [3, 4, 5, 6] (fun v3 v4 v5 v6 wr => ∃ (i n : Nat) (f l : Int), i ≤ M.length ∧ v6 = .int .i64 (i : Nat) ∧ v3 = .int .i64 (n : Nat) ∧ v4 = .int .i64 f ∧ v5 = .int .i64 l ∧ Hid (Pl.mrun (M.take i) = ⟨n, f, l⟩) ∧ wr = w) (fun _ _ _ v6 _ => s.size - (RowKit.intOf v6).toNat)
  case atStart => exact ⟨0, 0, -1, -1, by omega, rfl, rfl, rfl, rfl, Lib.hid rfl, rfl⟩
  case round =>
    obtain ⟨i, n, f, l, hi, rfl, rfl, rfl, rfl, hst, rfl⟩ := hrel
    have hok := Pl.mrun_ok (M.take i)
    rw [hst.out, List.length_take, Nat.min_eq_left hi] at hok
    have o1 : n ≤ 1000 := by have := hok.n; simp only at this; omega
    have o2 : -1 ≤ f := hok.f
    have o3 : f ≤ l := hok.fl
    have o4 : l < n := hok.l
    clear hok
    by_cases hlt : i < M.length
    · have qk : i < s.size := by omega
      have ak : s[i]'qk = M[i] := HA.out.get hlt qk (by omega)
      have hc := HM.out M[i] (List.getElem_mem _)
      have HS := Lib.hid (show Pl.mrun (M.take (i + 1)) = Pl.mstep ⟨n, f, l⟩ M[i] by rw [List.take_succ_eq_append_getElem hlt, Pl.mrun_snoc, hst.out])
      generalize M[i] = c at ak hc HS
      have hne : ((c.toNat : Int) != 101) = true := by
        have : c.toNat ≠ 101 := fun e => hc (UInt8.toNat_inj.1 e)
        simp; omega
      by_cases h1 : c.toNat < 48
      · have g1 : decide ((c.toNat : Int) < 48) = true := decide_eq_true (by omega)
        have HS2 := Lib.hid (HS.out.trans (by unfold Pl.mstep; rw [if_pos (.inl h1)]))
        clear HS
        go_wp2_with fail
        go_roundw
        case rel => exact ⟨i + 1, n, f, l, by omega, by go_num, rfl, rfl, rfl, HS2, trivial⟩
        case measure => simp [RowKit.intOf]; omega
      · have g1 : decide ((c.toNat : Int) < 48) = false := decide_eq_false (by omega)
        by_cases h2 : 57 < c.toNat
        · have g2 : decide ((57 : Int) < (c.toNat : Int)) = true := decide_eq_true (by omega)
          have HS2 := Lib.hid (HS.out.trans (by unfold Pl.mstep; rw [if_pos (.inr h2)]))
          clear HS
          go_wp2_with fail
          go_roundw
          case rel => exact ⟨i + 1, n, f, l, by omega, by go_num, rfl, rfl, rfl, HS2, trivial⟩
          case measure => simp [RowKit.intOf]; omega
        · have g2 : decide ((57 : Int) < (c.toNat : Int)) = false := decide_eq_false (by omega)
          have hnd : ¬ (c.toNat < 48 ∨ 57 < c.toNat) := by omega
          have gw : IntKind.i64.wrap ((n : Int) + 1) = (n : Int) + 1 := IntWalk.i64_in _ (by omega)
          by_cases h3 : c = 48
          · have g3 : ((c.toNat : Int) != 48) = false := by rw [h3]; rfl
            have HS2 := Lib.hid (HS.out.trans (by unfold Pl.mstep; rw [if_neg hnd, if_pos h3]))
            clear HS
            go_wp2_with fail
            go_roundw
            case rel => exact ⟨i + 1, n + 1, f, l, by omega, by go_num, by go_num, rfl, rfl, HS2, trivial⟩
            case measure => simp [RowKit.intOf]; omega
          · have g3 : ((c.toNat : Int) != 48) = true := by
              have : c.toNat ≠ 48 := fun e => h3 (UInt8.toNat_inj.1 e)
              simp; omega
            by_cases h4 : f < 0
            · have g4 : decide (f < 0) = true := decide_eq_true h4
              have HS2 := Lib.hid (HS.out.trans (show Pl.mstep ⟨n, f, l⟩ c = ⟨n + 1, n, n⟩ by unfold Pl.mstep; rw [if_neg hnd, if_neg h3]; simp only [h4, if_true]))
              clear HS
              go_wp2_with fail
              go_roundw
              case rel => exact ⟨i + 1, n + 1, n, n, by omega, by go_num, by go_num, rfl, rfl, HS2, trivial⟩
              case measure => simp [RowKit.intOf]; omega
            · have g4 : decide (f < 0) = false := decide_eq_false h4
              have HS2 := Lib.hid (HS.out.trans (show Pl.mstep ⟨n, f, l⟩ c = ⟨n + 1, f, n⟩ by unfold Pl.mstep; rw [if_neg hnd, if_neg h3]; simp only [h4, if_false]))
              clear HS
              go_wp2_with fail
              go_roundw
              case rel => exact ⟨i + 1, n + 1, f, n, by omega, by go_num, by go_num, rfl, rfl, HS2, trivial⟩
              case measure => simp [RowKit.intOf]; omega
    · obtain rfl : i = M.length := by omega
      rw [List.take_length] at hst
      have HR : Hid ((Pl.mrun M).res = if f < 0 then 0 else l - f + 1) := Lib.hid (by rw [hst.out]; rfl)
      have gw : IntKind.i64.wrap (l - f) = l - f := IntWalk.i64_in _ (by omega)
      have gw2 : IntKind.i64.wrap (l - f + 1) = l - f + 1 := IntWalk.i64_in _ (by omega)
      rcases HT.out with h | ⟨h, h2⟩
      · by_cases h4 : f < 0
        · have g4 : decide (f < 0) = true := decide_eq_true h4
          have HF4 := Lib.hid h4
          go_wp2_with fail
          go_ret
          exact ⟨by rw [HR.out, if_pos (HF4.out)]; rfl, rfl⟩
        · have g4 : decide (f < 0) = false := decide_eq_false h4
          have HF4 := Lib.hid h4
          go_wp2_with fail
          go_ret
          exact ⟨by rw [HR.out, if_neg (show ¬ f < 0 by have := HF4.out; omega)]; rfl, rfl⟩
      · have ak : s[M.length]'h = 101 := h2 0 (by decide) (by omega)
        by_cases h4 : f < 0
        · have g4 : decide (f < 0) = true := decide_eq_true h4
          have HF4 := Lib.hid h4
          go_wp2_with fail
          go_ret
          exact ⟨by rw [HR.out, if_pos (HF4.out)]; rfl, rfl⟩
        · have g4 : decide (f < 0) = false := decide_eq_false h4
          have HF4 := Lib.hid h4
          go_wp2_with fail
          go_ret
          exact ⟨by rw [HR.out, if_neg (show ¬ f < 0 by have := HF4.out; omega)]; rfl, rfl⟩
end Go.Proofs.YtpilniljhmkedaaGreatDoor
