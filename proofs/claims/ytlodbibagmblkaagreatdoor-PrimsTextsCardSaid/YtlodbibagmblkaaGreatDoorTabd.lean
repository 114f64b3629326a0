/- Plain: between two bounds: what ceiling, floor and rounding of unrounded numbers tell; the digits that shortFloat picks lie between the bounds. Plain: a number that lies within the half of the space about a float is rounded to it. Plain: the digits that a float is written with are rounded to that float again. -/
import Derived.Test.YtlodbibagmblkaaGreatDoorTabc
import Derived.Test.YtlodbibagmblkaaGreatDoorTaam
namespace Go.Proofs.YtlodbibagmblkaaGreatDoor
open Go
namespace Pl
theorem or_zero_one (q : Nat) : q ||| 0 = q ∧ (q ||| 1 = q ∨ q ||| 1 = q + 1) ∧ (q ||| 1) % 2 = 1 ∧ (q ||| 1) / 2 = q / 2 := by
  have h1 : (q ||| 1) / 2 = q / 2 := by rw [Nat.or_div_two]; simp
  have h2 : (q ||| 1) % 2 = 1 := by rw [Nat.or_mod_two_eq_one]; right; rfl
  exact ⟨Nat.or_zero q, by omega, h2, h1⟩
/-- what the unrounded number of four times X by Y tells -/
structure UnrIs (X Y u : Nat) : Prop where
  ceil : ∀ d, (u + 3) / 4 ≤ d ↔ X ≤ d * Y
  above : ∀ d, (u + 1 + 3) / 4 ≤ d ↔ X + 1 ≤ d * Y
  floor : ∀ d, d ≤ u / 4 ↔ d * Y ≤ X
  below : ∀ d, d ≤ (u - 1) / 4 ↔ d * Y + 1 ≤ X
  near : 2 * ((u + 1 + u / 4 % 2) / 4 * Y) ≤ 2 * X + Y ∧ 2 * X ≤ 2 * ((u + 1 + u / 4 % 2) / 4 * Y) + Y
theorem unr_is {X Y : Nat} (hX : 0 < X) (hY : 0 < Y) : UnrIs X Y (unr (4 * X) Y) := by
  obtain ⟨q, hq⟩ : ∃ q, 4 * X / Y = q := ⟨_, rfl⟩
  have e := Nat.div_add_mod (4 * X) Y
  have hr := Nat.mod_lt (4 * X) hY
  rw [hq] at e
  obtain ⟨o0, o1, o2, o3⟩ := or_zero_one q
  have hu : unr (4 * X) Y = if 4 * X % Y = 0 then q else q ||| 1 := by
    unfold unr
    rw [hq]
    by_cases hd : 4 * X % Y = 0
    · rw [if_pos (Nat.dvd_of_mod_eq_zero hd), if_pos hd, o0]
    · rw [if_neg (fun h => hd (Nat.mod_eq_zero_of_dvd h)), if_neg hd]
  rw [hu]
  generalize 4 * X % Y = r at e hr
  have key : ∀ k : Nat, (k ≤ q ↔ k * Y ≤ 4 * X) ∧ (q < k ↔ 4 * X < k * Y) := by
    intro k
    have e' : q * Y + r = 4 * X := by rw [Nat.mul_comm]; exact e
    have a1 : k ≤ q → k * Y ≤ q * Y := fun h => Nat.mul_le_mul_right Y h
    have a2 : q < k → (q + 1) * Y ≤ k * Y := fun h => Nat.mul_le_mul_right Y h
    have a3 : (q + 1) * Y = q * Y + Y := by rw [Nat.add_mul, Nat.one_mul]
    constructor <;> constructor <;> intro h
    · have := a1 h; omega
    · rcases Nat.lt_or_ge q k with h' | h'
      · have := a2 h'; omega
      · exact h'
    · have := a2 h; omega
    · rcases Nat.lt_or_ge q k with h' | h'
      · exact h'
      · have := a1 h'; omega
  have keq : r = 0 → ∀ k : Nat, q ≤ k ↔ 4 * X ≤ k * Y := by
    intro h0 k
    have e' : q * Y = 4 * X := by rw [Nat.mul_comm]; omega
    constructor
    · intro h; have := Nat.mul_le_mul_right Y h; omega
    · intro h; rw [← e'] at h; exact Nat.le_of_mul_le_mul_right h hY
  have kne : r ≠ 0 → ∀ k : Nat, (k ≤ q ↔ k * Y < 4 * X) := by
    intro h0 k
    have e' : q * Y + r = 4 * X := by rw [Nat.mul_comm]; exact e
    constructor
    · intro h; have := Nat.mul_le_mul_right Y h; omega
    · intro h
      rcases Nat.lt_or_ge q k with h' | h'
      · have := ((key k).2).1 h'; omega
      · exact h'
  have m4 : ∀ d : Nat, 4 * d * Y = 4 * (d * Y) := fun d => Nat.mul_assoc _ _ _
  have hq0 : r = 0 → 0 < q := by
    intro h0
    have := (keq h0 0)
    rw [Nat.zero_mul] at this
    omega
  obtain ⟨u, hu2⟩ : ∃ u, (if r = 0 then q else q ||| 1) = u := ⟨_, rfl⟩
  rw [hu2]
  have hu4 : u / 4 = q / 4 := by
    rw [← hu2]; split
    · rfl
    · omega
  refine ⟨fun d => ?_, fun d => ?_, fun d => ?_, fun d => ?_, ?_⟩
  · by_cases h0 : r = 0
    · rw [if_pos h0] at hu2
      have := keq h0 (4 * d)
      rw [m4] at this
      omega
    · rw [if_neg h0] at hu2
      have := (key (4 * d)).2
      have h4 := kne h0 (4 * d)
      rw [m4] at this h4
      omega
  · have := (key (4 * d)).2
    rw [m4] at this
    omega
  · have := (key (4 * d)).1
    rw [m4] at this
    omega
  · by_cases h0 : r = 0
    · rw [if_pos h0] at hu2
      have := keq h0 (4 * d)
      have h5 := hq0 h0
      rw [m4] at this
      omega
    · rw [if_neg h0] at hu2
      have h4 := kne h0 (4 * d)
      rw [m4] at h4
      omega
  · obtain ⟨f, hf⟩ : ∃ f, u / 4 = f := ⟨_, rfl⟩
    have g1 := (key (4 * f)).1
    have g2 := (key (4 * f + 4)).2
    have g3 := key (4 * f + 2)
    have m42 : (4 * f + 2) * Y = 4 * (f * Y) + 2 * Y := by rw [Nat.add_mul, m4]
    have m44 : (4 * f + 4) * Y = 4 * (f * Y) + 4 * Y := by rw [Nat.add_mul, m4]
    rw [m4] at g1
    rw [m44] at g2
    rw [m42] at g3
    rw [hf]
    have hfe : (f + 1) * Y = f * Y + Y := by rw [Nat.add_mul, Nat.one_mul]
    have hn : (u + 1 + f % 2) / 4 = f ∧ (u % 4 ≤ 1 ∨ (u % 4 = 2)) ∨ (u + 1 + f % 2) / 4 = f + 1 ∧ (u % 4 = 2 ∨ u % 4 = 3) := by omega
    by_cases h0 : r = 0
    · rw [if_pos h0] at hu2
      have k3 := keq h0 (4 * f + 2)
      rw [m42] at k3
      subst hu2
      rcases hn with ⟨hn, hc⟩ | ⟨hn, hc⟩
      · rw [hn]
        constructor
        · have := g1.1 (by omega); omega
        · have := k3.1 (by omega); omega
      · rw [hn, hfe]
        constructor
        · have := g3.1.1 (by omega); omega
        · have := g2.1 (by omega); omega
    · rw [if_neg h0] at hu2
      rcases hn with ⟨hn, hc⟩ | ⟨hn, hc⟩
      · rw [hn]
        constructor
        · have := g1.1 (by omega); omega
        · have := g3.2.1 (by omega); omega
      · rw [hn, hfe]
        constructor
        · have := g3.1.1 (by omega); omega
        · have := g2.1 (by omega); omega
def sfT (sn sm sx odd : Nat) (p : Int) : Nat × Int :=
  if (sn + odd + 3) / 4 ≤ (sx - odd) / 4 / 10 * 10 then ((sx - odd) / 4 / 10, -(p - 1))
  else if (sn + odd + 3) / 4 < (sx - odd) / 4 then ((sm + 1 + sm / 4 % 2) / 4, -p)
  else ((sn + odd + 3) / 4, -p)
/-- the digits lie between the two bounds -/
theorem sfT_in {a v b Y odd sn sm sx : Nat} {p : Int} (hY : 0 < Y) (ho : odd ≤ 1) (hn : UnrIs a Y sn) (hm : UnrIs v Y sm) (hx : UnrIs b Y sx) (hav : a < v) (hvb : v < b) (hs1 : b - v ≤ 2 * (v - a)) (hs2 : v - a ≤ b - v) (hex : ∃ d, a + odd ≤ d * Y ∧ d * Y + odd ≤ b) :
    ∃ d, (a + odd ≤ d * Y ∧ d * Y + odd ≤ b) ∧ (sfT sn sm sx odd p = (d, -p) ∨ ∃ d', d = 10 * d' ∧ sfT sn sm sx odd p = (d', -(p - 1))) := by
  have hlo : ∀ d, (sn + odd + 3) / 4 ≤ d ↔ a + odd ≤ d * Y := by
    intro d
    rcases Nat.le_one_iff_eq_zero_or_eq_one.1 ho with rfl | rfl
    · exact hn.ceil d
    · exact hn.above d
  have hhi : ∀ d, d ≤ (sx - odd) / 4 ↔ d * Y + odd ≤ b := by
    intro d
    rcases Nat.le_one_iff_eq_zero_or_eq_one.1 ho with rfl | rfl
    · exact hx.floor d
    · exact hx.below d
  unfold sfT
  generalize (sn + odd + 3) / 4 = D1 at hlo ⊢
  generalize (sx - odd) / 4 = D2 at hhi ⊢
  obtain ⟨d0, hd1, hd2⟩ := hex
  have h12 : D1 ≤ D2 := Nat.le_trans ((hlo d0).2 hd1) ((hhi d0).2 hd2)
  have l1 := (hlo D1).1 (Nat.le_refl _)
  have l2 := (hhi D2).1 (Nat.le_refl _)
  by_cases c1 : D1 ≤ D2 / 10 * 10
  · rw [if_pos c1]
    refine ⟨10 * (D2 / 10), ⟨(hlo _).1 (by omega), (hhi _).1 (by omega)⟩, .inr ⟨_, rfl, rfl⟩⟩
  · rw [if_neg c1]
    by_cases c2 : D1 < D2
    · rw [if_pos c2]
      refine ⟨_, ?_, .inl rfl⟩
      obtain ⟨n1, n2⟩ := hm.near
      generalize (sm + 1 + sm / 4 % 2) / 4 = n at n1 n2 ⊢
      have s12 : (D1 + 1) * Y ≤ D2 * Y := Nat.mul_le_mul_right Y c2
      rw [Nat.add_mul, Nat.one_mul] at s12
      rcases Nat.lt_or_ge (n * Y) v with hc | hc
      · refine ⟨?_, by omega⟩
        rcases Nat.lt_or_ge (n * Y) (a + odd) with hbad | hgood
        · exfalso
          have hnD : n < D1 := by
            rcases Nat.lt_or_ge n D1 with h | h
            · exact h
            · have := (hlo n).1 h; omega
          have s2 : (n + 1) * Y ≤ D1 * Y := Nat.mul_le_mul_right Y hnD
          rw [Nat.add_mul, Nat.one_mul] at s2
          omega
        · exact hgood
      · refine ⟨by omega, ?_⟩
        rcases Nat.lt_or_ge b (n * Y + odd) with hbad | hgood
        · exfalso
          have hnD : D2 < n := by
            rcases Nat.lt_or_ge D2 n with h | h
            · exact h
            · have := (hhi n).1 h; omega
          have s2 : (D2 + 1) * Y ≤ n * Y := Nat.mul_le_mul_right Y hnD
          rw [Nat.add_mul, Nat.one_mul] at s2
          omega
        · exact hgood
    · rw [if_neg c2]
      have : D1 = D2 := by omega
      subst this
      exact ⟨D1, ⟨l1, l2⟩, .inl rfl⟩
theorem ex_wide {a b Y odd : Nat} (hY : 0 < Y) (ho : odd ≤ 1) (h : a + Y < b) : ∃ d, a + odd ≤ d * Y ∧ d * Y + odd ≤ b := by
  refine ⟨a / Y + 1, ?_⟩
  have e := Nat.div_add_mod a Y
  have hr := Nat.mod_lt a hY
  rw [Nat.add_mul, Nat.one_mul, Nat.mul_comm]
  omega
theorem ex_even {a b Y : Nat} (hY : 0 < Y) (h : a + Y ≤ b) : ∃ d, a + 0 ≤ d * Y ∧ d * Y + 0 ≤ b := by
  have e := Nat.div_add_mod a Y
  have hr := Nat.mod_lt a hY
  by_cases h0 : a % Y = 0
  · refine ⟨a / Y, ?_⟩
    rw [Nat.mul_comm]; omega
  · refine ⟨a / Y + 1, ?_⟩
    rw [Nat.add_mul, Nat.one_mul, Nat.mul_comm]
    omega
end Pl
end Go.Proofs.YtlodbibagmblkaaGreatDoor
namespace Go.Proofs.YtlodbibagmblkaaGreatDoor.Fl
/-- the nearest whole number, even at a tie -/
theorem rhe_near {p q n : Nat} (hq : 0 < q) (lo : (2 * n) * q < 2 * p + q ∨ ((2 * n) * q = 2 * p + q ∧ n % 2 = 0)) (hi : 2 * p < (2 * n + 1) * q ∨ (2 * p = (2 * n + 1) * q ∧ n % 2 = 0)) : rhe p q = n := by
  have e := Nat.div_add_mod p q
  have hr := Nat.mod_lt p hq
  unfold rhe
  generalize p / q = f at e ⊢
  generalize p % q = r at e hr ⊢
  rw [Nat.add_mul, Nat.one_mul] at hi
  have e1 : 2 * n * q = 2 * (n * q) := Nat.mul_assoc _ _ _
  have e2 : q * f = f * q := Nat.mul_comm _ _
  rw [e1] at lo hi
  rw [e2] at e
  -- f is n or n - 1
  have h1 : f ≤ n := by
    rcases Nat.lt_or_ge n f with h | h
    · exfalso
      have : (n + 1) * q ≤ f * q := Nat.mul_le_mul_right q h
      rw [Nat.add_mul, Nat.one_mul] at this
      rcases hi with hi | hi <;> omega
    · exact h
  have h2 : n ≤ f + 1 := by
    rcases Nat.lt_or_ge (f + 1) n with h | h
    · exfalso
      have : (f + 2) * q ≤ n * q := Nat.mul_le_mul_right q h
      rw [Nat.add_mul] at this
      rcases lo with lo | lo <;> omega
    · exact h
  rcases Nat.eq_or_lt_of_le h1 with h | h
  · subst h
    have : (decide (q < 2 * r) || (q == 2 * r && f % 2 == 1)) = false := by
      rw [Bool.or_eq_false_iff]
      constructor
      · rw [decide_eq_false_iff_not]; rcases hi with hi | hi <;> omega
      · rw [Bool.and_eq_false_iff]
        rcases hi with hi | hi
        · left; rw [beq_eq_false_iff_ne]; omega
        · right; rw [beq_eq_false_iff_ne]; omega
    rw [this]; rfl
  · have hn : n = f + 1 := by omega
    subst hn
    rw [Nat.add_mul, Nat.one_mul] at lo
    have : (decide (q < 2 * r) || (q == 2 * r && f % 2 == 1)) = true := by
      rw [Bool.or_eq_true_iff]
      rcases lo with lo | lo
      · left; rw [decide_eq_true_iff]; omega
      · right; rw [Bool.and_eq_true_iff, beq_iff_eq, beq_iff_eq]; omega
    rw [this]; rfl
theorem rhe_top {P q : Nat} (hq : 0 < q) (b1 : 18014398509481984 * (2 * q) ≤ 4 * P + 2 * q) (b2 : P < 4503599627370496 * (2 * q)) : rhe P q = 9007199254740992 ∧ 4503599627370496 * q ≤ P ∧ P < 9007199254740992 * q := by
  have c1 : 18014398509481984 * q ≤ 2 * P + q := by omega
  have c2 : P < 9007199254740992 * q := by omega
  refine ⟨?_, by omega, c2⟩
  apply rhe_near hq
  · rcases Nat.lt_or_ge (18014398509481984 * q) (2 * P + q) with h | h
    · exact .inl h
    · exact .inr ⟨Nat.le_antisymm c1 h, rfl⟩
  · left
    clear c1 b1 b2
    omega
/-- a number that lies where m times 2 to the u is the nearest float -/
structure Near (P Q m u : Nat) : Prop where
  hi : 2 * P < (2 * m + 1) * (2 ^ u * Q) ∨ (2 * P = (2 * m + 1) * (2 ^ u * Q) ∧ m % 2 = 0)
  lo : (2 * m) * (2 ^ u * Q) < 2 * P + 2 ^ u * Q ∨ ((2 * m) * (2 ^ u * Q) = 2 * P + 2 ^ u * Q ∧ m % 2 = 0)
  bd : m = 4503599627370496 → 0 < u → 18014398509481984 * (2 ^ u * Q) ≤ 4 * P + 2 ^ u * Q
theorem rung_near {P Q m u : Nat} (hQ : 0 < Q) (hm : m < 9007199254740992) (hc : 4503599627370496 ≤ m ∨ u = 0) (hu : u ≤ 2045) (h : Near P Q m u) : rung P Q = u * 4503599627370496 + m := by
  obtain ⟨hi, lo, bd⟩ := h
  have hU : 0 < 2 ^ u := Nat.two_pow_pos u
  have hq : 0 < 2 ^ u * Q := Nat.mul_pos hU hQ
  have ebound : u * 4503599627370496 + m ≤ 9218868437227405312 := by omega
  have e52 : 2 ^ 52 = 4503599627370496 := rfl
  have e53 : 2 ^ 53 = 9007199254740992 := rfl
  unfold rung
  -- above
  have hP : P < 9007199254740992 * (2 ^ u * Q) := by
    have : (2 * m + 1) * (2 ^ u * Q) ≤ 18014398509481983 * (2 ^ u * Q) := Nat.mul_le_mul_right _ (by omega)
    rcases hi with hi | hi <;> omega
  have hf2 : P / Q < 2 ^ (53 + u) := by
    rw [Nat.div_lt_iff_lt_mul hQ, Nat.pow_add, e53, Nat.mul_assoc]; exact hP
  rcases Nat.lt_or_ge P (4503599627370496 * (2 ^ u * Q)) with hlow | hge
  · rcases Nat.eq_zero_or_pos u with h0 | h0
    · subst h0
      have hk : (P / Q).log2 - 52 = 0 := by
        rcases Nat.eq_zero_or_pos (P / Q) with hz | hz
        · rw [hz]; rfl
        · have := (Nat.log2_lt (by omega)).2 hf2
          omega
      rw [hk, Nat.pow_zero, Nat.mul_one]
      rw [Nat.pow_zero, Nat.one_mul] at hi lo
      rw [rhe_near hQ lo hi]
      omega
    · have hm52 : m = 4503599627370496 := by
        rcases hc with hc | hc
        · rcases Nat.lt_or_ge 4503599627370496 m with hgt | hle
          · exfalso
            have : (2 * 4503599627370497) * (2 ^ u * Q) ≤ (2 * m) * (2 ^ u * Q) := Nat.mul_le_mul_right _ (by omega)
            have e : (2 * 4503599627370497) * (2 ^ u * Q) = 2 * (4503599627370496 * (2 ^ u * Q)) + 2 * (2 ^ u * Q) := by omega
            rcases lo with lo | lo <;> omega
          · omega
        · omega
      subst hm52
      have bd' := bd rfl h0
      obtain ⟨v, rfl⟩ : ∃ v, u = v + 1 := ⟨u - 1, by omega⟩
      have hv : 2 ^ (v + 1) * Q = 2 * (2 ^ v * Q) := by rw [Nat.pow_succ, Nat.mul_comm (2 ^ v) 2, Nat.mul_assoc]
      rw [hv] at hlow bd' hP
      have hq' : 0 < 2 ^ v * Q := Nat.mul_pos (Nat.two_pow_pos v) hQ
      obtain ⟨key, k1, k2⟩ := rhe_top hq' bd' hlow
      clear hi lo hP bd' hlow bd
      have hlog : (P / Q).log2 = 52 + v := by
        apply log2_between
        · rw [Nat.le_div_iff_mul_le hQ, Nat.pow_add, e52, Nat.mul_assoc]; exact k1
        · rw [Nat.div_lt_iff_lt_mul hQ, show 52 + v + 1 = 53 + v by omega, Nat.pow_add, e53, Nat.mul_assoc]; exact k2
      rw [hlog, show 52 + v - 52 = v by omega, Nat.mul_comm Q (2 ^ v), key]
      clear hlog key k1 k2
      omega
  · have hlog : (P / Q).log2 - 52 = u := by
      have : (P / Q).log2 = 52 + u := by
        apply log2_between
        · rw [Nat.le_div_iff_mul_le hQ, Nat.pow_add, e52, Nat.mul_assoc]; exact hge
        · rw [show 52 + u + 1 = 53 + u by omega]; exact hf2
      omega
    rw [hlog, Nat.mul_comm Q (2 ^ u), rhe_near hq lo hi]
    omega
end Go.Proofs.YtlodbibagmblkaaGreatDoor.Fl
namespace Go.Proofs.YtlodbibagmblkaaGreatDoor
open Go
namespace Pl
/-- two to the e times ten to the p as a quotient -/
def tT (e p : Int) : Nat := 2 ^ e.toNat * 10 ^ p.toNat
def tY (e p : Int) : Nat := 2 ^ (-e).toNat * 10 ^ (-p).toNat
theorem tY_pos (e p : Int) : 0 < tY e p := Nat.mul_pos (Nat.two_pow_pos _) (Nat.pow_pos (by decide))
theorem tT_pos (e p : Int) : 0 < tT e p := Nat.mul_pos (Nat.two_pow_pos _) (Nat.pow_pos (by decide))
theorem unr_scale (n d : Nat) {c : Nat} (hc : 0 < c) : unr (n * c) (d * c) = unr n d := by
  unfold unr
  rw [Nat.mul_div_mul_right _ _ hc]
  congr 1
  by_cases h : d ∣ n
  · rw [if_pos h, if_pos (Nat.mul_dvd_mul_right h c)]
  · rw [if_neg h, if_neg (fun h' => h (Nat.dvd_of_mul_dvd_mul_right hc h'))]
theorem pow_ratio {e p : Int} (h : e + p * 108853 / 32768 + 3 ≤ 0) : ∃ c, 0 < c ∧ numA p = 4 * tT e p * c ∧ denB p * 2 ^ (128 + sh e p) = tY e p * c := by
  unfold numA denB tT tY sh
  by_cases hp : 0 ≤ p
  · rw [if_pos hp, if_pos hp]
    have hl : 0 ≤ p * 108853 / 32768 := by omega
    have e1 : e.toNat = 0 := by omega
    have e2 : (-p).toNat = 0 := by omega
    refine ⟨2 ^ 125, Nat.two_pow_pos _, ?_, ?_⟩
    · rw [e1, Nat.pow_zero, Nat.one_mul, show (127 : Nat) = 2 + 125 from rfl, Nat.pow_add]
      have : 2 ^ 2 = 4 := rfl
      rw [this, ← Nat.mul_assoc, Nat.mul_comm 4]
    · rw [e2, Nat.pow_zero, Nat.mul_one, ← Nat.pow_add, ← Nat.pow_add]
      congr 1
      omega
  · rw [if_neg hp, if_neg hp]
    have hl : p * 108853 / 32768 < 0 := by omega
    have e1 : p.toNat = 0 := by omega
    have h4 : 4 = 2 ^ 2 := rfl
    refine ⟨2 ^ (125 - p * 108853 / 32768 - max e 0).toNat, Nat.two_pow_pos _, ?_, ?_⟩
    · rw [e1, Nat.pow_zero, Nat.mul_one, h4, ← Nat.pow_add, ← Nat.pow_add]
      congr 1
      omega
    · rw [Nat.mul_comm (2 ^ (-e).toNat), Nat.mul_assoc, ← Nat.pow_add]
      congr 2
      omega
theorem scal_is {x : Nat} {e p : Int} (hp1 : -348 ≤ p) (hp2 : p ≤ 347) (hx0 : 0 < x) (hx : x < 18446744073709551616) (h : e + p * 108853 / 32768 + 3 ≤ 0) (g : Good p (sh e p) x) : UnrIs (x * tT e p) (tY e p) (scal x e p) := by
  unfold scal
  rw [uscale_exact (row_is hp1 hp2) hx0 hx g]
  obtain ⟨c, hc, h1, h2⟩ := pow_ratio h
  rw [h1, h2, show x * (4 * tT e p * c) = 4 * (x * tT e p) * c by rw [← Nat.mul_assoc, Nat.mul_left_comm]; , unr_scale _ _ hc]
  exact unr_is (Nat.mul_pos hx0 (tT_pos e p)) (tY_pos e p)
def pN (e : Int) : Int := -((e + 11) * 78913 / 262144)
def pS (e : Int) : Int := -(((e + 11) * 631305 - 261663) / 2097152)
def factN (e : Int) : Bool := decide (-292 ≤ pN e ∧ pN e ≤ 324 ∧ e + pN e * 108853 / 32768 + 3 ≤ -5 ∧ (e = -11 ∨ tY e (pN e) < 2048 * tT e (pN e)) ∧ 18446744073709551616 * tT e (pN e) ≤ 1000000000000000000 * tY e (pN e))
def factS (e : Int) : Bool := decide (-292 ≤ pS e ∧ pS e ≤ 324 ∧ e + pS e * 108853 / 32768 + 3 ≤ -5 ∧ tY e (pS e) ≤ 1536 * tT e (pS e) ∧ 18446744073709551616 * tT e (pS e) ≤ 1000000000000000000 * tY e (pS e))
def factD (e : Int) : Bool := decide (e + 324 * 108853 / 32768 + 3 ≤ -5 ∧ tY e 324 < 2 ^ (-1074 - e).toNat * tT e 324 ∧ 18446744073709551616 * tT e 324 ≤ 1000000000000000000 * tY e 324)
theorem factN_all : ((List.range 2046).all fun i => factN ((i : Int) - 1085)) = true := by decide +kernel
theorem factS_all : ((List.range 2046).all fun i => factS ((i : Int) - 1085)) = true := by decide +kernel
theorem factD_all : ((List.range 52).all fun i => factD ((i : Int) - 1137)) = true := by decide +kernel
theorem near_lo {M L u E d N k : Nat} {e p : Int} (he : e = (u : Int) - 1074 - L) (hE : E = 1074) (hk : k + 1 ≤ L + 1) (h : N * 2 ^ (L - k) * tT e p + (M % 2) ≤ d * tY e p) :
    N * (2 ^ u * 10 ^ p.toNat) ≤ 2 ^ k * (d * 10 ^ (-p).toNat * 2 ^ E) ∧ (M % 2 = 1 → N * (2 ^ u * 10 ^ p.toNat) < 2 ^ k * (d * 10 ^ (-p).toNat * 2 ^ E)) := by
  unfold tT tY at h
  obtain ⟨A, hA⟩ : ∃ A, 2 ^ e.toNat = A := ⟨_, rfl⟩
  obtain ⟨B, hB⟩ : ∃ B, 2 ^ (-e).toNat = B := ⟨_, rfl⟩
  obtain ⟨G, hG⟩ : ∃ G, 10 ^ (-p).toNat = G := ⟨_, rfl⟩
  obtain ⟨Q, hQ⟩ : ∃ Q, 10 ^ p.toNat = Q := ⟨_, rfl⟩
  obtain ⟨K, hK⟩ : ∃ K, 2 ^ (E + k) = K := ⟨_, rfl⟩
  obtain ⟨C, hC⟩ : ∃ C, 2 ^ (L - k) = C := ⟨_, rfl⟩
  obtain ⟨U, hU⟩ : ∃ U, 2 ^ u = U := ⟨_, rfl⟩
  have hB0 : 0 < B := by rw [← hB]; exact Nat.two_pow_pos _
  have hK0 : 0 < K := by rw [← hK]; exact Nat.two_pow_pos _
  have hCAK : C * A * K = U * B := by
    rw [← hC, ← hA, ← hK, ← hU, ← hB, ← Nat.pow_add, ← Nat.pow_add, ← Nat.pow_add]
    congr 1
    omega
  have hKE : K = 2 ^ k * 2 ^ E := by rw [← hK, Nat.pow_add, Nat.mul_comm]
  rw [hA, hB, hG, hQ, hC] at h
  rw [hU, hG, hQ]
  have h2 := Nat.mul_le_mul_right K h
  rw [Nat.add_mul] at h2
  have l1 : N * C * (A * Q) * K = B * (N * (U * Q)) := by
    calc N * C * (A * Q) * K = N * (C * A * K) * Q := by ac_rfl
      _ = _ := by rw [hCAK]; ac_rfl
  have l2 : d * (B * G) * K = B * (2 ^ k * (d * G * 2 ^ E)) := by rw [hKE]; ac_rfl
  rw [l1, l2] at h2
  constructor
  · apply Nat.le_of_mul_le_mul_left _ hB0
    omega
  · intro ho
    rw [ho, Nat.one_mul] at h2
    apply Nat.lt_of_mul_lt_mul_left (a := B)
    omega
theorem near_hi {M L u E d N k : Nat} {e p : Int} (he : e = (u : Int) - 1074 - L) (hE : E = 1074) (hk : k + 1 ≤ L + 1) (h : d * tY e p + (M % 2) ≤ N * 2 ^ (L - k) * tT e p) :
    2 ^ k * (d * 10 ^ (-p).toNat * 2 ^ E) ≤ N * (2 ^ u * 10 ^ p.toNat) ∧ (M % 2 = 1 → 2 ^ k * (d * 10 ^ (-p).toNat * 2 ^ E) < N * (2 ^ u * 10 ^ p.toNat)) := by
  unfold tT tY at h
  obtain ⟨A, hA⟩ : ∃ A, 2 ^ e.toNat = A := ⟨_, rfl⟩
  obtain ⟨B, hB⟩ : ∃ B, 2 ^ (-e).toNat = B := ⟨_, rfl⟩
  obtain ⟨G, hG⟩ : ∃ G, 10 ^ (-p).toNat = G := ⟨_, rfl⟩
  obtain ⟨Q, hQ⟩ : ∃ Q, 10 ^ p.toNat = Q := ⟨_, rfl⟩
  obtain ⟨K, hK⟩ : ∃ K, 2 ^ (E + k) = K := ⟨_, rfl⟩
  obtain ⟨C, hC⟩ : ∃ C, 2 ^ (L - k) = C := ⟨_, rfl⟩
  obtain ⟨U, hU⟩ : ∃ U, 2 ^ u = U := ⟨_, rfl⟩
  have hB0 : 0 < B := by rw [← hB]; exact Nat.two_pow_pos _
  have hK0 : 0 < K := by rw [← hK]; exact Nat.two_pow_pos _
  have hCAK : C * A * K = U * B := by
    rw [← hC, ← hA, ← hK, ← hU, ← hB, ← Nat.pow_add, ← Nat.pow_add, ← Nat.pow_add]
    congr 1
    omega
  have hKE : K = 2 ^ k * 2 ^ E := by rw [← hK, Nat.pow_add, Nat.mul_comm]
  rw [hA, hB, hG, hQ, hC] at h
  rw [hU, hG, hQ]
  have h2 := Nat.mul_le_mul_right K h
  rw [Nat.add_mul] at h2
  have l1 : N * C * (A * Q) * K = B * (N * (U * Q)) := by
    calc N * C * (A * Q) * K = N * (C * A * K) * Q := by ac_rfl
      _ = _ := by rw [hCAK]; ac_rfl
  have l2 : d * (B * G) * K = B * (2 ^ k * (d * G * 2 ^ E)) := by rw [hKE]; ac_rfl
  rw [l1, l2] at h2
  constructor
  · apply Nat.le_of_mul_le_mul_left _ hB0
    omega
  · intro ho
    rw [ho, Nat.one_mul] at h2
    apply Nat.lt_of_mul_lt_mul_left (a := B)
    omega
/-- a number of digits, in units of the least float, rounded -/
def rnd (E : Nat) (x : Nat × Int) : Nat := Fl.rung (x.1 * 10 ^ x.2.toNat * 2 ^ E) (10 ^ (-x.2).toNat)
theorem rnd_ten (E d : Nat) (p : Int) : rnd E (d, -(p - 1)) = rnd E (10 * d, -p) := by
  unfold rnd
  simp only
  rcases Int.lt_or_le 0 p with h | h
  · have e1 : (-(p - 1)).toNat = 0 := by omega
    have e2 : (-p).toNat = 0 := by omega
    have e3 : (- -p).toNat = (- -(p - 1)).toNat + 1 := by omega
    rw [e1, e2, e3, Nat.pow_zero, Nat.mul_one, Nat.mul_one, Nat.pow_succ, show 10 * d * 2 ^ E = d * 2 ^ E * 10 by ac_rfl, Fl.rung_scale _ _ (by decide)]
  · have e1 : (-(p - 1)).toNat = (-p).toNat + 1 := by omega
    have e2 : (- -p).toNat = 0 := by omega
    have e3 : (- -(p - 1)).toNat = 0 := by omega
    rw [e1, e2, e3, Nat.pow_succ]
    congr 1
    ac_rfl
/-- rounded to a float; of at most 18 digits; the power of ten is in its range -/
def RndIs (E : Nat) (r : Nat × Int) (v : Nat) : Prop := rnd E r = v ∧ r.1 < 1000000000000000000 ∧ -324 ≤ r.2 ∧ r.2 ≤ 293
theorem lt_18 {d mx o e p : _} (h : d * tY e p + o ≤ mx * tT e p) (hm : mx < 18446744073709551616) (f : 18446744073709551616 * tT e p ≤ 1000000000000000000 * tY e p) : d < 1000000000000000000 := by
  apply Nat.lt_of_mul_lt_mul_right (a := tY e p)
  have := Nat.mul_lt_mul_of_pos_right hm (tT_pos e p)
  omega
theorem rnd_of {E d M u : Nat} {p : Int} {r : Nat × Int} (h : r = (d, -p) ∨ ∃ d', d = 10 * d' ∧ r = (d', -(p - 1))) (h18 : d < 1000000000000000000) (hp1 : -292 ≤ p) (hp2 : p ≤ 324) (hn : Fl.rung (d * 10 ^ (-p).toNat * 2 ^ E) (10 ^ p.toNat) = u * 4503599627370496 + M) : RndIs E r (u * 4503599627370496 + M) := by
  have e : rnd E (d, -p) = u * 4503599627370496 + M := by
    unfold rnd
    simp only
    rw [Int.neg_neg]
    exact hn
  rcases h with rfl | ⟨d', rfl, rfl⟩
  · exact ⟨e, h18, by simp only; omega, by simp only; omega⟩
  · exact ⟨by rw [rnd_ten]; exact e, by simp only; omega, by simp only; omega, by simp only; omega⟩
theorem near_mk {M u P Q : Nat} (hM0 : 0 < M) (hs : M = 4503599627370496 → 0 < u → False) (_hX : 0 < 2 ^ u * Q) (n1 : (2 * M - 1) * (2 ^ u * Q) ≤ 2 ^ 1 * P ∧ (M % 2 = 1 → (2 * M - 1) * (2 ^ u * Q) < 2 ^ 1 * P))
    (n2 : 2 ^ 1 * P ≤ (2 * M + 1) * (2 ^ u * Q) ∧ (M % 2 = 1 → 2 ^ 1 * P < (2 * M + 1) * (2 ^ u * Q))) : Fl.Near P Q M u := by
  obtain ⟨a1, a2⟩ := n1
  obtain ⟨b1, b2⟩ := n2
  rw [show (2 : Nat) ^ 1 = 2 from rfl] at a1 a2 b1 b2
  obtain ⟨X, hXe⟩ : ∃ X, 2 ^ u * Q = X := ⟨_, rfl⟩
  rw [hXe] at a1 a2 b1 b2
  have e1 : (2 * M - 1) * X + X = 2 * M * X := by
    have : 2 * M - 1 + 1 = 2 * M := by omega
    calc (2 * M - 1) * X + X = (2 * M - 1 + 1) * X := by rw [Nat.add_mul, Nat.one_mul]
      _ = _ := by rw [this]
  refine ⟨?_, ?_, fun h1 h2 => (hs h1 h2).elim⟩ <;> rw [hXe]
  · rcases Nat.lt_or_ge (2 * P) ((2 * M + 1) * X) with h | h
    · exact .inl h
    · refine .inr ⟨Nat.le_antisymm b1 h, ?_⟩
      rcases Nat.mod_two_eq_zero_or_one M with h' | h'
      · exact h'
      · have := b2 h'; omega
  · rcases Nat.lt_or_ge (2 * M * X) (2 * P + X) with h | h
    · exact .inl h
    · refine .inr ⟨by omega, ?_⟩
      rcases Nat.mod_two_eq_zero_or_one M with h' | h'
      · exact h'
      · have := a2 h'; omega
theorem near_top {u P Q : Nat} (hX0 : 0 < 2 ^ u * Q) (c1 : 18014398509481983 * (2 ^ u * Q) ≤ 2 ^ 2 * P) (c2 : 2 ^ 1 * P ≤ 9007199254740993 * (2 ^ u * Q)) : Fl.Near P Q 4503599627370496 u := by
  rw [show (2 : Nat) ^ 2 = 4 from rfl] at c1
  rw [show (2 : Nat) ^ 1 = 2 from rfl] at c2
  obtain ⟨X, hXe⟩ : ∃ X, 2 ^ u * Q = X := ⟨_, rfl⟩
  rw [hXe] at c1 c2 hX0
  refine ⟨?_, .inl ?_, fun _ _ => ?_⟩ <;> rw [hXe]
  · rcases Nat.lt_or_ge (2 * P) (9007199254740993 * X) with h | h
    · exact .inl h
    · exact .inr ⟨Nat.le_antisymm c2 h, rfl⟩
  · show 9007199254740992 * X < 2 * P + X
    have := hX0
    omega
  · omega
theorem short_round {M L u E : Nat} (hE : E = 1074) (hM0 : 0 < M) (hM : M < 9007199254740992) (hc : 4503599627370496 ≤ M ∨ u = 0) (hu : u ≤ 2045) (hn1 : 9223372036854775808 ≤ M * 2 ^ L) (hn2 : M * 2 ^ L < 18446744073709551616) :
    RndIs E (shortF (M * 2 ^ L) ((u : Int) - 1074 - L)) (u * 4503599627370496 + M) := by
  obtain ⟨e, he⟩ : ∃ e : Int, (u : Int) - 1074 - L = e := ⟨_, rfl⟩
  rw [he]
  have he' : e = (u : Int) - 1074 - L := he.symm
  have hQ : ∀ p : Int, 0 < 10 ^ p.toNat := fun p => Nat.pow_pos (by decide)
  by_cases hbig : 4503599627370496 ≤ M
  · have hL : L = 11 := by
      rcases Nat.lt_trichotomy L 11 with h | h | h
      · exfalso
        have : 2 ^ L ≤ 2 ^ 10 := Nat.pow_le_pow_right (by decide) (by omega)
        have := Nat.mul_le_mul hM this
        have h10 : 2 ^ 10 = 1024 := rfl
        rw [h10] at this
        have h2 := Nat.mul_le_mul_left M ‹2 ^ L ≤ 2 ^ 10›
        rw [h10] at h2
        omega
      · exact h
      · exfalso
        have : 2 ^ 12 ≤ 2 ^ L := Nat.pow_le_pow_right (by decide) h
        have h2 := Nat.mul_le_mul_left M this
        have h12 : 2 ^ 12 = 4096 := rfl
        rw [h12] at h2
        omega
    subst hL
    have h11 : 2 ^ 11 = 2048 := rfl
    rw [h11] at hn1 hn2 ⊢
    have hmx : M * 2048 + 1024 < 18446744073709551616 := by
      have h3 : M * 2048 + 1024 ≤ 9007199254740991 * 2048 + 1024 := Nat.add_le_add_right (Nat.mul_le_mul_right 2048 (Nat.le_of_lt_succ hM)) 1024
      exact Nat.lt_of_le_of_lt h3 (by decide)
    unfold shortF
    have hr : (e + 1085).toNat < 2046 := by omega
    have hre : (((e + 1085).toNat : Nat) : Int) - 1085 = e := by omega
    by_cases hsk : M * 2048 = 9223372036854775808 ∧ -1085 < e
    · rw [if_pos hsk]
      have hM52 : M = 4503599627370496 := by omega
      have hf := List.all_eq_true.1 factS_all (e + 1085).toNat (List.mem_range.2 hr)
      rw [hre] at hf
      obtain ⟨f1, f2, f3, f4, f5⟩ := of_decide_eq_true hf
      change RndIs E (sfTail (M * 2048) (M * 2048 - 512) (M * 2048 + 1024) (M * 2048 / 2048 % 2) e (pS e)) _
      generalize pS e = p at f1 f2 f3 f4 f5 ⊢
      have hodd : M * 2048 / 2048 % 2 = 0 := by omega
      rw [hodd]
      have g : ∀ y, 0 < y → y < 36028797018963968 → UnrIs (512 * y * tT e p) (tY e p) (scal (512 * y) e p) := fun y h1 h2 =>
        scal_is (by omega) (by omega) (by omega) (by omega) (by omega) (fmt_good f1 f2 (by unfold sh; omega) h1 h2)
      have gm := g (M * 4) (by omega) (by omega)
      have gn := g (M * 4 - 1) (by omega) (by omega)
      have gx := g (M * 4 + 2) (by omega) (by omega)
      rw [show 512 * (M * 4) = M * 2048 by omega] at gm
      rw [show 512 * (M * 4 - 1) = M * 2048 - 512 by omega] at gn
      rw [show 512 * (M * 4 + 2) = M * 2048 + 1024 by omega] at gx
      have hT := tT_pos e p
      have hY := tY_pos e p
      have w1 : (M * 2048 - 512) * tT e p + 512 * tT e p = M * 2048 * tT e p := by rw [← Nat.add_mul, show M * 2048 - 512 + 512 = M * 2048 by omega]
      have w2 : M * 2048 * tT e p + 1024 * tT e p = (M * 2048 + 1024) * tT e p := by rw [← Nat.add_mul]
      obtain ⟨d, ⟨i1, i2⟩, hd⟩ := sfT_in (p := p) hY (show 0 ≤ 1 by omega) gn gm gx (by omega) (by omega) (by omega) (by omega) (ex_even hY (by omega))
      refine rnd_of hd (lt_18 i2 hmx f5) f1 f2 (Fl.rung_near (hQ p) hM hc hu ?_)
      subst hM52
      have n1 := near_lo (M := 4503599627370496) (L := 11) (k := 2) (N := 18014398509481983) (d := d) (p := p) he' hE (by omega) (by
        rw [show 2 ^ (11 - 2) = 512 from rfl]
        exact i1)
      have n2 := near_hi (M := 4503599627370496) (L := 11) (k := 1) (N := 9007199254740993) (d := d) (p := p) he' hE (by omega) (by
        rw [show 2 ^ (11 - 1) = 1024 from rfl]
        exact i2)
      exact near_top (Nat.mul_pos (Nat.two_pow_pos _) (hQ p)) n1.1 n2.1
    · rw [if_neg hsk, if_pos (by omega)]
      have hf := List.all_eq_true.1 factN_all (e + 1085).toNat (List.mem_range.2 hr)
      rw [hre] at hf
      obtain ⟨f1, f2, f3, f4, f5⟩ := of_decide_eq_true hf
      change RndIs E (sfTail (M * 2048) (M * 2048 - 1024) (M * 2048 + 1024) (M * 2048 / 2048 % 2) e (pN e)) _
      have hpN : e = -11 → pN e = 0 := by rintro rfl; rfl
      generalize pN e = p at f1 f2 f3 f4 f5 hpN ⊢
      have hodd : M * 2048 / 2048 % 2 = M % 2 := by omega
      rw [hodd]
      have g : ∀ y, 0 < y → y < 36028797018963968 → UnrIs (512 * y * tT e p) (tY e p) (scal (512 * y) e p) := fun y h1 h2 =>
        scal_is (by omega) (by omega) (by omega) (by omega) (by omega) (fmt_good f1 f2 (by unfold sh; omega) h1 h2)
      have gm := g (M * 4) (by omega) (by omega)
      have gn := g (M * 4 - 2) (by omega) (by omega)
      have gx := g (M * 4 + 2) (by omega) (by omega)
      rw [show 512 * (M * 4) = M * 2048 by omega] at gm
      rw [show 512 * (M * 4 - 2) = M * 2048 - 1024 by omega] at gn
      rw [show 512 * (M * 4 + 2) = M * 2048 + 1024 by omega] at gx
      have hT := tT_pos e p
      have hY := tY_pos e p
      have w1 : (M * 2048 - 1024) * tT e p + 1024 * tT e p = M * 2048 * tT e p := by rw [← Nat.add_mul, show M * 2048 - 1024 + 1024 = M * 2048 by omega]
      have w2 : M * 2048 * tT e p + 1024 * tT e p = (M * 2048 + 1024) * tT e p := by rw [← Nat.add_mul]
      have hex : ∃ d, (M * 2048 - 1024) * tT e p + M % 2 ≤ d * tY e p ∧ d * tY e p + M % 2 ≤ (M * 2048 + 1024) * tT e p := by
        rcases f4 with f4 | f4
        · have hp0 := hpN f4
          subst f4 hp0
          have t1 : tT (-11) 0 = 1 := rfl
          have t2 : tY (-11) 0 = 2048 := rfl
          rw [t1, t2]
          exact ⟨M, by omega, by omega⟩
        · exact ex_wide hY (by omega) (by omega)
      obtain ⟨d, ⟨i1, i2⟩, hd⟩ := sfT_in (p := p) hY (show M % 2 ≤ 1 by omega) gn gm gx (by omega) (by omega) (by omega) (by omega) hex
      refine rnd_of hd (lt_18 i2 hmx f5) f1 f2 (Fl.rung_near (hQ p) hM hc hu ?_)
      have n1 := near_lo (M := M) (L := 11) (k := 1) (N := 2 * M - 1) (d := d) (p := p) he' hE (by omega) (by
        rw [show 2 ^ (11 - 1) = 1024 from rfl, show (2 * M - 1) * 1024 = M * 2048 - 1024 by omega]
        exact i1)
      have n2 := near_hi (M := M) (L := 11) (k := 1) (N := 2 * M + 1) (d := d) (p := p) he' hE (by omega) (by
        rw [show 2 ^ (11 - 1) = 1024 from rfl, show (2 * M + 1) * 1024 = M * 2048 + 1024 by omega]
        exact i2)
      exact near_mk hM0 (by
        intro h1 h2
        apply hsk
        omega) (Nat.mul_pos (Nat.two_pow_pos _) (hQ p)) n1 n2
  · have hu0 : u = 0 := by omega
    subst hu0
    have hL1 : 12 ≤ L := by
      rcases Nat.lt_or_ge L 12 with h | h
      · exfalso
        have h3 : 2 ^ L ≤ 2 ^ 11 := Nat.pow_le_pow_right (by decide) (by omega)
        have h2 := Nat.mul_le_mul_left M h3
        have h11 : 2 ^ 11 = 2048 := rfl
        rw [h11] at h2
        omega
      · exact h
    have hL2 : L ≤ 63 := by
      rcases Nat.lt_or_ge 63 L with h | h
      · exfalso
        have h3 : 2 ^ 64 ≤ 2 ^ L := Nat.pow_le_pow_right (by decide) h
        have h2 := Nat.mul_le_mul_right (2 ^ L) hM0
        have h64 : 2 ^ 64 = 18446744073709551616 := rfl
        rw [h64] at h3
        omega
      · exact h
    obtain ⟨l, rfl⟩ : ∃ l, L = l + 10 := ⟨L - 10, by omega⟩
    have hl512 : 2 ^ (l + 10) = 512 * (2 * 2 ^ l) := by rw [Nat.pow_add, show 2 ^ 10 = 512 * 2 from rfl, Nat.mul_comm, Nat.mul_assoc]
    have hl9 : 2 ^ (l + 10 - 1) = 512 * 2 ^ l := by rw [show l + 10 - 1 = l + 9 by omega, Nat.pow_add, show 2 ^ 9 = 512 from rfl, Nat.mul_comm]
    have hf := List.all_eq_true.1 factD_all (e + 1137).toNat (List.mem_range.2 (by omega))
    rw [show (((e + 1137).toNat : Nat) : Int) - 1137 = e by omega] at hf
    obtain ⟨f3, f4, f5⟩ := of_decide_eq_true hf
    unfold shortF
    rw [if_neg (by omega), if_neg (by omega)]
    change RndIs E (sfTail (M * 2 ^ (l + 10)) (M * 2 ^ (l + 10) - 2 ^ (-1075 - e).toNat) (M * 2 ^ (l + 10) + 2 ^ (-1075 - e).toNat) (M * 2 ^ (l + 10) / 2 ^ (-1074 - e).toNat % 2) e 324) _
    rw [show (-1075 - e).toNat = l + 10 - 1 by omega, show (-1074 - e).toNat = l + 10 by omega, Nat.mul_div_cancel _ (Nat.two_pow_pos _)]
    rw [show (-1074 - e).toNat = l + 10 by omega] at f4
    obtain ⟨W, hW⟩ : ∃ W, 2 ^ l = W := ⟨_, rfl⟩
    have hW0 : 0 < W := by rw [← hW]; exact Nat.two_pow_pos _
    rw [hW] at hl512 hl9
    have hMW : W ≤ M * W := Nat.le_mul_of_pos_left W hM0
    have hm1 : M * 2 ^ (l + 10) = 512 * (2 * (M * W)) := by rw [hl512]; simp only [Nat.mul_left_comm M]
    rw [hm1] at hn1 hn2 ⊢
    rw [hl9]
    rw [hl512] at f4
    have hMW2 : M * W + W ≤ 18014398509481984 := by
      have e54 : 2 ^ (54 - l) * W = 18014398509481984 := by rw [← hW, ← Nat.pow_add, show 54 - l + l = 54 by omega]
      have h1 : M < 2 ^ (54 - l) := by
        apply Nat.lt_of_mul_lt_mul_right (a := W)
        rw [e54]; omega
      have h2 := Nat.mul_le_mul_right W h1
      rw [e54, Nat.succ_mul] at h2
      exact h2
    have g : ∀ y, 0 < y → y < 36028797018963968 → UnrIs (512 * y * tT e 324) (tY e 324) (scal (512 * y) e 324) := fun y h1 h2 =>
      scal_is (by omega) (by omega) (by omega) (by omega) (by omega) (fmt_good (by omega) (by omega) (by unfold sh; omega) h1 h2)
    have gm := g (2 * (M * W)) (by omega) (by omega)
    have gn := g (2 * (M * W) - W) (by omega) (by omega)
    have gx := g (2 * (M * W) + W) (by omega) (by omega)
    rw [Nat.mul_sub] at gn
    rw [Nat.mul_add] at gx
    have hT := tT_pos e 324
    have hY := tY_pos e 324
    have w1 : (512 * (2 * (M * W)) - 512 * W) * tT e 324 + 512 * W * tT e 324 = 512 * (2 * (M * W)) * tT e 324 := by rw [← Nat.add_mul, Nat.sub_add_cancel (by omega)]
    have w2 : 512 * (2 * (M * W)) * tT e 324 + 512 * W * tT e 324 = (512 * (2 * (M * W)) + 512 * W) * tT e 324 := by rw [← Nat.add_mul]
    have w3 : 512 * (2 * W) * tT e 324 = 2 * (512 * W * tT e 324) := by ac_rfl
    have w4 : 0 < 512 * W * tT e 324 := Nat.mul_pos (by omega) hT
    obtain ⟨d, ⟨i1, i2⟩, hd⟩ := sfT_in (p := 324) hY (show M % 2 ≤ 1 by omega) gn gm gx (by omega) (by omega) (by omega) (by omega) (ex_wide hY (by omega) (by omega))
    refine rnd_of hd (lt_18 i2 (by omega) f5) (by omega) (by omega) (Fl.rung_near (hQ 324) hM hc hu ?_)
    have n1 := near_lo (M := M) (L := l + 10) (k := 1) (N := 2 * M - 1) (d := d) (p := 324) he' hE (by omega) (by
      rw [hl9, Nat.sub_mul, Nat.one_mul, show 2 * M * (512 * W) = 512 * (2 * (M * W)) by ac_rfl]
      exact i1)
    have n2 := near_hi (M := M) (L := l + 10) (k := 1) (N := 2 * M + 1) (d := d) (p := 324) he' hE (by omega) (by
      rw [hl9, Nat.add_mul, Nat.one_mul, show 2 * M * (512 * W) = 512 * (2 * (M * W)) by ac_rfl]
      exact i2)
    exact near_mk hM0 (by intro h1 h2; omega) (Nat.mul_pos (Nat.two_pow_pos _) (hQ 324)) n1 n2
end Pl
end Go.Proofs.YtlodbibagmblkaaGreatDoor
