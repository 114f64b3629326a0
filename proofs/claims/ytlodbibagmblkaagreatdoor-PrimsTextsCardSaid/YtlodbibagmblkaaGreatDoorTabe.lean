/- Plain: what parseFloat64 answers is the nearest float. The contracts of pack64, bool2[int] and unmin. The contract of pack64. The contract of parseFloat64. -/
import Derived.Test.YtlodbibagmblkaaGreatDoorTabd
import Derived.Test.YtlodbibagmblkaaGreatDoorTaab
import Derived.Test.YtlodbibagmblkaaGreatDoorTabb
import Derived.Test.YtlodbibagmblkaaGreatDoorTaaf
import Derived.Laws.BitsAllLaws
namespace Go.Proofs.YtlodbibagmblkaaGreatDoor
open Go
namespace Pl
theorem sq64' (s : Nat) : 2 ^ (128 + s) = 2 ^ s * 340282366920938463463374607431768211456 := by
  rw [Nat.pow_add, Nat.mul_comm]
/-- the unrounded number of four times X by Y, rounded; the one of half of it -/
theorem unr_rhe {X Y : Nat} (hY : 0 < Y) : (unr (4 * X) Y + 1 + unr (4 * X) Y / 4 % 2) / 4 = Fl.rhe X Y := by
  obtain ⟨q, hq⟩ : ∃ q, 4 * X / Y = q := ⟨_, rfl⟩
  have e := Nat.div_add_mod (4 * X) Y
  have hr := Nat.mod_lt (4 * X) hY
  rw [hq] at e
  obtain ⟨o0, o1, o2, o3⟩ := or_zero_one q
  have hu : unr (4 * X) Y = if 4 * X % Y = 0 then q else q ||| 1 := by
    unfold unr
    rw [hq]
    by_cases hd : 4 * X % Y = 0
    · rw [if_pos (Nat.dvd_of_mod_eq_zero hd), if_pos hd, o0]
    · rw [if_neg (fun h => hd (Nat.mod_eq_zero_of_dvd h)), if_neg hd]
  rw [hu]
  have eX := Nat.div_add_mod X Y
  have hrX := Nat.mod_lt X hY
  unfold Fl.rhe
  obtain ⟨f, hf⟩ : ∃ f, X / Y = f := ⟨_, rfl⟩
  obtain ⟨t, ht⟩ : ∃ t, X % Y = t := ⟨_, rfl⟩
  rw [hf, ht] at eX
  rw [ht] at hrX
  rw [hf, ht]
  generalize 4 * X % Y = r at e hr
  have hqf : q / 4 = f := by rw [← hq, ← hf, Nat.div_div_eq_div_mul, Nat.mul_comm Y 4, Nat.mul_div_mul_left _ _ (by decide)]
  obtain ⟨g, hg⟩ : ∃ g, q = 4 * f + g := ⟨q % 4, by omega⟩
  have hg4 : g < 4 := by omega
  have e4 : g * Y + r = 4 * t := by
    have : Y * q = 4 * (Y * f) + g * Y := by rw [hg, Nat.mul_add, Nat.mul_comm g Y, Nat.mul_left_comm]
    omega
  have hd : (if r = 0 then q else q ||| 1) / 4 = f := by
    split
    · exact hqf
    · omega
  rw [hd]
  rcases (show g = 0 ∨ g = 1 ∨ g = 2 ∨ g = 3 by omega) with rfl | rfl | rfl | rfl
  · have hb : (decide (Y < 2 * t) || (Y == 2 * t && f % 2 == 1)) = false := by
      rw [Bool.or_eq_false_iff]
      exact ⟨by rw [decide_eq_false_iff_not]; omega, by rw [Bool.and_eq_false_iff]; left; rw [beq_eq_false_iff_ne]; omega⟩
    rw [hb]
    split <;> simp <;> omega
  · have hb : (decide (Y < 2 * t) || (Y == 2 * t && f % 2 == 1)) = false := by
      rw [Bool.or_eq_false_iff]
      exact ⟨by rw [decide_eq_false_iff_not]; omega, by rw [Bool.and_eq_false_iff]; left; rw [beq_eq_false_iff_ne]; omega⟩
    rw [hb]
    split <;> simp <;> omega
  · by_cases h0 : r = 0
    · rw [if_pos h0]
      have h1 : decide (Y < 2 * t) = false := by rw [decide_eq_false_iff_not]; omega
      have h2 : (Y == 2 * t) = true := by rw [beq_iff_eq]; omega
      rw [h1, h2, Bool.false_or, Bool.true_and]
      rcases Nat.mod_two_eq_zero_or_one f with h3 | h3
      · rw [h3]; simp; omega
      · rw [h3]; simp; omega
    · rw [if_neg h0]
      have h1 : decide (Y < 2 * t) = true := by rw [decide_eq_true_iff]; omega
      rw [h1, Bool.true_or]
      simp
      omega
  · have h1 : decide (Y < 2 * t) = true := by rw [decide_eq_true_iff]; omega
    rw [h1, Bool.true_or]
    split <;> simp <;> omega
theorem unr_half {X Y : Nat} (hY : 0 < Y) : unr (4 * X) Y / 2 ||| unr (4 * X) Y % 2 = unr (4 * X) (2 * Y) := by
  obtain ⟨q, hq⟩ : ∃ q, 4 * X / Y = q := ⟨_, rfl⟩
  have e := Nat.div_add_mod (4 * X) Y
  have hr := Nat.mod_lt (4 * X) hY
  rw [hq] at e
  obtain ⟨o0, o1, o2, o3⟩ := or_zero_one q
  have h2 : 4 * X / (2 * Y) = q / 2 := by rw [Nat.mul_comm 2 Y, ← Nat.div_div_eq_div_mul, hq]
  unfold unr
  rw [hq, h2]
  generalize hR : 4 * X % Y = r at e hr
  have hdiv : Y ∣ 4 * X ↔ r = 0 := by rw [← hR]; exact ⟨Nat.mod_eq_zero_of_dvd, Nat.dvd_of_mod_eq_zero⟩
  have hdiv2 : 2 * Y ∣ 4 * X ↔ r = 0 ∧ q % 2 = 0 := by
    constructor
    · rintro ⟨c, hc⟩
      have hc' : Y * (2 * c) = 4 * X := by rw [hc]; ac_rfl
      have h0 : r = 0 := hdiv.1 ⟨2 * c, hc'.symm⟩
      refine ⟨h0, ?_⟩
      have : Y * q = Y * (2 * c) := by omega
      have := Nat.eq_of_mul_eq_mul_left hY this
      omega
    · rintro ⟨h0, h1⟩
      refine ⟨q / 2, ?_⟩
      have : q = 2 * (q / 2) := by omega
      rw [h0, Nat.add_zero] at e
      rw [← e]
      conv => lhs; rw [this]
      ac_rfl
  by_cases h0 : r = 0
  · rw [if_pos (hdiv.2 h0), o0]
    rcases Nat.mod_two_eq_zero_or_one q with h1 | h1
    · rw [if_pos (hdiv2.2 ⟨h0, h1⟩), h1]
    · rw [if_neg (fun h => by have := (hdiv2.1 h).2; omega), h1]
  · rw [if_neg (fun h => h0 (hdiv.1 h)), if_neg (fun h => h0 (hdiv2.1 h).1), o2, o3]
theorem unr_ge {X Y n : Nat} (hY : 0 < Y) : 2 * n ≤ unr (4 * X) Y ↔ n * Y ≤ 2 * X := by
  obtain ⟨q, hq⟩ : ∃ q, 4 * X / Y = q := ⟨_, rfl⟩
  obtain ⟨o0, o1, o2, o3⟩ := or_zero_one q
  have hu : 2 * n ≤ unr (4 * X) Y ↔ 2 * n ≤ q := by
    unfold unr
    rw [hq]
    split
    · rw [o0]
    · omega
  rw [hu, ← hq, Nat.le_div_iff_mul_le hY, Nat.mul_assoc]
  omega
def rangeOk (p : Int) : Bool := decide (2 ^ 127 * denB p ≤ numA p ∧ numA p * 2 ^ 50 ≤ (2 ^ 50 - 1) * 2 ^ 128 * denB p)
theorem range_all : ((List.range 656).all fun i => rangeOk ((i : Int) - 345)) = true := by decide +kernel
theorem range_is {p : Int} (h1 : -345 ≤ p) (h2 : p ≤ 310) : 170141183460469231731687303715884105728 * denB p ≤ numA p ∧ numA p * 1125899906842624 ≤ 383123885216471874307219835849113832530077348777689088 * denB p := by
  have h := List.all_eq_true.1 range_all (p + 345).toNat (List.mem_range.2 (by omega))
  rw [show (((p + 345).toNat : Nat) : Int) - 345 = p by omega] at h
  obtain ⟨a, b⟩ := of_decide_eq_true h
  exact ⟨a, b⟩
/-- which power of two parseFloat64 scales by -/
def pE (b : Nat) (p : Int) : Int := min 1074 (53 - b - p * 108853 / 32768)
def pSh (b : Nat) (p : Int) : Int := -(pE b p - (64 - b) + p * 108853 / 32768 + 3)
def pU (d b : Nat) (p : Int) : Nat := scal (d * 2 ^ (64 - b)) (pE b p - (64 - b)) p
def pMant (u : Nat) : Nat := if 36028797018963966 ≤ u then ((u / 2 ||| u % 2) + 1 + (u / 2 ||| u % 2) / 4 % 2) / 4 else (u + 1 + u / 4 % 2) / 4
def pExp (u : Nat) (e : Int) : Int := if 36028797018963966 ≤ u then e - 1 else e
/-- the bits of m times 2 to the e; whether it is too great -/
def pPack (m : Nat) (e : Int) : Nat × Bool :=
  if m / 4503599627370496 % 2 = 0 then (m, false) else if 972 ≤ e then (9218868437227405312, true) else (m - 4503599627370496 + (1075 + e).toNat * 4503599627370496, false)
/-- what parseFloat64 answers, but for the sign -/
def pOut (d b : Nat) (p : Int) : Nat × Bool :=
  if 64 ≤ pSh b p then (0, false) else pPack (pMant (pU d b p)) (-(pExp (pU d b p) (pE b p)))
/-- the bounds of what is scaled -/
structure Scaled (d b : Nat) (p : Int) (X Y : Nat) : Prop where
  y : 0 < Y
  u : pU d b p = unr (4 * X) Y
  lo : pE b p < 1074 → 4503599627370496 * Y ≤ X
  up : X < 18014398509481968 * Y
  s : 64 ≤ pSh b p → 4 * X < Y
  r : ∀ (k E : Nat), E = 1074 → (k : Int) = 1074 - pE b p → d * 10 ^ p.toNat * 2 ^ E * Y = X * (2 ^ k * 10 ^ (-p).toNat)
theorem scaled_of {d b : Nat} {p : Int} (hb1 : 1 ≤ b) (hb2 : b ≤ 64) (hd1 : 2 ^ (b - 1) ≤ d) (hd2 : d < 2 ^ b) (h1 : -345 ≤ p) (h2 : p ≤ 310) : ∃ X Y, Scaled d b p X Y := by
  obtain ⟨x, hx⟩ : ∃ x, d * 2 ^ (64 - b) = x := ⟨_, rfl⟩
  have hx1 : 9223372036854775808 ≤ x := by
    have := Nat.mul_le_mul_right (2 ^ (64 - b)) hd1
    rw [← Nat.pow_add, show b - 1 + (64 - b) = 63 by omega, hx] at this
    exact this
  have hx2 : x < 18446744073709551616 := by
    have := Nat.mul_lt_mul_of_pos_right hd2 (Nat.two_pow_pos (64 - b))
    rw [← Nat.pow_add, show b + (64 - b) = 64 by omega, hx] at this
    exact this
  obtain ⟨l, hl⟩ : ∃ l, p * 108853 / 32768 = l := ⟨_, rfl⟩
  obtain ⟨e, he⟩ : ∃ e, pE b p = e := ⟨_, rfl⟩
  have hee : e = min 1074 (53 - b - l) := by rw [← he, ← hl]; rfl
  obtain ⟨e0, he0⟩ : ∃ e0 : Int, e - (64 - (b : Int)) = e0 := ⟨_, rfl⟩
  have hneg : e0 + p * 108853 / 32768 + 3 ≤ 0 := by rw [hl]; omega
  have hshv : (sh e0 p : Int) = -(e0 + l + 3) := by unfold sh; rw [hl]; omega
  have hps : pSh b p = -(e0 + l + 3) := by unfold pSh; rw [he, hl, he0]
  obtain ⟨c, hc, r1, r2⟩ := pow_ratio hneg
  have g := parse_good h1 h2 (s := sh e0 p) (by omega) hx1 hx2
  have hu : pU d b p = unr (4 * (x * tT e0 p)) (tY e0 p) := by
    unfold pU scal
    rw [he, he0, hx, uscale_exact (row_is (by omega) (by omega)) (by omega) hx2 g, r1, r2, show x * (4 * tT e0 p * c) = 4 * (x * tT e0 p) * c by ac_rfl, unr_scale _ _ hc]
  obtain ⟨f1, f2⟩ := range_is h1 h2
  have hY := tY_pos e0 p
  have hT := tT_pos e0 p
  obtain ⟨S, hS⟩ : ∃ S, 2 ^ sh e0 p = S := ⟨_, rfl⟩
  have r2' : denB p * (S * 340282366920938463463374607431768211456) = tY e0 p * c := by rw [← hS, ← sq64']; exact r2
  have hB := denB_pos p
  have e1 : 4 * (x * tT e0 p * c) = x * numA p := by rw [r1]; ac_rfl
  obtain ⟨Z, hZ⟩ : ∃ Z, denB p * (S * 340282366920938463463374607431768211456) = Z := ⟨_, rfl⟩
  rw [hZ] at r2'
  refine ⟨x * tT e0 p, tY e0 p, hY, hu, ?_, ?_, ?_, ?_⟩
  · intro h
    have h8 : sh e0 p = 8 := by omega
    have hS8 : S = 256 := by rw [← hS, h8]
    have a1 := Nat.mul_le_mul hx1 f1
    rw [← e1] at a1
    apply Nat.le_of_mul_le_mul_right _ hc
    rw [Nat.mul_assoc, ← r2', ← hZ, hS8]
    clear f1 f2 hd1 hd2 hx1 hx2 hu r1 r2 r2' e1 hZ g
    generalize x * tT e0 p * c = V at a1 ⊢
    generalize denB p = B at a1 ⊢
    omega
  · have hA : 0 < numA p := by omega
    have a1 : x * (numA p * 1125899906842624) < 18446744073709551616 * (numA p * 1125899906842624) := Nat.mul_lt_mul_of_pos_right hx2 (by omega)
    have a2 := Nat.mul_le_mul_left 18446744073709551616 f2
    rw [← Nat.mul_assoc x, ← e1] at a1
    have hS8 : 256 ≤ S := by
      have : 2 ^ 8 ≤ 2 ^ sh e0 p := Nat.pow_le_pow_right (by decide) (by omega)
      rw [hS] at this; exact this
    have a3 : denB p * (256 * 340282366920938463463374607431768211456) ≤ Z := by rw [← hZ]; exact Nat.mul_le_mul_left _ (Nat.mul_le_mul_right _ hS8)
    apply Nat.lt_of_mul_lt_mul_right (a := c)
    rw [Nat.mul_assoc 18014398509481968, ← r2']
    have a4 := Nat.lt_of_lt_of_le a1 a2
    clear a1 a2 f1 f2 hd1 hd2 hx1 hx2 hu r1 r2 r2' e1 hZ g hA
    generalize x * tT e0 p * c = V at a4 ⊢
    generalize denB p = B at a3 a4 ⊢
    omega
  · intro h
    have hA : numA p < 340282366920938463463374607431768211456 * denB p := by
      clear f1 hd1 hd2 hx1 hx2 hu r1 r2 r2' e1 hZ g
      generalize numA p = A at f2 ⊢
      generalize denB p = B at f2 hB ⊢
      omega
    have a1 : x * numA p < 18446744073709551616 * (340282366920938463463374607431768211456 * denB p) := Nat.mul_lt_mul_of_lt_of_le hx2 (Nat.le_of_lt hA) (by omega)
    rw [← e1] at a1
    have hS8 : 18446744073709551616 ≤ S := by
      have : 2 ^ 64 ≤ 2 ^ sh e0 p := Nat.pow_le_pow_right (by decide) (by omega)
      rw [hS] at this; exact this
    have a3 : denB p * (18446744073709551616 * 340282366920938463463374607431768211456) ≤ Z := by rw [← hZ]; exact Nat.mul_le_mul_left _ (Nat.mul_le_mul_right _ hS8)
    apply Nat.lt_of_mul_lt_mul_right (a := c)
    rw [Nat.mul_assoc 4, ← r2']
    clear f1 f2 hd1 hd2 hx1 hx2 hu r1 r2 r2' e1 hZ g hA
    generalize x * tT e0 p * c = V at a1 ⊢
    generalize denB p = B at a1 a3 ⊢
    omega
  · intro k E hE hk
    rw [← hx]
    unfold tT tY
    have hp : 2 ^ E * 2 ^ (-e0).toNat = 2 ^ (64 - b) * 2 ^ e0.toNat * 2 ^ k := by
      rw [← Nat.pow_add, ← Nat.pow_add, ← Nat.pow_add]
      congr 1
      omega
    calc d * 10 ^ p.toNat * 2 ^ E * (2 ^ (-e0).toNat * 10 ^ (-p).toNat) = d * 10 ^ p.toNat * (2 ^ E * 2 ^ (-e0).toNat) * 10 ^ (-p).toNat := by ac_rfl
      _ = d * 2 ^ (64 - b) * (2 ^ e0.toNat * 10 ^ p.toNat) * (2 ^ k * 10 ^ (-p).toNat) := by rw [hp]; ac_rfl
theorem rhe_ratio {P Q X Y c : Nat} (hY : 0 < Y) (hc : 0 < c) (h : P * Y = X * c) (hQ : Q * Y = Y * c) : Fl.rhe P Q = Fl.rhe X Y := by
  rw [← Fl.rhe_scale P Q hY, h, hQ, Fl.rhe_scale X Y hc]
theorem rhe_up {p q n : Nat} (hq : 0 < q) (h : p ≤ n * q) : Fl.rhe p q ≤ n := by
  have e := Nat.div_add_mod p q
  have hr := Nat.mod_lt p hq
  unfold Fl.rhe
  generalize p / q = f at e ⊢
  generalize p % q = r at e hr ⊢
  have e2 : q * f = f * q := Nat.mul_comm _ _
  rcases Nat.lt_or_ge f n with h1 | h1
  · have := Bool.toNat_le (decide (q < 2 * r) || (q == 2 * r && f % 2 == 1))
    omega
  · have hfn : f = n := by
      rcases Nat.lt_or_ge n f with h2 | h2
      · exfalso
        have := Nat.mul_le_mul_right q h2
        rw [Nat.succ_mul] at this
        omega
      · omega
    subst hfn
    have hr0 : r = 0 := by omega
    subst hr0
    have : (decide (q < 2 * 0) || (q == 2 * 0 && f % 2 == 1)) = false := by
      rw [Bool.or_eq_false_iff]
      exact ⟨by rw [decide_eq_false_iff_not]; omega, by rw [Bool.and_eq_false_iff]; left; rw [beq_eq_false_iff_ne]; omega⟩
    rw [this]; simp
theorem rhe_dn {p q n : Nat} (hq : 0 < q) (h : n * q ≤ p) : n ≤ Fl.rhe p q := by
  unfold Fl.rhe
  have := (Nat.le_div_iff_mul_le hq).2 h
  omega
theorem rhe_half {p q n : Nat} (hq : 0 < q) (h : 2 * p < (2 * n + 1) * q) : Fl.rhe p q ≤ n := by
  rcases Nat.lt_or_ge (n * q) p with h1 | h1
  · refine Nat.le_of_eq (Fl.rhe_near hq (.inl ?_) (.inl h))
    rw [Nat.mul_assoc]; omega
  · exact rhe_up hq h1
theorem pack_is {m k : Nat} {e : Int} (h1 : 4503599627370496 ≤ m) (h2 : m ≤ 9007199254740991) (he : e = (k : Int) - 1074) :
    pPack m e = (min (k * 4503599627370496 + m) 9218868437227405312, decide (min (k * 4503599627370496 + m) 9218868437227405312 = 9218868437227405312)) := by
  unfold pPack
  rw [if_neg (by omega)]
  by_cases h : 972 ≤ e
  · rw [if_pos h]
    have : min (k * 4503599627370496 + m) 9218868437227405312 = 9218868437227405312 := by omega
    rw [this]; rfl
  · rw [if_neg h]
    have e1 : min (k * 4503599627370496 + m) 9218868437227405312 = k * 4503599627370496 + m := by omega
    have e2 : (1075 + e).toNat = k + 1 := by omega
    rw [e1, e2, decide_eq_false (by omega), show m - 4503599627370496 + (k + 1) * 4503599627370496 = k * 4503599627370496 + m by omega]
theorem rhe_edge {X Y : Nat} (hY : 0 < Y) (h1 : 18014398509481983 * Y ≤ 2 * X) (h2 : X < 9007199254740992 * Y) : Fl.rhe X (2 * Y) = 4503599627370496 ∧ Fl.rhe X Y = 9007199254740992 := by
  constructor
  · obtain ⟨Z, hZ⟩ : ∃ Z, 2 * Y = Z := ⟨_, rfl⟩
    rw [hZ]
    have a1 : 18014398509481983 * Z ≤ 4 * X := by omega
    have a2 : X < 4503599627370496 * Z := by omega
    have hZ0 : 0 < Z := by omega
    clear h1 h2 hZ
    refine Fl.rhe_near hZ0 (.inl ?_) (.inl ?_)
    · show 9007199254740992 * Z < 2 * X + Z
      omega
    · show 2 * X < 9007199254740993 * Z
      omega
  · refine Fl.rhe_near hY ?_ (.inl ?_)
    · rcases Nat.lt_or_ge (18014398509481984 * Y) (2 * X + Y) with h' | h'
      · exact .inl h'
      · refine .inr ⟨Nat.le_antisymm ?_ h', rfl⟩
        show 18014398509481984 * Y ≤ 2 * X + Y
        clear h' h2
        omega
    · show 2 * X < 18014398509481985 * Y
      omega
/-- parseFloat64 rounds to the nearest float -/
theorem parse_is {d b E : Nat} {p : Int} (hE : E = 1074) (hb1 : 1 ≤ b) (hb2 : b ≤ 64) (hd1 : 2 ^ (b - 1) ≤ d) (hd2 : d < 2 ^ b) (h1 : -345 ≤ p) (h2 : p ≤ 310) :
    pOut d b p = (rnd E (d, p), decide (rnd E (d, p) = 9218868437227405312)) := by
  obtain ⟨X, Y, hY, hu, hlo, hup, hs, hr⟩ := scaled_of hb1 hb2 hd1 hd2 h1 h2
  obtain ⟨k, hk⟩ : ∃ k : Nat, (k : Int) = 1074 - pE b p := ⟨(1074 - pE b p).toNat, by unfold pE; omega⟩
  have hrk := hr k E hE hk
  have hQ : 0 < 10 ^ (-p).toNat := Nat.pow_pos (by decide)
  obtain ⟨P, hP⟩ : ∃ P, d * 10 ^ p.toNat * 2 ^ E = P := ⟨_, rfl⟩
  obtain ⟨Q, hQe⟩ : ∃ Q, 10 ^ (-p).toNat = Q := ⟨_, rfl⟩
  have hrn : rnd E (d, p) = Fl.rung P Q := by unfold rnd; rw [hP, hQe]
  rw [hrn]
  rw [hP, hQe] at hrk
  rw [hQe] at hQ
  clear hr hP hQe hrn hd1 hd2
  have hK : 0 < 2 ^ k := Nat.two_pow_pos k
  -- the logarithm
  have hfloor : ∀ n, n * 2 ^ k ≤ P / Q ↔ n * Y ≤ X := by
    intro n
    rw [Nat.le_div_iff_mul_le hQ]
    have e1 : n * 2 ^ k * Q * Y = n * Y * (2 ^ k * Q) := by ac_rfl
    have hc : 0 < 2 ^ k * Q := Nat.mul_pos hK hQ
    constructor
    · intro h
      have := Nat.mul_le_mul_right Y h
      rw [hrk, e1] at this
      exact Nat.le_of_mul_le_mul_right this hc
    · intro h
      have := Nat.mul_le_mul_right (2 ^ k * Q) h
      rw [← e1, ← hrk] at this
      exact Nat.le_of_mul_le_mul_right this hY
  have hlog : ∀ j, 2 ^ j * Y ≤ X → X < 2 ^ (j + 1) * Y → (P / Q).log2 = j + k := by
    intro j h3 h4
    apply Fl.log2_between
    · rw [Nat.pow_add]; exact (hfloor _).2 h3
    · rw [show j + k + 1 = j + 1 + k by omega, Nat.pow_add]
      rcases Nat.lt_or_ge (P / Q) (2 ^ (j + 1) * 2 ^ k) with h | h
      · exact h
      · have := (hfloor _).1 h; omega
  have hrheA : Fl.rhe P (Q * 2 ^ k) = Fl.rhe X Y := rhe_ratio hY (Nat.mul_pos hK hQ) hrk (by ac_rfl)
  have hrheB : Fl.rhe P (Q * 2 ^ (k + 1)) = Fl.rhe X (2 * Y) := by
    refine rhe_ratio (c := 2 ^ (k + 1) * Q) (by omega) (Nat.mul_pos (Nat.two_pow_pos _) hQ) ?_ (by ac_rfl)
    calc P * (2 * Y) = 2 * (P * Y) := by ac_rfl
      _ = X * (2 ^ (k + 1) * Q) := by rw [hrk, Nat.pow_succ]; ac_rfl
  unfold pOut
  by_cases hs64 : 64 ≤ pSh b p
  · rw [if_pos hs64]
    have hX := hs hs64
    have hk0 : k = 0 := by
      unfold pSh at hs64
      unfold pE at hs64 hk
      omega
    subst hk0
    have hz : P / Q = 0 := by
      have := (hfloor 1)
      rw [Nat.pow_zero, Nat.one_mul, Nat.one_mul] at this
      rcases Nat.eq_zero_or_pos (P / Q) with h | h
      · exact h
      · have := this.1 h; omega
    have h0 : Fl.rhe X Y = 0 := Fl.rhe_near hY (.inl (by omega)) (.inl (by omega))
    have : Fl.rung P Q = 0 := by
      unfold Fl.rung
      rw [hz, show Nat.log2 0 - 52 = 0 from rfl, hrheA, h0]
      rfl
    rw [this]
    rfl
  · rw [if_neg hs64, hu]
    clear hs hs64 hu
    by_cases hge : 36028797018963966 ≤ unr (4 * X) Y
    · have hX := (unr_ge (n := 18014398509481983) hY).1 hge
      have hm : pMant (unr (4 * X) Y) = Fl.rhe X (2 * Y) := by
        unfold pMant
        rw [if_pos hge, unr_half hY, unr_rhe (by omega)]
      have he : pExp (unr (4 * X) Y) (pE b p) = pE b p - 1 := by unfold pExp; rw [if_pos hge]
      rw [hm, he]
      clear hge hm he
      have mu : Fl.rhe X (2 * Y) ≤ 9007199254740984 := rhe_up (by omega) (by omega)
      have key : 4503599627370496 ≤ Fl.rhe X (2 * Y) ∧ Fl.rung P Q = min ((k + 1) * 4503599627370496 + Fl.rhe X (2 * Y)) 9218868437227405312 := by
        rcases Nat.lt_or_ge X (9007199254740992 * Y) with h | h
        · obtain ⟨m1, m2⟩ := rhe_edge hY hX h
          refine ⟨by omega, ?_⟩
          unfold Fl.rung
          rw [hlog 52 (show 4503599627370496 * Y ≤ X by omega) h, show 52 + k - 52 = k by omega, hrheA, m1, m2, show (k + 1) * 4503599627370496 + 4503599627370496 = k * 4503599627370496 + 9007199254740992 by omega]
        · refine ⟨rhe_dn (by omega) (by omega), ?_⟩
          unfold Fl.rung
          rw [hlog 53 h (show X < 18014398509481984 * Y by omega), show 53 + k - 52 = k + 1 by omega, hrheB]
      obtain ⟨k1, k2⟩ := key
      rw [k2]
      clear k2 hrheA hrheB hlog hfloor hX hup hlo
      generalize Fl.rhe X (2 * Y) = m at mu k1 ⊢
      exact pack_is (by omega) (by omega) (by omega)
    · have hX : 2 * X < 18014398509481983 * Y := by
        rcases Nat.lt_or_ge (2 * X) (18014398509481983 * Y) with h | h
        · exact h
        · exact absurd ((unr_ge (n := 18014398509481983) hY).2 h) hge
      have hm : pMant (unr (4 * X) Y) = Fl.rhe X Y := by
        unfold pMant
        rw [if_neg hge, unr_rhe hY]
      have he : pExp (unr (4 * X) Y) (pE b p) = pE b p := by unfold pExp; rw [if_neg hge]
      rw [hm, he]
      clear hge hm he
      have mu : Fl.rhe X Y ≤ 9007199254740991 := rhe_half hY hX
      rcases Nat.lt_or_ge X (4503599627370496 * Y) with h | h
      · have hpe : pE b p = 1074 := by
          have : ¬ pE b p < 1074 := fun h' => by have := hlo h'; omega
          unfold pE at this ⊢
          omega
        have hk0 : k = 0 := by omega
        subst hk0
        have hz : (P / Q).log2 - 52 = 0 := by
          have h' : P / Q < 4503599627370496 := by
            have := hfloor 4503599627370496
            rw [Nat.pow_zero, Nat.mul_one] at this
            rcases Nat.lt_or_ge (P / Q) 4503599627370496 with h' | h'
            · exact h'
            · have := this.1 h'; omega
          rcases Nat.eq_zero_or_pos (P / Q) with h0 | h0
          · rw [h0]; rfl
          · have := (Nat.log2_lt (k := 52) (by omega)).2 h'
            omega
        have mm : Fl.rhe X Y ≤ 4503599627370496 := rhe_up hY (by omega)
        have : Fl.rung P Q = Fl.rhe X Y := by
          unfold Fl.rung
          rw [hz, hrheA]
          omega
        rw [this, hpe]
        clear this hz hrheA hrheB hlog hfloor hX hup hlo
        generalize Fl.rhe X Y = m at mm ⊢
        unfold pPack
        rcases Nat.lt_or_ge m 4503599627370496 with h5 | h5
        · rw [if_pos (by omega)]
          rw [decide_eq_false (by omega)]
        · have : m = 4503599627370496 := by omega
          subst this
          rfl
      · have k1 : 4503599627370496 ≤ Fl.rhe X Y := rhe_dn hY h
        have k2 : Fl.rung P Q = min (k * 4503599627370496 + Fl.rhe X Y) 9218868437227405312 := by
          unfold Fl.rung
          rw [hlog 52 h (show X < 9007199254740992 * Y by omega), show 52 + k - 52 = k by omega, hrheA]
        rw [k2]
        clear k2 hrheA hrheB hlog hfloor hX hup hlo
        generalize Fl.rhe X Y = m at mu k1 ⊢
        exact pack_is (by omega) (by omega) (by omega)
theorem scaled_lt {d b : Nat} {p : Int} {X Y : Nat} (h : Scaled d b p X Y) : pU d b p < 72057594037927936 ∧ pMant (pU d b p) ≤ 9007199254740991 := by
  have hY := h.y
  have hup := h.up
  rw [h.u]
  constructor
  · obtain ⟨q, hq⟩ : ∃ q, 4 * X / Y = q := ⟨_, rfl⟩
    have hq2 : q < 72057594037927872 := by
      rw [← hq, Nat.div_lt_iff_lt_mul hY]; omega
    obtain ⟨o0, o1, o2, o3⟩ := or_zero_one q
    unfold unr
    rw [hq]
    split
    · rw [o0]; omega
    · omega
  · unfold pMant
    by_cases hge : 36028797018963966 ≤ unr (4 * X) Y
    · rw [if_pos hge, unr_half hY, unr_rhe (by omega)]
      have : Fl.rhe X (2 * Y) ≤ 9007199254740984 := rhe_up (by omega) (by omega)
      omega
    · rw [if_neg hge, unr_rhe hY]
      refine rhe_half hY ?_
      rcases Nat.lt_or_ge (2 * X) (18014398509481983 * Y) with h' | h'
      · exact h'
      · exact absurd ((unr_ge (n := 18014398509481983) hY).2 h') hge
end Pl
end Go.Proofs.YtlodbibagmblkaaGreatDoor
namespace Go.Proofs.YtlodbibagmblkaaGreatDoor
open Go.RowKit
theorem bool2i_any (b : Bool) (w : World) : Calls Tryz.prog 266 #[.bool b] w fun e w' => e = .returned (.int .i64 (if b then 1 else 0)) ∧ w = w' := by
  cases b
  · go_enter Tryz.func266, Tryz.ntmps266
    go_wp2
    go_ret
    exact ⟨rfl, rfl⟩
  · go_enter Tryz.func266, Tryz.ntmps266
    go_wp2
    go_ret
    exact ⟨rfl, rfl⟩
theorem unmin_any (w : World) : Calls Tryz.prog 267 #[.int .u64 9007199254740992] w fun e w' => e = .returned (.int .u64 36028797018963966) ∧ w = w' := by
  go_enter Tryz.func267, Tryz.ntmps267
  go_wp2
  go_ret
  exact ⟨rfl, rfl⟩
namespace Pl
/-- the sign's bit -/
def sgb (s : Bool) : Nat := if s then 9223372036854775808 else 0
theorem word_sgb {s : Bool} {r : Nat} (hr : r < 9223372036854775808) : Fl.D.word s r = r + sgb s := by
  obtain ⟨a1, a2, a3⟩ := Fl.word_mod s hr
  generalize Fl.D.word s r = x at a1 a2 a3
  unfold sgb
  cases s
  · simp at a2 ⊢; omega
  · simp at a2 ⊢; omega
theorem sgb_cases (s : Bool) : sgb s = 0 ∨ sgb s = 9223372036854775808 := by unfold sgb; cases s <;> simp
theorem and52 (x : Nat) : x &&& 4503599627370496 = x / 4503599627370496 % 2 * 4503599627370496 := by
  have h1 := Nat.and_div_two_pow (a := x) (b := 4503599627370496) (n := 52)
  have h2 := Nat.and_mod_two_pow (a := x) (b := 4503599627370496) (n := 52)
  have e : (2 : Nat) ^ 52 = 4503599627370496 := rfl
  rw [e] at h1 h2
  rw [show 4503599627370496 / 4503599627370496 = 1 from rfl, Nat.and_one_is_mod] at h1
  rw [show 4503599627370496 % 4503599627370496 = 0 from rfl, Nat.and_zero] at h2
  generalize x &&& 4503599627370496 = y at h1 h2 ⊢
  omega
theorem and63 (x : Nat) : x &&& 9223372036854775808 = x / 9223372036854775808 % 2 * 9223372036854775808 := by
  have h1 := Nat.and_div_two_pow (a := x) (b := 9223372036854775808) (n := 63)
  have h2 := Nat.and_mod_two_pow (a := x) (b := 9223372036854775808) (n := 63)
  have e : (2 : Nat) ^ 63 = 9223372036854775808 := rfl
  rw [e] at h1 h2
  rw [show 9223372036854775808 / 9223372036854775808 = 1 from rfl, Nat.and_one_is_mod] at h1
  rw [show 9223372036854775808 % 9223372036854775808 = 0 from rfl, Nat.and_zero] at h2
  generalize x &&& 9223372036854775808 = y at h1 h2 ⊢
  omega
theorem or_high {l h : Nat} (hl : l < 4503599627370496) : l ||| h * 4503599627370496 = h * 4503599627370496 + l := by
  have := Nat.two_pow_add_eq_or_of_lt (i := 52) (b := l) hl h
  have e : (2 : Nat) ^ 52 = 4503599627370496 := rfl
  rw [e] at this
  rw [Nat.or_comm, Nat.mul_comm h, this]
/-- a number's rest, the sign's bit, a power -/
theorem or_parts {l k : Nat} (s : Bool) (hl : l < 4503599627370496) (hk : k < 2048) : (l + sgb s) ||| k * 4503599627370496 = l + k * 4503599627370496 + sgb s := by
  rcases sgb_cases s with h | h
  · rw [h, Nat.add_zero, or_high hl]; omega
  · rw [h]
    have e1 : l + 9223372036854775808 = l ||| 2048 * 4503599627370496 := by rw [or_high hl]; omega
    have e2 : k * 4503599627370496 ||| 2048 * 4503599627370496 = (2048 + k) * 4503599627370496 := by
      have := Nat.two_pow_add_eq_or_of_lt (i := 63) (b := k * 4503599627370496) (by omega) 1
      have e : (2 : Nat) ^ 63 = 9223372036854775808 := rfl
      rw [e, Nat.mul_one] at this
      rw [Nat.or_comm, show 2048 * 4503599627370496 = 9223372036854775808 from rfl, ← this]
      omega
    rw [e1, Nat.or_assoc, Nat.or_comm (2048 * 4503599627370496), e2, or_high hl]
    omega
theorem or_inf (s : Bool) : sgb s ||| 9218868437227405312 = 9218868437227405312 + sgb s := by
  unfold sgb; cases s <;> decide
theorem or_sgb {m : Nat} (s : Bool) (hm : m < 9223372036854775808) : sgb s ||| m = m + sgb s := by
  rcases sgb_cases s with h | h
  · rw [h, Nat.zero_or, Nat.add_zero]
  · rw [h]
    have := Nat.two_pow_add_eq_or_of_lt (i := 63) (b := m) hm 1
    have e : (2 : Nat) ^ 63 = 9223372036854775808 := rfl
    rw [e, Nat.mul_one] at this
    rw [← this]; omega
theorem notb52 {m : Nat} (s : Bool) (h1 : 4503599627370496 ≤ m) (h2 : m < 9007199254740992) : (m + sgb s) &&& (18446744073709551615 - 4503599627370496) = m - 4503599627370496 + sgb s := by
  obtain ⟨l, rfl⟩ : ∃ l, m = l + 4503599627370496 := ⟨m - 4503599627370496, by omega⟩
  have hl : l < 4503599627370496 := by omega
  rw [Nat.add_sub_cancel]
  have e1 := or_parts s hl (k := 1) (by omega)
  rw [Nat.one_mul] at e1
  rw [← e1, Nat.and_or_distrib_right]
  have z1 : 4503599627370496 &&& (18446744073709551615 - 4503599627370496) = 0 := by decide
  rw [z1, Nat.or_zero]
  -- the rest has no such bit
  have e2 : (l + sgb s) &&& 18446744073709551615 = l + sgb s := by
    have := Nat.and_two_pow_sub_one_eq_mod (l + sgb s) 64
    rw [show 2 ^ 64 - 1 = 18446744073709551615 from rfl] at this
    rw [this, Nat.mod_eq_of_lt]
    rcases sgb_cases s with h | h <;> rw [h] <;> omega
  have e3 : (l + sgb s) &&& 4503599627370496 = 0 := by
    rw [and52]
    rcases sgb_cases s with h | h <;> rw [h] <;> omega
  have e4 : (18446744073709551615 : Nat) = (18446744073709551615 - 4503599627370496) ||| 4503599627370496 := by decide
  rw [e4, Nat.and_or_distrib_left, e3, Nat.or_zero] at e2
  exact e2
end Pl
end Go.Proofs.YtlodbibagmblkaaGreatDoor
namespace Go.Proofs.YtlodbibagmblkaaGreatDoor
open Go.RowKit
theorem run_sfb (n : Int) (w : World) : (callFunc 290 #[.int .u64 n]).run Tryz.prog w = .ok (.value (.float .f64 n.toNat)) w := by
  rw [run_callFunc_extern Tryz.func290 (by kernel_rfl) (by kernel_rfl) (by kernel_rfl) (show Extern.find _ = some Extern.MathFloatBits.float64frombits by kernel_rfl)]
  rfl
/-- what pack64 and parseFloat64 answer -/
def floatV (neg : Bool) (x : Nat × Bool) : Value := .tuple #[.float .f64 (Fl.D.word neg x.1), if x.2 then .iface 190 (.int .i64 1) else .nilIface]
theorem ret2f {a b : Nat} {v u : Value} (h1 : a = b) (h2 : v = u) : Ending.returned (.tuple #[.float .f64 a, v]) = .returned (.tuple #[.float .f64 b, u]) := by rw [h1, h2]
set_option maxRecDepth 100000 in
theorem pack_any (neg : Bool) (m : Nat) (e : Int) (w : World) (hm : m < 9007199254740992) (he1 : -1074 ≤ e) (he2 : e ≤ 2000) :
    Calls Tryz.prog 303 #[.int .u64 (m + Pl.sgb neg : Nat), .int .i64 e] w fun en w' => en = .returned (floatV neg (Pl.pPack m e)) ∧ w = w' := by
  have hs := Pl.sgb_cases neg
  have h2 := run_sfb
  obtain ⟨x, hx⟩ : ∃ x, m + Pl.sgb neg = x := ⟨_, rfl⟩
  have hx64 : x < 18446744073709551616 := by omega
  have hand := u64_and_nat x 4503599627370496 hx64 (by decide)
  rw [Pl.and52] at hand
  rw [hx]
  unfold floatV Pl.pPack
  by_cases hb : m / 4503599627370496 % 2 = 0
  · rw [if_pos hb]
    have hz : x / 4503599627370496 % 2 = 0 := by omega
    rw [hz] at hand
    have hand' : bits .and .u64 (x : Int) 4503599627370496 = 0 := by simpa using hand
    have HW := Lib.hid (show x = Fl.D.word neg m by rw [Pl.word_sgb (by omega)]; exact hx.symm)
    clear hand hz hb hs hx
    go_enter Tryz.func303, Tryz.ntmps303
    go_wp2_with fail
    go_ret2
    exact ⟨ret2f ((Int.toNat_natCast _).trans HW.out) rfl, rfl⟩
  · rw [if_neg hb]
    have hm1 : 4503599627370496 ≤ m := by omega
    have hz : x / 4503599627370496 % 2 = 1 := by omega
    rw [hz] at hand
    have hand' : bits .and .u64 (x : Int) 4503599627370496 = 4503599627370496 := by simpa using hand
    by_cases h9 : 972 ≤ e
    · rw [if_pos h9]
      have ha := u64_and_nat x 9223372036854775808 hx64 (by decide)
      rw [Pl.and63] at ha
      have hsv : x / 9223372036854775808 % 2 * 9223372036854775808 = Pl.sgb neg := by omega
      rw [hsv] at ha
      have ha' : bits .and .u64 (x : Int) 9223372036854775808 = (Pl.sgb neg : Int) := by simpa using ha
      have ho := u64_or_nat (Pl.sgb neg) 9218868437227405312 (by omega) (by decide)
      rw [Pl.or_inf] at ho
      have ho' : bits .or .u64 (Pl.sgb neg : Int) 9218868437227405312 = ((9218868437227405312 + Pl.sgb neg : Nat) : Int) := by simpa using ho
      have HW := Lib.hid (show 9218868437227405312 + Pl.sgb neg = Fl.D.word neg 9218868437227405312 from (Pl.word_sgb (by decide)).symm)
      have hs2 : 9218868437227405312 + Pl.sgb neg < 18446744073709551616 := by omega
      generalize 9218868437227405312 + Pl.sgb neg = y at ho' HW hs2
      generalize Pl.sgb neg = sg at ha' ho'
      clear hand ha hz hb hs hx hsv ho
      go_enter Tryz.func303, Tryz.ntmps303
      go_wp2_with fail
      go_ret2
      exact ⟨ret2f ((Int.toNat_natCast _).trans HW.out) rfl, rfl⟩
    · rw [if_neg h9]
      obtain ⟨k, hk⟩ : ∃ k : Nat, 1075 + e = k := ⟨(1075 + e).toNat, by omega⟩
      have ha := u64_andNot_nat x 4503599627370496 hx64 (by decide)
      rw [← hx, Pl.notb52 neg hm1 hm, hx] at ha
      have ha' : bits .andNot .u64 (x : Int) 4503599627370496 = ((m - 4503599627370496 + Pl.sgb neg : Nat) : Int) := by simpa using ha
      have ho := u64_or_nat (m - 4503599627370496 + Pl.sgb neg) (k * 4503599627370496) (by omega) (by omega)
      rw [Pl.or_parts neg (by omega) (by omega)] at ho
      have HW := Lib.hid (show m - 4503599627370496 + k * 4503599627370496 + Pl.sgb neg = Fl.D.word neg (m - 4503599627370496 + k * 4503599627370496) from (Pl.word_sgb (by omega)).symm)
      rw [hk, Int.toNat_natCast]
      obtain ⟨r, hr⟩ : ∃ r, Fl.D.word neg (m - 4503599627370496 + k * 4503599627370496) = r := ⟨_, rfl⟩
      dsimp only
      rw [hr] at HW ⊢
      clear hr
      have hk2 : k < 2047 := by omega
      have hy : m - 4503599627370496 + k * 4503599627370496 + Pl.sgb neg < 18446744073709551616 := by omega
      have hy2 : m - 4503599627370496 + Pl.sgb neg < 18446744073709551616 := by omega
      generalize m - 4503599627370496 + k * 4503599627370496 + Pl.sgb neg = y at ho HW hy
      generalize m - 4503599627370496 + Pl.sgb neg = z at ha' ho hy2
      have ho' : bits .or .u64 (z : Int) ((k : Int) * 4503599627370496) = (y : Int) := by simpa using ho
      clear hand ha hz hb hs hx ho
      go_enter Tryz.func303, Tryz.ntmps303
      go_wp2_with fail
      go_ret2
      exact ⟨ret2f ((Int.toNat_natCast _).trans HW.out) rfl, rfl⟩
end Go.Proofs.YtlodbibagmblkaaGreatDoor
namespace Go.Proofs.YtlodbibagmblkaaGreatDoor
open Go.RowKit
set_option maxRecDepth 100000 in
set_option maxHeartbeats 2000000 in
theorem parsef_any (d : Nat) (p : Int) (neg : Bool) (w : World) (hd0 : d ≠ 0) (hd : d < 18446744073709551616) (hp1 : -345 ≤ p) (hp2 : p ≤ 310) (ht : Tab w) (hsz : 11 < w.heap.size) :
    Calls Tryz.prog 292 #[.int .u64 d, .int .i64 p, .int .u64 (Pl.sgb neg : Nat)] w fun en w' => en = .returned (floatV neg (Pl.pOut d (Lib.bitLen d) p)) ∧ Below w.heap.size w w' := by
  obtain ⟨b1, b2, b3⟩ := Pl.bitLen_bounds hd hd0
  have b4 := Lib.bitLen_le d 64 (Nat.le_refl _) hd
  obtain ⟨X, Y, hsc⟩ := Pl.scaled_of b1 b4 b2 b3 hp1 hp2
  obtain ⟨u1, u2⟩ := Pl.scaled_lt hsc
  obtain ⟨b, hb⟩ : ∃ b, Lib.bitLen d = b := ⟨_, rfl⟩
  rw [hb] at b1 b2 b3 b4 u1 u2 ⊢
  have HB := Lib.hid hb
  clear hsc hb
  obtain ⟨l, hl⟩ : ∃ l, p * 108853 / 32768 = l := ⟨_, rfl⟩
  have HL := Lib.hid hl
  have hl1 : -1200 ≤ l ∧ l ≤ 1100 := by omega
  have hs2 := run_sfb
  go_enter Tryz.func292, Tryz.ntmps292
  go_wp2_with fail
  refine (Tryz.bits_Len64 _ _ (by omega) (by omega)).mono ?_
  rintro e w' ⟨rfl, rfl⟩
  rw [Int.toNat_natCast, HB.out]
  go_wp2_with fail
  refine (log2Pow10_any _ _ (by omega) (by omega)).mono ?_
  rintro en w' ⟨rfl, rfl⟩
  rw [hl]
  clear hl
  go_wp2_with fail
  obtain ⟨e, he⟩ : ∃ e, min 1074 (53 - (b : Int) - l) = e := ⟨_, rfl⟩
  rw [he]
  have he1 : -1200 ≤ e := by omega
  have he2 : e ≤ 1074 := by omega
  have HE := Lib.hid (show Pl.pE b p = e by unfold Pl.pE; rw [HL.out]; exact he)
  obtain ⟨e0, he0⟩ : ∃ e0, e - (64 - (b : Int)) = e0 := ⟨_, rfl⟩
  rw [he0]
  have he3 : -1300 ≤ e0 := by omega
  have he4 : e0 ≤ 1074 := by omega
  have he5 : 8 ≤ -(e0 + l + 3) := by omega
  have HE0 := Lib.hid he0
  clear he he0
  have PRE := Lib.hid (prescale_tab e0 p w'.heap.size (w'.alloc (.cells #[.int .u64 0, .int .u64 0, .int .i64 0] 246)) (v0 := .int .u64 0) (v1 := .int .u64 0) (v2 := .int .i64 0) (T := 246) ⟨by omega, by omega⟩ ⟨by omega, by omega⟩ (ht.below (B := w'.heap.size) ((Below.refl _ _).alloc (Nat.le_refl _) _) hsz) (heap_alloc_at _ _) hsz)
  rw [HL.out] at PRE
  refine PRE.out.mono ?_
  rintro en w1 ⟨rfl, hsc, hb1, hz1⟩
  have HBW := Lib.hid (((Below.refl w'.heap.size w').alloc (Nat.le_refl _) (.cells #[.int .u64 0, .int .u64 0, .int .i64 0] 246)).trans hb1)
  have HSC := Lib.hid hsc
  obtain ⟨c0, c1, c2⟩ := hsc
  rw [HL.out] at c2
  obtain ⟨s, hs⟩ : ∃ s, -(e0 + l + 3) = s := ⟨_, rfl⟩
  rw [hs] at c2 he5
  have HS := Lib.hid (show Pl.pSh b p = s by unfold Pl.pSh; rw [HE.out, HL.out, HE0.out]; exact hs)
  have hs9 : s ≤ 2600 := by omega
  have HS0 := Lib.hid hs
  have hsg := Pl.sgb_cases neg
  clear hb1 hs PRE
  by_cases h64 : 64 ≤ s
  · have ho : bits .or .u64 (Pl.sgb neg : Int) 0 = (Pl.sgb neg : Int) := by
      have := u64_or_nat (Pl.sgb neg) 0 (by omega) (by omega)
      simpa using this
    have HR := Lib.hid (show Pl.sgb neg = Fl.D.word neg 0 by rw [Pl.word_sgb (by decide), Nat.zero_add])
    have HO := Lib.hid (show Pl.pOut d b p = (0, false) by unfold Pl.pOut; rw [HS.out, if_pos h64])
    have hsg2 : Pl.sgb neg < 18446744073709551616 := by omega
    generalize Pl.sgb neg = sg at ho HR hsg2 ⊢
    clear hsg
    go_wp2_with fail
    go_ret2
    rw [HO.out]
    exact ⟨ret2f ((Int.toNat_natCast _).trans HR.out) rfl, HBW.out⟩
  · have hx2 : d * 2 ^ (64 - b) < 18446744073709551616 := by
      have := Nat.mul_lt_mul_of_pos_right b3 (Nat.two_pow_pos (64 - b))
      rw [← Nat.pow_add, show b + (64 - b) = 64 by omega] at this
      exact this
    have hxe : IntKind.u64.wrap ((d : Int) * 2 ^ (64 - b)) = ((d * 2 ^ (64 - b) : Nat) : Int) := by
      rw [← wrap_nat hx2]; simp
    have hs64 : s < 64 := by omega
    obtain ⟨x, hx⟩ : ∃ x, d * 2 ^ (64 - b) = x := ⟨_, rfl⟩
    rw [hx] at hxe hx2
    have HX := Lib.hid hx
    clear hx
    have UP := Lib.hid (uscale_tab x w'.heap.size e0 p w1 hx2 ⟨by omega, by omega⟩ (by rw [HL.out, HS0.out]; omega) (by rw [HL.out, HS0.out]; omega) HSC.out)
    have HU := Lib.hid (show Pl.pU d b p = Pl.scal x e0 p by unfold Pl.pU; rw [HX.out, HE.out, HE0.out])
    rw [HU.out] at u1 u2
    go_wp2_with fail
    refine UP.out.mono ?_
    rintro en w2 ⟨rfl, n2, rfl⟩
    obtain ⟨U, hU⟩ : ∃ U, Pl.scal x e0 p = U := ⟨_, rfl⟩
    rw [hU] at HU u1 u2 ⊢
    clear hU UP
    have hunm := fun (w : World) => unmin_any w
    have hand : bits .and .u64 (U : Int) 1 = ((U % 2 : Nat) : Int) := bits_and1 (show U < 18446744073709551616 by omega)
    by_cases hge : 36028797018963966 ≤ U
    · have hgeI : (36028797018963966 : Int) ≤ (U : Int) := by omega
      obtain ⟨V, hV⟩ : ∃ V, U / 2 ||| U % 2 = V := ⟨_, rfl⟩
      have hV2 : V < 36028797018963968 := by
        rw [← hV]
        have : U / 2 ||| U % 2 < 2 ^ 55 := Nat.or_lt_two_pow (by omega) (by omega)
        exact this
      have hor := u64_or_nat (U / 2) (U % 2) (by omega) (by omega)
      rw [hV] at hor
      have hM : Pl.pMant U = (V + 1 + V / 4 % 2) / 4 := by unfold Pl.pMant; rw [if_pos hge, hV]
      have hEx : Pl.pExp U e = e - 1 := by unfold Pl.pExp; rw [if_pos hge]
      rw [hM] at u2
      have HM := Lib.hid hM
      have HEX := Lib.hid hEx
      clear hM hEx hV
      have hor' : bits .or .u64 ((U : Int) / 2) ((U : Int) % 2) = (V : Int) := by simpa using hor
      clear hor
      go_wp2_with (first | (go_at_call 267; refine (unmin_any _).mono ?_; rintro en w3 ⟨rfl, rfl⟩) | (go_at_call 266; refine (bool2i_any _ _).mono ?_; rintro en w3 ⟨rfl, rfl⟩))
      refine (round_any V _ (by omega)).mono ?_
      rintro en w3 ⟨rfl, rfl⟩
      obtain ⟨m, hm⟩ : ∃ m, (V + 1 + V / 4 % 2) / 4 = m := ⟨_, rfl⟩
      rw [hm] at HM u2 ⊢
      have hos := u64_or_nat (Pl.sgb neg) m (by omega) (by omega)
      rw [Pl.or_sgb neg (by omega)] at hos
      have PK := Lib.hid (fun w => pack_any neg m (-(e - 1)) w (by omega) (by omega) (by omega))
      obtain ⟨y, hy⟩ : ∃ y, m + Pl.sgb neg = y := ⟨_, rfl⟩
      rw [hy] at hos PK
      clear hm hy
      have HO := Lib.hid (show Pl.pOut d b p = Pl.pPack m (-(e - 1)) by unfold Pl.pOut; rw [HS.out, if_neg (by omega), HU.out, HM.out, HE.out, HEX.out])
      go_wp2_with fail
      refine (PK.out _).mono ?_
      rintro en w3 ⟨rfl, rfl⟩
      have HBZ := Lib.hid (below_drewN HBW.out n2)
      obtain ⟨fo, hfo⟩ : ∃ fo, Pl.pPack m (-(e - 1)) = fo := ⟨_, rfl⟩
      rw [hfo] at HO ⊢
      obtain ⟨f, o⟩ := fo
      clear hfo
      unfold floatV
      cases o
      all_goals
        go_wp2_with fail
        go_ret2
        rw [HO.out]
        exact ⟨rfl, HBZ.out⟩
    · have hgeI : (U : Int) < 36028797018963966 := by omega
      have hor : bits .or .u64 (U : Int) ((U : Int) % 2) = (U : Int) := by
        have h := u64_or_nat U (U % 2) (by omega) (by omega)
        have e1 : U ||| U % 2 = U := by
          rw [← Nat.and_one_is_mod]
          apply Nat.eq_of_testBit_eq
          intro i
          rw [Nat.testBit_or, Nat.testBit_and]
          cases U.testBit i <;> simp
        rw [e1] at h
        simpa using h
      have hM : Pl.pMant U = (U + 1 + U / 4 % 2) / 4 := by unfold Pl.pMant; rw [if_neg hge]
      have hEx : Pl.pExp U e = e := by unfold Pl.pExp; rw [if_neg hge]
      rw [hM] at u2
      have HM := Lib.hid hM
      have HEX := Lib.hid hEx
      have HU2 := Lib.hid u2
      clear hM hEx u2 hge
      go_wp2_with fail
      refine (unmin_any _).mono ?_
      rintro en w3 ⟨rfl, rfl⟩
      go_wp2_with fail
      refine (bool2i_any _ _).mono ?_
      rintro en w3 ⟨rfl, rfl⟩
      rw [show decide ((36028797018963966 : Int) ≤ (U : Int)) = false from decide_eq_false (by omega)]
      rw [if_neg (by decide)]
      clear hgeI
      go_wp2_with fail
      refine (round_any U _ (by omega)).mono ?_
      rintro en w3 ⟨rfl, rfl⟩
      have u2 := HU2.out
      obtain ⟨m, hm⟩ : ∃ m, (U + 1 + U / 4 % 2) / 4 = m := ⟨_, rfl⟩
      rw [hm] at HM u2 ⊢
      have hos := u64_or_nat (Pl.sgb neg) m (by omega) (by omega)
      rw [Pl.or_sgb neg (by omega)] at hos
      have PK := Lib.hid (fun w => pack_any neg m (-(e)) w (by omega) (by omega) (by omega))
      obtain ⟨y, hy⟩ : ∃ y, m + Pl.sgb neg = y := ⟨_, rfl⟩
      rw [hy] at hos PK
      clear hm hy
      have HO := Lib.hid (show Pl.pOut d b p = Pl.pPack m (-(e)) by unfold Pl.pOut; rw [HS.out, if_neg (by omega), HU.out, HM.out, HE.out, HEX.out])
      go_wp2_with fail
      refine (PK.out _).mono ?_
      rintro en w3 ⟨rfl, rfl⟩
      have HBZ := Lib.hid (below_drewN HBW.out n2)
      obtain ⟨fo, hfo⟩ : ∃ fo, Pl.pPack m (-(e)) = fo := ⟨_, rfl⟩
      rw [hfo] at HO ⊢
      obtain ⟨f, o⟩ := fo
      clear hfo
      unfold floatV
      cases o
      all_goals
        go_wp2_with fail
        go_ret2
        rw [HO.out]
        exact ⟨rfl, HBZ.out⟩
end Go.Proofs.YtlodbibagmblkaaGreatDoor
