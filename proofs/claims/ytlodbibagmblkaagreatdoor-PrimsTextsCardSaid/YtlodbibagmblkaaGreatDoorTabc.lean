/- Plain: unrounded scaling is exact: two near multiples of each power of ten bound all others (checked by the kernel, row by row). -/
import Derived.Test.YtlodbibagmblkaaGreatDoorTaab
namespace Go.Proofs.YtlodbibagmblkaaGreatDoor
open Go
namespace Pl
/-- ten to the p, times 2 to the 127 less the whole part of its logarithm: a quotient -/
def numA (p : Int) : Nat := if 0 ≤ p then 10 ^ p.toNat * 2 ^ 127 else 2 ^ (127 - p * 108853 / 32768).toNat
def denB (p : Int) : Nat := if 0 ≤ p then 2 ^ (p * 108853 / 32768).toNat else 10 ^ (-p).toNat
/-- the table's number for it -/
def pm (p : Int) : Nat := (pw p).1 * 18446744073709551616 - (pw p).2
theorem denB_pos (p : Int) : 0 < denB p := by
  unfold denB; split <;> exact Nat.pow_pos (by decide)
def rowOk (p : Int) : Bool := decide ((pw p).2 ≤ (pw p).1 * 18446744073709551616 ∧ (pw p).1 < 18446744073709551616 ∧ (pw p).2 < 18446744073709551616 ∧ pm p * denB p < numA p + denB p ∧ numA p ≤ pm p * denB p)
theorem rows_all : ((List.range 696).all fun i => rowOk ((i : Int) - 348)) = true := by decide +kernel
structure RowIs (p : Int) : Prop where
  le : (pw p).2 ≤ (pw p).1 * 18446744073709551616
  hi : (pw p).1 < 18446744073709551616
  lo : (pw p).2 < 18446744073709551616
  up : pm p * denB p < numA p + denB p
  dn : numA p ≤ pm p * denB p
theorem row_is {p : Int} (h1 : -348 ≤ p) (h2 : p ≤ 347) : RowIs p := by
  have h := List.all_eq_true.1 rows_all (p + 348).toNat (List.mem_range.2 (by omega))
  have e : (((p + 348).toNat : Nat) : Int) - 348 = p := by omega
  rw [e] at h
  obtain ⟨a, b, c, d, f⟩ := of_decide_eq_true h
  exact ⟨a, b, c, d, f⟩
/-- two near multiples, and no nearer one below their sum -/
theorem ucert {M a x1 r1 x2 r2 N : Nat} (hM : 0 < M) (h1 : x1 * a % M = r1) (h2 : x2 * a % M + r2 = M) (hd : x1 * r2 + x2 * r1 = M) (hN : N ≤ x1 + x2) (h0 : 0 < x1) {x : Nat} (hx : 0 < x) (hxN : x < N) :
    ((∃ i, 1 ≤ i ∧ x = i * x1 ∧ x * a % M = i * r1) ∨ r1 + r2 ≤ x * a % M) ∧ ∃ j, 1 ≤ j ∧ x ≤ j * x2 ∧ x * a % M + j * r2 ≤ M := by
  have hr2 : 0 < r2 := by have := Nat.mod_lt (x2 * a) hM; omega
  obtain ⟨r, hr⟩ : ∃ r, x * a % M = r := ⟨_, rfl⟩
  have hrM : r < M := by rw [← hr]; exact Nat.mod_lt _ hM
  have e1 := Nat.div_add_mod (x1 * a) M
  have e2 := Nat.div_add_mod (x2 * a) M
  have e3 := Nat.div_add_mod (x * a) M
  rw [h1] at e1
  rw [hr] at e3 ⊢
  generalize x1 * a / M = k1 at e1
  generalize x2 * a / M = k2 at e2
  generalize x * a / M = q at e3
  have e2' : x2 * a + r2 = M * (k2 + 1) := by rw [Nat.mul_add, Nat.mul_one, ← h2, ← Nat.add_assoc, h2]; omega
  clear e2 h2 h1 hr
  -- all in whole numbers
  have E1 : (M : Int) * k1 + r1 = x1 * a := by exact_mod_cast e1
  have E2 : (x2 : Int) * a + r2 = M * (k2 + 1) := by exact_mod_cast e2'
  have E3 : (M : Int) * q + r = x * a := by exact_mod_cast e3
  have HD : (x1 : Int) * r2 + x2 * r1 = M := by exact_mod_cast hd
  have hMi : (M : Int) ≠ 0 := by omega
  obtain ⟨i, hi⟩ : ∃ i : Int, i = x * (k2 + 1) - x2 * q := ⟨_, rfl⟩
  obtain ⟨j, hj⟩ : ∃ j : Int, j = x1 * q - x * k1 := ⟨_, rfl⟩
  have Hi : i * M = x * r2 + x2 * r := by subst hi; grind
  have Hj : j * M = x * r1 - x1 * r := by subst hj; grind
  have Hx : (x : Int) = i * x1 + j * x2 := by
    apply Int.eq_of_mul_eq_mul_right hMi; grind
  have Hr : (r : Int) = i * r1 - j * r2 := by
    apply Int.eq_of_mul_eq_mul_right hMi; grind
  have hMp : (0 : Int) < M := by omega
  have hi1 : 1 ≤ i := by
    have : 0 < i * M := by
      rw [Hi]
      have h1 : (0 : Int) < x * r2 := Int.mul_pos (by omega) (by omega)
      have h2 : (0 : Int) ≤ x2 * r := Int.mul_nonneg (by omega) (by omega)
      omega
    have := Int.pos_of_mul_pos_left this hMp
    omega
  have hN' : (N : Int) ≤ x1 + x2 := by exact_mod_cast hN
  have hxN' : (x : Int) < N := by exact_mod_cast hxN
  have mono : ∀ {a b c : Int}, a ≤ b → 0 ≤ c → a * c ≤ b * c := fun h hc => Int.mul_le_mul_of_nonneg_right h hc
  constructor
  · rcases Int.lt_trichotomy j 0 with hj0 | hj0 | hj0
    · right
      have a1 : 1 * (r1 : Int) ≤ i * r1 := mono hi1 (by omega)
      have a2 : 1 * (r2 : Int) ≤ (-j) * r2 := mono (by omega) (by omega)
      have a3 : (-j) * (r2 : Int) = -(j * r2) := by grind
      omega
    · left
      subst hj0
      obtain ⟨n, rfl⟩ := Int.eq_ofNat_of_zero_le (show 0 ≤ i by omega)
      refine ⟨n, by omega, ?_, ?_⟩
      · have : (x : Int) = (n * x1 : Nat) := by rw [Hx]; simp
        exact_mod_cast this
      · have : (r : Int) = (n * r1 : Nat) := by rw [Hr]; simp
        exact_mod_cast this
    · exfalso
      have a1 : 1 * (x1 : Int) ≤ i * x1 := mono hi1 (by omega)
      have a2 : 1 * (x2 : Int) ≤ j * x2 := mono (by omega) (by omega)
      omega
  · obtain ⟨i', hi'⟩ : ∃ i' : Int, i' = i - x2 := ⟨_, rfl⟩
    obtain ⟨j', hj'⟩ : ∃ j' : Int, j' = j + x1 := ⟨_, rfl⟩
    have HJ : j' * M = x * r1 + x1 * (M - r) := by subst hj'; grind
    have HX : (x : Int) = i' * x1 + j' * x2 := by subst hi' hj'; grind
    have HR : (M : Int) - r = j' * r2 - i' * r1 := by subst hi' hj'; grind
    have hj1 : 1 ≤ j' := by
      have : 0 < j' * M := by
        rw [HJ]
        have h1 : (0 : Int) ≤ x * r1 := Int.mul_nonneg (by omega) (by omega)
        have h2 : (0 : Int) < x1 * (M - r) := Int.mul_pos (by omega) (by omega)
        omega
      have := Int.pos_of_mul_pos_left this hMp
      omega
    have hi0 : i' ≤ 0 := by
      rcases Int.lt_or_le 0 i' with h | h
      · exfalso
        have a1 : 1 * (x1 : Int) ≤ i' * x1 := mono (by omega) (by omega)
        have a2 : 1 * (x2 : Int) ≤ j' * x2 := mono (by omega) (by omega)
        omega
      · exact h
    obtain ⟨n, rfl⟩ := Int.eq_ofNat_of_zero_le (show 0 ≤ j' by omega)
    have b1 : i' * x1 ≤ 0 := by have := mono hi0 (show (0 : Int) ≤ x1 by omega); simpa using this
    have b2 : i' * r1 ≤ 0 := by have := mono hi0 (show (0 : Int) ≤ r1 by omega); simpa using this
    refine ⟨n, by omega, ?_, ?_⟩
    · have : (x : Int) ≤ (n * x2 : Nat) := by push_cast; omega
      exact_mod_cast this
    · have : ((r + n * r2 : Nat) : Int) ≤ M := by push_cast; omega
      exact_mod_cast this
/-- x is an exact one at the table's p and the shift s, or none is near -/
def Good (p : Int) (s x : Nat) : Prop :=
  (denB p * 2 ^ (128 + s) ∣ x * numA p) ∨ (18446744073709551616 < x * pm p % 2 ^ (128 + s) ∧ x * pm p % 2 ^ (128 + s) + 18446744073709551616 ≤ 2 ^ (128 + s))
/-- the unrounded number of a quotient -/
noncomputable def unr (n d : Nat) : Nat := n / d ||| (if d ∣ n then 0 else 1)
theorem sq64 (s : Nat) : 2 ^ (128 + s) = 2 ^ s * 340282366920938463463374607431768211456 := by
  rw [Nat.pow_add, Nat.mul_comm]
theorem uscale_core {x hi lo S A B : Nat} {s : Nat} (hS : 2 ^ s = S) (hx0 : 0 < x) (hx : x < 18446744073709551616) (hh : hi < 18446744073709551616) (hl : lo < 18446744073709551616) (hle : lo ≤ hi * 18446744073709551616) (hB : 0 < B)
    (h1 : (hi * 18446744073709551616 - lo) * B < A + B) (h2 : A ≤ (hi * 18446744073709551616 - lo) * B)
    (g : (B * (S * 340282366920938463463374607431768211456) ∣ x * A) ∨ (18446744073709551616 < x * (hi * 18446744073709551616 - lo) % (S * 340282366920938463463374607431768211456) ∧ x * (hi * 18446744073709551616 - lo) % (S * 340282366920938463463374607431768211456) + 18446744073709551616 ≤ S * 340282366920938463463374607431768211456)) :
    uscale x hi lo s = unr (x * A) (B * (S * 340282366920938463463374607431768211456)) := by
  have hS0 : 0 < S := by rw [← hS]; exact Nat.pow_pos (by decide)
  obtain ⟨P, hP⟩ : ∃ P, hi * 18446744073709551616 - lo = P := ⟨_, rfl⟩
  rw [hP] at h1 h2 g
  obtain ⟨M, hM⟩ : ∃ M, S * 340282366920938463463374607431768211456 = M := ⟨_, rfl⟩
  rw [hM] at g ⊢
  obtain ⟨X, hX⟩ : ∃ X, x * P = X := ⟨_, rfl⟩
  rw [hX] at g
  have hXx : X + x * lo = x * hi * 18446744073709551616 := by
    rw [← hX, ← hP, Nat.mul_sub, Nat.mul_assoc]
    have := Nat.mul_le_mul_left x hle
    omega
  have hxl : x * lo ≤ 18446744073709551615 * 18446744073709551615 := Nat.mul_le_mul (by omega) (by omega)
  have hxh : x * hi ≤ 18446744073709551615 * 18446744073709551615 := Nat.mul_le_mul (by omega) (by omega)
  obtain ⟨h, hh'⟩ : ∃ h, x * hi / 18446744073709551616 = h := ⟨_, rfl⟩
  obtain ⟨mid, hm'⟩ : ∃ m, x * hi % 18446744073709551616 = m := ⟨_, rfl⟩
  obtain ⟨mid2, hm2'⟩ : ∃ m, x * lo / 18446744073709551616 = m := ⟨_, rfl⟩
  obtain ⟨lo2, hlo2⟩ : ∃ m, x * lo % 18446744073709551616 = m := ⟨_, rfl⟩
  have heq : X + mid2 * 18446744073709551616 + lo2 = h * 340282366920938463463374607431768211456 + mid * 18446744073709551616 := by omega
  have hm1 : mid < 18446744073709551616 := by omega
  have hm2 : mid2 ≤ 18446744073709551614 := by omega
  have hl2 : lo2 < 18446744073709551616 := by omega
  have hh2 : h < 18446744073709551616 := by omega
  have hXA : x * A ≤ X * B := by rw [← hX, Nat.mul_assoc]; exact Nat.mul_le_mul_left x h2
  have hXB : X * B < x * A + 18446744073709551616 * B := by
    have : x * (P * B) < x * (A + B) := Nat.mul_lt_mul_of_pos_left h1 hx0
    rw [← Nat.mul_assoc, hX, Nat.mul_add] at this
    have : x * B ≤ 18446744073709551616 * B := Nat.mul_le_mul_right B (by omega)
    omega
  have hM0 : 0 < M := by omega
  unfold uscale unr
  rw [hh', hm', hm2', hS]
  clear hh' hm' hm2' hlo2 hXx hxl hxh hX hP h1 h2 hle hh hl
  rcases g with g | ⟨g1, g2⟩
  · obtain ⟨q, hq⟩ := g
    have e : x * A / (B * M) = q := by rw [hq, Nat.mul_div_cancel_left _ (Nat.mul_pos hB hM0)]
    have hd : B * M ∣ x * A := ⟨q, hq⟩
    rw [e, if_pos hd]
    have hlo : q * M ≤ X := by
      apply Nat.le_of_mul_le_mul_right _ hB
      have : q * M * B = B * M * q := by rw [Nat.mul_comm, ← Nat.mul_assoc, Nat.mul_right_comm]
      omega
    have hup : X < q * M + 18446744073709551616 := by
      apply Nat.lt_of_mul_lt_mul_right (a := B)
      have : (q * M + 18446744073709551616) * B = B * M * q + 18446744073709551616 * B := by rw [Nat.add_mul, Nat.mul_comm (q * M), ← Nat.mul_assoc, Nat.mul_right_comm]
      omega
    have hqM : q * M = q * S * 340282366920938463463374607431768211456 := by rw [← hM, Nat.mul_assoc]
    have hhS : h = q * S := by omega
    have hd1 : mid2 ≤ mid ∧ mid ≤ mid2 + 1 := by omega
    have e1 : h / S = q := by rw [hhS, Nat.mul_div_cancel _ hS0]
    rw [e1, if_pos hhS.symm, if_neg (by omega), Nat.sub_zero, Nat.add_mod_right, Nat.mod_eq_of_lt hh2, e1, if_neg]
    have : mid + 18446744073709551616 - mid2 = (mid - mid2) + 18446744073709551616 := by omega
    rw [this, Nat.add_mod_right, Nat.mod_eq_of_lt (by omega)]
    omega
  · have e0 := Nat.div_add_mod X M
    obtain ⟨q, hq⟩ : ∃ q, X / M = q := ⟨_, rfl⟩
    rw [hq] at e0
    have e0' : q * M + X % M = X := by rw [Nat.mul_comm]; exact e0
    have lo' : q * (B * M) < x * A := by
      have a1 : (q * M + 18446744073709551616) * B < X * B := Nat.mul_lt_mul_of_pos_right (by omega) hB
      have a2 : (q * M + 18446744073709551616) * B = q * (B * M) + 18446744073709551616 * B := by rw [Nat.add_mul, Nat.mul_assoc, Nat.mul_comm M B]
      omega
    have up' : x * A < (q + 1) * (B * M) := by
      have a1 : X * B < ((q + 1) * M) * B := Nat.mul_lt_mul_of_pos_right (by rw [Nat.add_mul, Nat.one_mul]; omega) hB
      have a2 : ((q + 1) * M) * B = (q + 1) * (B * M) := by rw [Nat.mul_assoc, Nat.mul_comm M B]
      omega
    have e : x * A / (B * M) = q := Nat.div_eq_of_lt_le (by omega) (by omega)
    have hnd : ¬ B * M ∣ x * A := by
      rintro ⟨k, hk⟩
      have hk' : x * A = k * (B * M) := by rw [hk, Nat.mul_comm]
      rw [hk'] at lo' up'
      have a1 := Nat.lt_of_mul_lt_mul_right lo'
      have a2 := Nat.lt_of_mul_lt_mul_right up'
      omega
    rw [e, if_neg hnd]
    have hk0 := Nat.div_add_mod h S
    obtain ⟨k, hk⟩ : ∃ k, h / S = k := ⟨_, rfl⟩
    rw [hk] at hk0 ⊢
    have hc := Nat.mod_lt h hS0
    have hkS : S * k = k * S := Nat.mul_comm _ _
    have hkM : k * M = k * S * 340282366920938463463374607431768211456 := by rw [← hM, Nat.mul_assoc]
    have hkM1 : (k + 1) * M = k * M + M := by rw [Nat.add_mul, Nat.one_mul]
    have hXr : X % M = X - q * M := by omega
    by_cases hmul : k * S = h
    · rw [if_pos hmul]
      by_cases c1 : mid2 + 2 ≤ mid
      · have : X / M = k := Nat.div_eq_of_lt_le (by omega) (by omega)
        have hqk : q = k := by omega
        have eg : (mid + 18446744073709551616 - mid2) % 18446744073709551616 = mid - mid2 := by
          have : mid + 18446744073709551616 - mid2 = (mid - mid2) + 18446744073709551616 := by omega
          rw [this, Nat.add_mod_right, Nat.mod_eq_of_lt (by omega)]
        rw [if_neg (by omega), Nat.sub_zero, Nat.add_mod_right, Nat.mod_eq_of_lt hh2, hk, eg, if_pos (by omega), hqk]
      · by_cases c2 : mid2 ≤ mid
        · exfalso
          rcases Nat.lt_or_ge X (k * M) with hlt | hge
          · have hk1 : 1 ≤ k := by rcases Nat.eq_zero_or_pos k with e | e
                                   · subst e; simp at hlt
                                   · exact e
            obtain ⟨k', rfl⟩ : ∃ k', k = k' + 1 := ⟨k - 1, by omega⟩
            have hk2 : (k' + 1) * M = k' * M + M := by rw [Nat.add_mul, Nat.one_mul]
            have : X / M = k' := Nat.div_eq_of_lt_le (by omega) (by omega)
            have hqk : q = k' := by omega
            subst hqk
            omega
          · have : X / M = k := Nat.div_eq_of_lt_le (by omega) (by omega)
            have hqk : q = k := by omega
            subst hqk
            omega
        · have hk1 : 1 ≤ k := by rcases Nat.eq_zero_or_pos k with e | e
                                 · subst e; simp at hmul; omega
                                 · exact e
          obtain ⟨k', rfl⟩ : ∃ k', k = k' + 1 := ⟨k - 1, by omega⟩
          have hk2 : (k' + 1) * M = k' * M + M := by rw [Nat.add_mul, Nat.one_mul]
          have hk3 : (k' + 1) * S = k' * S + S := by rw [Nat.add_mul, Nat.one_mul]
          have : X / M = k' := Nat.div_eq_of_lt_le (by omega) (by omega)
          have hqk : q = k' := by omega
          have eg : (mid + 18446744073709551616 - mid2) % 18446744073709551616 = mid + 18446744073709551616 - mid2 := Nat.mod_eq_of_lt (by omega)
          have eh : (h + 18446744073709551616 - 1) % 18446744073709551616 = h - 1 := by
            have : h + 18446744073709551616 - 1 = (h - 1) + 18446744073709551616 := by omega
            rw [this, Nat.add_mod_right, Nat.mod_eq_of_lt (by omega)]
          have ek : (h - 1) / S = k' := Nat.div_eq_of_lt_le (by omega) (by rw [hk3]; omega)
          rw [if_pos (by omega), eh, ek, eg, if_pos (by omega), hqk]
    · rw [if_neg hmul]
      have hc0 : 0 < h % S := by omega
      have : X / M = k := Nat.div_eq_of_lt_le (by omega) (by omega)
      have hqk : q = k := by omega
      rw [hqk]
theorem uscale_exact {p : Int} {s x : Nat} (h : RowIs p) (hx0 : 0 < x) (hx : x < 18446744073709551616) (g : Good p s x) : uscale x (pw p).1 (pw p).2 s = unr (x * numA p) (denB p * 2 ^ (128 + s)) := by
  unfold Good pm at g
  rw [sq64] at g ⊢
  exact uscale_core rfl hx0 hx h.hi h.lo h.le (denB_pos p) h.up h.dn g
theorem Good.up {p : Int} {s x : Nat} (h : RowIs p) (hx0 : 0 < x) (hx : x < 18446744073709551616) (g : Good p s x) (k : Nat) : Good p (s + k) x := by
  obtain ⟨M, hM⟩ : ∃ M, 2 ^ (128 + s) = M := ⟨_, rfl⟩
  obtain ⟨K, hK⟩ : ∃ K, 2 ^ k = K := ⟨_, rfl⟩
  have hK0 : 0 < K := by rw [← hK]; exact Nat.pow_pos (by decide)
  have hM2 : 340282366920938463463374607431768211456 ≤ M := by
    rw [← hM, sq64]
    have : 0 < 2 ^ s := Nat.pow_pos (by decide)
    omega
  have e : 2 ^ (128 + (s + k)) = M * K := by rw [← Nat.add_assoc, Nat.pow_add, hM, hK]
  unfold Good at g ⊢
  rw [hM] at g
  rw [e]
  obtain ⟨X, hX⟩ : ∃ X, x * pm p = X := ⟨_, rfl⟩
  rw [hX] at g ⊢
  have hB := denB_pos p
  have hXA : x * numA p ≤ X * denB p := by rw [← hX, Nat.mul_assoc]; exact Nat.mul_le_mul_left x h.dn
  have hXB : X * denB p < x * numA p + 18446744073709551616 * denB p := by
    have : x * (pm p * denB p) < x * (numA p + denB p) := Nat.mul_lt_mul_of_pos_left h.up hx0
    rw [← Nat.mul_assoc, hX, Nat.mul_add] at this
    have : x * denB p ≤ 18446744073709551616 * denB p := Nat.mul_le_mul_right _ (by omega)
    omega
  have hmm := Nat.mod_mul (x := X) (a := M) (b := K)
  have hcl : M * (X / M % K) + M ≤ M * K := by
    have h1 : X / M % K + 1 ≤ K := Nat.mod_lt _ hK0
    have h2 := Nat.mul_le_mul_left M h1
    rw [Nat.mul_add, Nat.mul_one] at h2
    exact h2
  rcases g with ⟨q, hq⟩ | ⟨g1, g2⟩
  · generalize denB p = B at hq hB hXA hXB ⊢
    have hlo : q * M ≤ X := by
      apply Nat.le_of_mul_le_mul_right _ hB
      have : q * M * B = B * M * q := by rw [Nat.mul_comm, ← Nat.mul_assoc, Nat.mul_right_comm]
      omega
    have hup : X < q * M + 18446744073709551616 := by
      apply Nat.lt_of_mul_lt_mul_right (a := B)
      have : (q * M + 18446744073709551616) * B = B * M * q + 18446744073709551616 * B := by rw [Nat.add_mul, Nat.mul_comm (q * M), ← Nat.mul_assoc, Nat.mul_right_comm]
      omega
    have hqM : (q + 1) * M = q * M + M := by rw [Nat.add_mul, Nat.one_mul]
    have e1 : X / M = q := Nat.div_eq_of_lt_le (by omega) (by omega)
    have e2 : X % M = X - q * M := by have := Nat.div_add_mod X M; rw [e1, Nat.mul_comm] at this; omega
    rw [e1] at hmm hcl
    rcases Nat.eq_zero_or_pos (q % K) with hz | hz
    · left
      obtain ⟨c, hc⟩ := Nat.dvd_of_mod_eq_zero hz
      exact ⟨c, by rw [hq, hc, Nat.mul_assoc, Nat.mul_assoc, Nat.mul_assoc]⟩
    · right
      rw [hmm]
      have : M * 1 ≤ M * (q % K) := Nat.mul_le_mul_left M hz
      omega
  · right
    rw [hmm]
    omega
/-- looks for two near multiples -/
def ufind : Nat → Nat → Nat → Nat → Nat → Nat → Nat × Nat
  | 0, _, x1, _, x2, _ => (x1, x2)
  | f + 1, N, x1, r1, x2, r2 =>
    if N ≤ x1 + x2 then (x1, x2)
    else if r2 ≤ r1 then
      let k := if x2 = 0 then r1 / r2 else min (r1 / r2) (max 1 ((N - x1 - x2 + x2 - 1) / x2))
      ufind f N (x1 + k * x2) (r1 - k * r2) x2 r2
    else
      let k := min ((r2 - 1) / r1) (max 1 ((N - x1 - x2 + x1 - 1) / x1))
      ufind f N x1 r1 (x2 + k * x1) (r2 - k * r1)
def uchkP (t s N L : Nat) (p : Int) (x1 x2 r1 r2 : Nat) : Bool :=
  decide (x1 * r2 + x2 * r1 = 2 ^ (128 + s - t) ∧ N ≤ x1 + x2 ∧ 0 < x1 ∧ 18446744073709551616 < 2 ^ t * (r1 + r2) ∧ 18446744073709551616 ≤ 2 ^ t * (((L + x2 - 1) / x2) * r2) ∧
    (18446744073709551616 < 2 ^ t * (((L + x1 - 1) / x1) * r1) ∨ (2 ^ t * x1 * numA p) % (denB p * 2 ^ (128 + s)) = 0))
def uchk (t s N L : Nat) (p : Int) : Bool :=
  (decide (pm p % 36893488147419103232 = 0 ∧ pm p * denB p = numA p)) ||
    (let c := ufind 60 N 1 (pm p % 2 ^ (128 + s - t)) 0 (2 ^ (128 + s - t))
     uchkP t s N L p c.1 c.2 (c.1 * pm p % 2 ^ (128 + s - t)) (2 ^ (128 + s - t) - c.2 * pm p % 2 ^ (128 + s - t)))
theorem ceil_le {L x y j : Nat} (h : L ≤ y) (hj : y ≤ j * x) : (L + x - 1) / x ≤ j := by
  rcases Nat.eq_zero_or_pos x with rfl | hx
  · simp
  · rw [Nat.div_le_iff_le_mul_add_pred hx]
    rw [Nat.mul_comm] at hj
    omega
theorem good_of_uchk {t s N L : Nat} {p : Int} (hc : uchk t s N L p = true) (ht : t ≤ 128 + s) {y : Nat} (hy : 0 < y) (hyN : y < N) (hyL : L ≤ y) : Good p s (2 ^ t * y) := by
  have eM : 2 ^ (128 + s) = 2 ^ t * 2 ^ (128 + s - t) := by rw [← Nat.pow_add]; congr 1; omega
  rcases Bool.or_eq_true _ _ |>.mp hc with h | h
  · obtain ⟨h1, h2⟩ := of_decide_eq_true h
    obtain ⟨c, hc⟩ := Nat.dvd_of_mod_eq_zero h1
    obtain ⟨X, hX⟩ : ∃ X, 2 ^ t * y * pm p = X := ⟨_, rfl⟩
    unfold Good
    rw [hX]
    have e65 : 2 ^ (128 + s) = 36893488147419103232 * 2 ^ (63 + s) := by
      rw [show 128 + s = 65 + (63 + s) by omega, Nat.pow_add]
    obtain ⟨M, hM⟩ : ∃ M, 2 ^ (128 + s) = M := ⟨_, rfl⟩
    rw [hM] at e65 ⊢
    have hMp : 0 < M := by rw [← hM]; exact Nat.pow_pos (by decide)
    have hXd : 36893488147419103232 ∣ X := ⟨2 ^ t * y * c, by rw [← hX, hc]; exact Nat.mul_left_comm _ _ _⟩
    have hMd : 36893488147419103232 ∣ M := ⟨_, e65⟩
    have hr := (Nat.dvd_mod_iff hMd).2 hXd
    have hlt := Nat.mod_lt X hMp
    rcases Nat.eq_zero_or_pos (X % M) with hz | hz
    · left
      obtain ⟨q, hq⟩ := Nat.dvd_of_mod_eq_zero hz
      exact ⟨q, by rw [← h2, ← Nat.mul_assoc, hX, hq]; rw [Nat.mul_comm, Nat.mul_assoc]⟩
    · right
      obtain ⟨u, hu⟩ := hr
      obtain ⟨v, hv⟩ := hMd
      omega
  · obtain ⟨x1, hx1⟩ : ∃ x1, (ufind 60 N 1 (pm p % 2 ^ (128 + s - t)) 0 (2 ^ (128 + s - t))).1 = x1 := ⟨_, rfl⟩
    obtain ⟨x2, hx2⟩ : ∃ x2, (ufind 60 N 1 (pm p % 2 ^ (128 + s - t)) 0 (2 ^ (128 + s - t))).2 = x2 := ⟨_, rfl⟩
    simp only [hx1, hx2] at h
    obtain ⟨h1, h2, h3, h4, h5, h6⟩ := of_decide_eq_true h
    obtain ⟨M, hM⟩ : ∃ M, 2 ^ (128 + s - t) = M := ⟨_, rfl⟩
    obtain ⟨T, hT⟩ : ∃ T, 2 ^ t = T := ⟨_, rfl⟩
    have hMp : 0 < M := by rw [← hM]; exact Nat.pow_pos (by decide)
    rw [hM, hT] at eM
    simp only [hM, hT, eM] at h1 h4 h5 h6
    clear hx1 hx2 hc h
    obtain ⟨r1, hr1⟩ : ∃ r1, x1 * pm p % M = r1 := ⟨_, rfl⟩
    obtain ⟨r2, hr2⟩ : ∃ r2, M - x2 * pm p % M = r2 := ⟨_, rfl⟩
    rw [hr1, hr2] at h1
    rw [hr1, hr2] at h4
    rw [hr2] at h5
    rw [hr1] at h6
    have hlt := Nat.mod_lt (x2 * pm p) hMp
    obtain ⟨hlow, j, hj1, hj2, hj3⟩ := ucert hMp hr1 (by omega) h1 h2 h3 hy hyN
    unfold Good
    rw [hT, eM, Nat.mul_assoc T y (pm p), Nat.mul_mod_mul_left]
    obtain ⟨r, hr⟩ : ∃ r, y * pm p % M = r := ⟨_, rfl⟩
    rw [hr] at hlow hj3 ⊢
    have hup : T * r + 18446744073709551616 ≤ T * M := by
      have a1 := Nat.mul_le_mul_right r2 (ceil_le hyL hj2)
      have a2 := Nat.mul_le_mul_left T a1
      have a3 := Nat.mul_le_mul_left T hj3
      rw [Nat.mul_add] at a3
      omega
    rcases hlow with ⟨i, hi1, hi2, hi3⟩ | hlow
    · rcases h6 with h6 | h6
      · right
        refine ⟨?_, hup⟩
        have a1 := Nat.mul_le_mul_right r1 (ceil_le hyL (Nat.le_of_eq hi2))
        have a2 := Nat.mul_le_mul_left T a1
        rw [hi3]
        omega
      · left
        obtain ⟨c, hc⟩ := Nat.dvd_of_mod_eq_zero h6
        refine ⟨c * i, ?_⟩
        rw [hi2, show T * (i * x1) * numA p = T * x1 * numA p * i by rw [Nat.mul_comm i x1, ← Nat.mul_assoc, Nat.mul_right_comm], hc, Nat.mul_assoc]
    · right
      refine ⟨?_, hup⟩
      have := Nat.mul_le_mul_left T hlow
      omega
theorem parse_all : ((List.range 656).all fun i => uchk 0 8 18446744073709551616 9223372036854775808 ((i : Int) - 345)) = true := by decide +kernel
theorem fmt_all : ((List.range 617).all fun i => uchk 9 5 36028797018963968 1 ((i : Int) - 292)) = true := by decide +kernel
/-- what is read: at the shift 8 and above -/
theorem parse_good {p : Int} (h1 : -345 ≤ p) (h2 : p ≤ 310) {s x : Nat} (hs : 8 ≤ s) (hx1 : 9223372036854775808 ≤ x) (hx2 : x < 18446744073709551616) : Good p s x := by
  have h := List.all_eq_true.1 parse_all (p + 345).toNat (List.mem_range.2 (by omega))
  rw [show (((p + 345).toNat : Nat) : Int) - 345 = p by omega] at h
  have g := good_of_uchk h (by omega) (y := x) (by omega) (by omega) (by omega)
  rw [Nat.pow_zero, Nat.one_mul] at g
  have := g.up (row_is (by omega) (by omega)) (by omega) hx2 (s - 8)
  rwa [show 8 + (s - 8) = s by omega] at this
/-- what is written: at the shift 5 and above -/
theorem fmt_good {p : Int} (h1 : -292 ≤ p) (h2 : p ≤ 324) {s y : Nat} (hs : 5 ≤ s) (hy : 0 < y) (hy2 : y < 36028797018963968) : Good p s (512 * y) := by
  have h := List.all_eq_true.1 fmt_all (p + 292).toNat (List.mem_range.2 (by omega))
  rw [show (((p + 292).toNat : Nat) : Int) - 292 = p by omega] at h
  have g := good_of_uchk h (by omega) (y := y) hy hy2 hy
  have := g.up (row_is (by omega) (by omega)) (by show 0 < 512 * y; omega) (by show 512 * y < _; omega) (s - 5)
  rwa [show 5 + (s - 5) = s by omega] at this
end Pl
end Go.Proofs.YtlodbibagmblkaaGreatDoor
