/- The text of a float with a power: the contract of ftoa64 at the format e, as short as may be. The text of a float with a power: the contract of ftoa64 at the format e, as short as may be. Plain facts on texts: what is cut, replaced and read of the text of a float. FormatFloat at the format e, as short as may be. Infinity: the contracts of math.Abs, math.IsInf and finite. -/
import Derived.Test.YtlodbibagmblkaaGreatDoorTaae
import Derived.Deep.RegionWith
import Derived.Test.YtlodbibagmblkaaGreatDoorTaab
import Derived.Lib.Atoi
import Derived.Lib.Replace
import Derived.Lib.Repeat
import Derived.Laws.BitsAllLaws
namespace Go.Proofs.YtlodbibagmblkaaGreatDoor
open Go.RowKit Go.Lib
theorem run_sbits (n : Nat) (w : World) : (callFunc 226 #[.float .f64 n]).run Tryz.prog w = .ok (.value (.int .u64 n)) w := by
  rw [run_callFunc_extern Tryz.func226 (by kernel_rfl) (by kernel_rfl) (by kernel_rfl) (show Extern.find _ = some Extern.MathFloatBits.float64bits by kernel_rfl)]
  rfl
theorem bits_low {a k : Nat} (ha : a < 18446744073709551616) (hk : k ≤ 63) : bits .and .u64 (a : Int) ((2 ^ k - 1 : Nat) : Int) = ((a % 2 ^ k : Nat) : Int) := by
  have h64 : (2 : Nat) ^ IntKind.u64.bits = 18446744073709551616 := rfl
  have hp : 2 ^ k ≤ 2 ^ 63 := Nat.pow_le_pow_right (by decide) hk
  have hm : a % 2 ^ k < 2 ^ k := Nat.mod_lt _ (Nat.pow_pos (by decide))
  simp only [bits, BitVec.ofInt_natCast, BitVec.toNat_and, BitVec.toNat_ofNat, h64]
  rw [Nat.mod_eq_of_lt ha, Nat.mod_eq_of_lt (by omega), Nat.and_two_pow_sub_one_eq_mod, wrap_nat (by omega)]
theorem bits_lowi {a k : Nat} (ha : a < 9223372036854775808) (hk : k ≤ 62) : bits .and .i64 (a : Int) ((2 ^ k - 1 : Nat) : Int) = ((a % 2 ^ k : Nat) : Int) := by
  have h64 : (2 : Nat) ^ IntKind.i64.bits = 18446744073709551616 := rfl
  have hp : 2 ^ k ≤ 2 ^ 62 := Nat.pow_le_pow_right (by decide) hk
  have hm : a % 2 ^ k < 2 ^ k := Nat.mod_lt _ (Nat.pow_pos (by decide))
  simp only [bits, BitVec.ofInt_natCast, BitVec.toNat_and, BitVec.toNat_ofNat, h64]
  rw [Nat.mod_eq_of_lt (by omega), Nat.mod_eq_of_lt (by omega), Nat.and_two_pow_sub_one_eq_mod, IntWalk.i64_in _ (by omega)]
theorem bits_ex (a : Nat) (ha : a < 18446744073709551616) : bits .and .i64 ((a : Int) / 4503599627370496) 2047 = ((a / 4503599627370496 % 2048 : Nat) : Int) := by
  have := bits_lowi (a := a / 4503599627370496) (k := 11) (by omega) (by decide)
  rw [show ((2 ^ 11 - 1 : Nat) : Int) = 2047 from rfl, show (2 : Nat) ^ 11 = 2048 from rfl] at this
  rw [← this]; simp
theorem bits_mt (a : Nat) (ha : a < 18446744073709551616) : bits .and .u64 (a : Int) 4503599627370495 = ((a % 4503599627370496 : Nat) : Int) := by
  have := bits_low (a := a) (k := 52) ha (by decide)
  rw [show ((2 ^ 52 - 1 : Nat) : Int) = 4503599627370495 from rfl, show (2 : Nat) ^ 52 = 4503599627370496 from rfl] at this
  exact this
theorem bits_up (m : Nat) (hm : m < 4503599627370496) : bits .or .u64 (m : Int) 4503599627370496 = ((m + 4503599627370496 : Nat) : Int) := by
  have := bits_or (a := m) (b := 4503599627370496) (by omega) (by omega)
  rw [show ((4503599627370496 : Nat) : Int) = 4503599627370496 from rfl] at this
  rw [this]
  congr 1
  have h := Nat.two_pow_add_eq_or_of_lt (i := 52) (b := m) (by simpa using hm) 1
  rw [Nat.or_comm] at h
  simpa [Nat.add_comm] using h.symm
namespace Pl
theorem uscale_ge8 {x hi lo s : Nat} (hs : s ≤ 58) (hx : 9223372036854775808 ≤ x) (hx2 : x < 18446744073709551616) (hhi : 9223372036854775808 ≤ hi) (hhi2 : hi < 18446744073709551616) : 8 ≤ uscale x hi lo s := by
  have hh : x * hi / 18446744073709551616 < 18446744073709551616 := Nat.div_lt_of_lt_mul (Nat.mul_lt_mul_of_lt_of_lt hx2 hhi2)
  have hl : 9223372036854775808 * 9223372036854775808 ≤ x * hi := Nat.mul_le_mul hx hhi
  have hg : 4611686018427387904 ≤ x * hi / 18446744073709551616 := by
    rw [Nat.le_div_iff_mul_le (by decide)]; exact Nat.le_trans (by decide) hl
  have hp : 2 ^ s ≤ 288230376151711744 := by
    have := Nat.pow_le_pow_right (show 0 < 2 by decide) hs
    exact Nat.le_trans this (by decide)
  have hp0 : 0 < 2 ^ s := Nat.pow_pos (by decide)
  have key : ∀ a : Nat, 4611686018427387903 ≤ a → 8 ≤ a / 2 ^ s := by
    intro a ha
    rw [Nat.le_div_iff_mul_le hp0]; omega
  unfold uscale
  generalize x * hi / 18446744073709551616 = h at hh hg ⊢
  generalize x * hi % 18446744073709551616 = g
  generalize x * lo / 18446744073709551616 = k
  split
  · refine Nat.le_trans (key _ ?_) Nat.left_le_or
    split <;> omega
  · exact Nat.le_trans (key _ (by omega)) Nat.left_le_or
theorem sfTail_ok {m mn mx odd : Nat} {e p : Int} (b1 : -348 ≤ p) (b2 : p ≤ 347) (hs1 : 1 ≤ sh e p) (hs2 : sh e p ≤ 58) (hm : 9223372036854775808 ≤ m) (hm2 : m < 18446744073709551616) (hmn1 : 4611686018427387904 ≤ mn) (hmn2 : mn < 18446744073709551616) (hmx2 : mx < 18446744073709551616) (hodd : odd < 2) :
    1 ≤ (sfTail m mn mx odd e p).1 ∧ (sfTail m mn mx odd e p).1 < 9223372036854775808 ∧ -348 ≤ (sfTail m mn mx odd e p).2 ∧ (sfTail m mn mx odd e p).2 ≤ 349 := by
  have a1 := scal_lt b1 b2 hs1 hmn2
  have a2 := scal_ge b1 b2 hs2 hmn1 hmn2
  have a3 := scal_lt b1 b2 hs1 hmx2
  have a4 := scal_lt b1 b2 hs1 hm2
  have a5 : 8 ≤ scal m e p := uscale_ge8 hs2 hm hm2 (pw_ok b1 b2).1 (pw_ok b1 b2).2.1
  unfold sfTail
  generalize scal mn e p = un at *
  generalize scal mx e p = ux at *
  generalize scal m e p = um at *
  split
  · refine ⟨?_, ?_, ?_, ?_⟩ <;> simp only <;> omega
  · split
    · refine ⟨?_, ?_, ?_, ?_⟩ <;> simp only <;> omega
    · refine ⟨?_, ?_, ?_, ?_⟩ <;> simp only <;> omega
/-- The whole number and the power of two of a number's bits. -/
def mant (a : Nat) : Nat := if a / 4503599627370496 % 2048 = 0 then a % 4503599627370496 else a % 4503599627370496 + 4503599627370496
def pexp (a : Nat) : Int := if a / 4503599627370496 % 2048 = 0 then -1074 else (a / 4503599627370496 % 2048 : Nat) - 1075
def lft (a : Nat) : Nat := 64 - Lib.bitLen (mant a)
/-- The digits and the power of ten that a number is written with. -/
def decOf (a : Nat) : Nat × Int := shortF (mant a * 2 ^ lft a) (pexp a - lft a)
theorem bitLen_bounds {x : Nat} (h : x < 18446744073709551616) (h0 : x ≠ 0) : 1 ≤ Lib.bitLen x ∧ 2 ^ (Lib.bitLen x - 1) ≤ x ∧ x < 2 ^ Lib.bitLen x := bitLenAux_bounds 64 x h h0
theorem bitLen_unique {x k : Nat} (h : x < 18446744073709551616) (h1 : 2 ^ k ≤ x) (h2 : x < 2 ^ (k + 1)) : Lib.bitLen x = k + 1 := by
  obtain ⟨a, b, c⟩ := bitLen_bounds h (by have := Nat.pow_pos (a := 2) (n := k) (by decide); omega)
  have i1 : k < Lib.bitLen x := (Nat.pow_lt_pow_iff_right (a := 2) (by decide)).1 (by omega)
  have i2 : Lib.bitLen x - 1 < k + 1 := (Nat.pow_lt_pow_iff_right (a := 2) (by decide)).1 (by omega)
  omega
theorem left_ok {x : Nat} (h : x < 18446744073709551616) (h0 : x ≠ 0) : 9223372036854775808 ≤ x * 2 ^ (64 - Lib.bitLen x) ∧ x * 2 ^ (64 - Lib.bitLen x) < 18446744073709551616 := by
  obtain ⟨a, b, c⟩ := bitLen_bounds h h0
  have hL : Lib.bitLen x ≤ 64 := bitLen_le x 64 (Nat.le_refl _) h
  have e1 : 2 ^ Lib.bitLen x * 2 ^ (64 - Lib.bitLen x) = 18446744073709551616 := by rw [← Nat.pow_add, show Lib.bitLen x + (64 - Lib.bitLen x) = 64 by omega]
  have e2 : 2 ^ (Lib.bitLen x - 1) * 2 ^ (64 - Lib.bitLen x) = 9223372036854775808 := by rw [← Nat.pow_add, show Lib.bitLen x - 1 + (64 - Lib.bitLen x) = 63 by omega]
  refine ⟨?_, ?_⟩
  · rw [← e2]; exact Nat.mul_le_mul_right _ b
  · rw [← e1]; exact (Nat.mul_lt_mul_right (Nat.pow_pos (by decide))).2 c
theorem den_left {a : Nat} (h0 : a / 4503599627370496 % 2048 = 0) (hm : a % 4503599627370496 ≠ 0) : mant a = a % 4503599627370496 ∧ pexp a = -1074 ∧ 12 ≤ lft a ∧ lft a ≤ 63 := by
  have e1 : mant a = a % 4503599627370496 := by unfold mant; rw [if_pos h0]
  have e2 : pexp a = -1074 := by unfold pexp; rw [if_pos h0]
  refine ⟨e1, e2, ?_⟩
  unfold lft
  rw [e1]
  obtain ⟨x1, x2, x3⟩ := bitLen_bounds (x := a % 4503599627370496) (by omega) hm
  have : Lib.bitLen (a % 4503599627370496) ≤ 52 := bitLen_le _ 52 (by decide) (by simp; omega)
  omega
theorem nor_left {a : Nat} (h0 : a / 4503599627370496 % 2048 ≠ 0) : mant a = a % 4503599627370496 + 4503599627370496 ∧ pexp a = (a / 4503599627370496 % 2048 : Nat) - 1075 ∧ lft a = 11 := by
  have e1 : mant a = a % 4503599627370496 + 4503599627370496 := by unfold mant; rw [if_neg h0]
  have e2 : pexp a = (a / 4503599627370496 % 2048 : Nat) - 1075 := by unfold pexp; rw [if_neg h0]
  refine ⟨e1, e2, ?_⟩
  unfold lft
  rw [e1, bitLen_unique (k := 52) (by omega) (by simp) (by simp; omega)]
theorem dec_ok {a : Nat} (hf : a / 4503599627370496 % 2048 < 2047) (hz : mant a ≠ 0) : 1 ≤ (decOf a).1 ∧ (decOf a).1 < 9223372036854775808 ∧ -348 ≤ (decOf a).2 ∧ (decOf a).2 ≤ 349 := by
  by_cases h0 : a / 4503599627370496 % 2048 = 0
  · have hm : a % 4503599627370496 ≠ 0 := by unfold mant at hz; rwa [if_pos h0] at hz
    obtain ⟨e1, e2, k1, k2⟩ := den_left h0 hm
    obtain ⟨l1, l2⟩ := left_ok (x := a % 4503599627370496) (by omega) hm
    have hl : lft a = 64 - Lib.bitLen (a % 4503599627370496) := by unfold lft; rw [e1]
    unfold decOf
    rw [e2, e1]
    rw [← hl] at l1 l2
    generalize lft a = k at *
    obtain ⟨mn, mx, odd, _, _, _, c1, c2, c3, _, c5, c6⟩ := den_parts (a % 4503599627370496 * 2 ^ k) k (-1074 - k) l1 l2 k1 k2 rfl (Nat.mul_mod_left _ _)
    rw [c6]
    exact sfTail_ok (by decide) (by decide) (by unfold sh; omega) (by unfold sh; omega) l1 l2 c2 c3 c5 c1
  · obtain ⟨e1, e2, e3⟩ := nor_left h0
    unfold decOf
    rw [e1, e2, e3, show (2 : Nat) ^ 11 = 2048 from rfl]
    have hb : a % 4503599627370496 < 4503599627370496 := Nat.mod_lt _ (by decide)
    generalize a % 4503599627370496 = M at *
    generalize a / 4503599627370496 % 2048 = X at *
    have hmm := mid_bounds (e := (X : Int) - 1075 - (11 : Nat)) (by omega) (by omega)
    have hsk := skew_bounds (e := (X : Int) - 1075 - (11 : Nat)) (by omega) (by omega)
    unfold shortF
    split
    · exact sfTail_ok hsk.1 hsk.2.1 (by unfold sh; omega) (by unfold sh; omega) (by omega) (by omega) (by omega) (by omega) (by omega) (by omega)
    · rw [if_pos (by omega)]
      exact sfTail_ok hmm.1 hmm.2.1 (by unfold sh; omega) (by unfold sh; omega) (by omega) (by omega) (by omega) (by omega) (by omega) (by omega)
end Pl
theorem short_any (a : Nat) (w : World) (hf : a / 4503599627370496 % 2048 < 2047) (hz : Pl.mant a ≠ 0) (ht : Tab w) (hsz : 11 < w.heap.size) :
    Calls Tryz.prog 238 #[.int .u64 (Pl.mant a * 2 ^ Pl.lft a : Nat), .int .i64 (Pl.pexp a - Pl.lft a)] w fun en w' => en = .returned (.tuple #[.int .u64 (Pl.decOf a).1, .int .i64 (Pl.decOf a).2]) ∧ Below w.heap.size w w' := by
  by_cases h0 : a / 4503599627370496 % 2048 = 0
  · have hm : a % 4503599627370496 ≠ 0 := by unfold Pl.mant at hz; rwa [if_pos h0] at hz
    obtain ⟨e1, e2, k1, k2⟩ := Pl.den_left h0 hm
    obtain ⟨l1, l2⟩ := Pl.left_ok (x := a % 4503599627370496) (by omega) hm
    have hl : Pl.lft a = 64 - Lib.bitLen (a % 4503599627370496) := by unfold Pl.lft; rw [e1]
    unfold Pl.decOf
    rw [e1]
    rw [← hl] at l1 l2
    exact short_den _ _ _ w l1 l2 k1 k2 (Lib.hid (by rw [e2])) (Nat.mul_mod_left _ _) ht hsz
  · obtain ⟨e1, e2, e3⟩ := Pl.nor_left h0
    unfold Pl.decOf
    rw [e1, e2, e3, show (2 : Nat) ^ 11 = 2048 from rfl]
    have hb : a % 4503599627370496 < 4503599627370496 := Nat.mod_lt _ (by decide)
    generalize a % 4503599627370496 = M at *
    generalize a / 4503599627370496 % 2048 = X at *
    by_cases hM : M = 0
    · by_cases hX : X = 1
      · exact short_edge _ _ w (by omega) (by omega) (by omega) (by omega) ht hsz
      · exact short_skew _ _ w (by omega) (by omega) (by omega) (by omega) ht hsz
    · exact short_mid _ _ w (by omega) (by omega) (by omega) (by omega) ht hsz
end Go.Proofs.YtlodbibagmblkaaGreatDoor
namespace Go.Proofs.YtlodbibagmblkaaGreatDoor
open Go.RowKit Go.Lib
namespace Pl
/-- The digits of a number as it is written, and where its point stands. -/
def digs (a : Nat) : List UInt8 := sig (decOf a).1
def dpt (a : Nat) : Int := nDigits (decOf a).1 + (decOf a).2
def ftoa (a : Nat) : List UInt8 := fmtE (decide (9223372036854775808 ≤ a)) (digs a) (dpt a - 1)
end Pl
abbrev zeros32 : Array Value := #[.int .u8 0, .int .u8 0, .int .u8 0, .int .u8 0, .int .u8 0, .int .u8 0, .int .u8 0, .int .u8 0, .int .u8 0, .int .u8 0, .int .u8 0, .int .u8 0, .int .u8 0, .int .u8 0, .int .u8 0, .int .u8 0, .int .u8 0, .int .u8 0, .int .u8 0, .int .u8 0, .int .u8 0, .int .u8 0, .int .u8 0, .int .u8 0, .int .u8 0, .int .u8 0, .int .u8 0, .int .u8 0, .int .u8 0, .int .u8 0, .int .u8 0, .int .u8 0]
theorem zeros32_eq : zeros32 = Array.replicate 32 (.int .u8 0) := rfl
/-- What is so where a buffer of 32 noughts lies at the end of the old world. -/
structure Buf (w W : World) : Prop where
  env : Env W
  size : w.heap.size < W.heap.size
  holds : Go.Sort.Holds enc8 W w.heap.size 0 (Array.replicate 32 0)
  low : Below w.heap.size w W
theorem Buf.mk' {w : World} {n : Nat} (he : Env w) : Buf w ((w.drewN n).alloc (.cells zeros32 210)) := by
  have hB : Below w.heap.size w ((w.drewN n).alloc (.cells zeros32 210)) := (below_drewN (Below.refl _ _) n).alloc (by simp) _
  refine ⟨he.below hB, by simp, ?_, hB⟩
  intro j hj
  have hj' : j < 32 := by simpa using hj
  refine ⟨?_, World.frozen?_alloc_new _ _ _ _⟩
  rw [Nat.zero_add, show (w.heap.size : Nat) = (w.drewN n).heap.size from rfl, World.cell?_alloc_new, zeros32_eq, getElem!_pos _ j hj]
  simp [hj']
theorem Buf.below {w W W' : World} (h : Buf w W) (hB : Below W.heap.size W W') : Buf w W' := by
  refine ⟨h.env.below hB, Nat.lt_of_lt_of_le h.size hB.size, fun j hj => ?_, h.low.trans (hB.mono (Nat.le_of_lt h.size))⟩
  rw [hB.cell (p := ⟨w.heap.size, 0 + j, none⟩) h.size, hB.frozen (p := ⟨w.heap.size, 0 + j, none⟩) h.size]
  exact h.holds j hj
namespace Pl
theorem dec_head (u : Nat) (h : 1 ≤ u) : ∃ c l, decDigits u = c :: l ∧ c ≠ 48 := by
  induction u using Nat.strongRecOn with
  | _ u ih =>
    rw [decDigits]
    by_cases h10 : u < 10
    · rw [dif_pos h10]
      refine ⟨_, _, rfl, fun e => ?_⟩
      have := congrArg UInt8.toNat e
      simp at this
      omega
    · rw [dif_neg h10]
      obtain ⟨c, l, e, hc⟩ := ih (u / 10) (by omega) (by omega)
      rw [e]
      exact ⟨c, _, rfl, hc⟩
theorem drop_nil {p : UInt8 → Bool} : ∀ l : List UInt8, l.dropWhile p = [] → ∀ x ∈ l, p x = true
  | [], _, x, h => by simp at h
  | a :: l, h, x, hx => by
    by_cases ha : p a = true
    · rw [List.dropWhile_cons, if_pos ha] at h
      rcases List.mem_cons.1 hx with rfl | hx
      · exact ha
      · exact drop_nil l h x hx
    · rw [List.dropWhile_cons, if_neg ha] at h
      simp at h
theorem trimZ_prefix (l : List UInt8) : trimZ l <+: l := by
  unfold trimZ
  have := List.dropWhile_suffix (fun x : UInt8 => x == 48) (l := l.reverse)
  rw [← List.reverse_suffix]
  simpa using this
theorem sig_cons {d : Nat} (h : 1 ≤ d) : ∃ d0 r, sig d = d0 :: r ∧ r.length < nDigits d ∧ d0 ≠ 48 ∧ ∀ j (hj : j < (d0 :: r).length) (hj2 : j < (decDigits d).length), (d0 :: r)[j] = (decDigits d)[j] := by
  obtain ⟨c, l, e, hc⟩ := dec_head d h
  have hp := trimZ_prefix (decDigits d)
  have hlen := hp.length_le
  rw [decDigits_length] at hlen
  cases hs : trimZ (decDigits d) with
  | nil =>
    unfold trimZ at hs
    rw [List.reverse_eq_nil_iff] at hs
    have := drop_nil _ hs c (by rw [e]; simp)
    simp at this
    exact absurd this hc
  | cons d0 r =>
    rw [hs] at hp hlen
    refine ⟨d0, r, hs, by simp at hlen; omega, ?_, fun j hj hj2 => hp.getElem hj⟩
    have := hp.getElem (i := 0) (by simp)
    simp only [List.getElem_cons_zero, e] at this
    rw [this]; exact hc
end Pl
theorem neg_form (a : Nat) : ((a : Int) / 9223372036854775808 != 0) = decide (9223372036854775808 ≤ a) := by
  rw [Bool.eq_iff_iff, bne_iff_ne, decide_eq_true_iff]; omega
theorem nDigits_le {d : Nat} (h1 : 1 ≤ d) (h2 : d < 18446744073709551616) : nDigits d ≤ 20 := by
  obtain ⟨a, b⟩ := numDigits_eq d h1 h2
  split at a <;> omega
set_option maxHeartbeats 4000000 in
set_option maxRecDepth 100000 in
theorem ftoa64_den (base a : Nat) (v : Value) (w : World) (hown : Owns w base 5 1 v 0 []) (hb : base ≤ w.heap.size) (ha : a < 18446744073709551616) (h0 : a / 4503599627370496 % 2048 = 0) (hm : a % 4503599627370496 ≠ 0) (he : Env w) :
    Calls Tryz.prog 202 #[v, .float .f64 a, .int .u8 101, .int .i64 (-1)] w (LaidOk base v w (Pl.ftoa a)) := by
  have h1 := run_sbits
  have hex : bits .and .i64 ((a : Int) / 4503599627370496) 2047 = 0 := by rw [bits_ex a ha, h0]; rfl
  obtain ⟨mt, hmt⟩ : ∃ mt : Nat, a % 4503599627370496 = mt := ⟨_, rfl⟩
  have hmt2 : bits .and .u64 (a : Int) 4503599627370495 = (mt : Int) := by rw [bits_mt a ha, hmt]
  have hmb : mt < 4503599627370496 := by omega
  have hmp : 1 ≤ mt := by omega
  have hm0 : ((mt : Int) == 0) = false := by rw [beq_eq_false_iff_ne]; omega
  obtain ⟨e1, e2, k1, k2⟩ := Pl.den_left h0 hm
  have E1 := Lib.hid (show Pl.mant a = mt by rw [e1, hmt])
  have E2 := Lib.hid e2
  have HS := Lib.hid (fun (w : World) ht hsz => short_any a w (by omega) (by rw [e1]; exact hm) ht hsz)
  have HOK := Lib.hid (Pl.dec_ok (a := a) (by omega) (by rw [e1]; exact hm))
  have HL := Lib.hid (show Pl.lft a = 64 - Lib.bitLen mt by unfold Pl.lft; rw [e1, hmt])
  have HO := Lib.hid hown
  have HM := Lib.hid hmt
  clear h0 hm hmt e1 e2 hown
  obtain ⟨a0, c0, rfl⟩ := HO.out.form
  go_enter Tryz.func202, Tryz.ntmps202
  go_wp2_with fail
  go_quiet (fail)
  go_wp2_with fail
  have hbuf := Lib.hid (Buf.mk' (n := nq) he)
  generalize hW : (w.drewN nq).alloc (Obj.cells zeros32 210) = W1 at hbuf ⊢
  clear hW h1 hex hmt2
  refine (Tryz.bits_Len64 _ _ (by omega) (by omega)).mono ?_
  rintro e w' ⟨rfl, rfl⟩
  rw [Int.toNat_natCast]
  obtain ⟨L, hL⟩ : ∃ L, Lib.bitLen mt = L := ⟨_, rfl⟩
  rw [hL]
  have hLk : L + Pl.lft a = 64 := by have := HL.out; omega
  have HLK := Lib.hid hLk
  have hL1 : L ≤ 52 := by omega
  have hL2 : 1 ≤ L := by omega
  clear hLk hL
  go_wp2_with fail
  have hLK : 64 - L = Pl.lft a := by have := HLK.out; omega
  have hA1 : IntKind.u64.wrap ((mt : Int) * 2 ^ (64 - L)) = ((Pl.mant a * 2 ^ Pl.lft a : Nat) : Int) := by
    have hl := (Pl.left_ok (x := mt) (by omega) (by omega)).2
    rw [← HL.out] at hl
    rw [hLK, E1.out, ← wrap_nat hl]; simp
  have hA2 : (-1022 - (64 - (L : Int)) - 52) = Pl.pexp a - (Pl.lft a : Int) := by rw [E2.out]; omega
  rw [hA1, hA2]
  clear hA1 hA2 hLK
  refine (HS.out _ hbuf.out.env.tab (by have := hbuf.out.env.size; omega)).mono ?_
  rintro e w2 ⟨rfl, hB2⟩
  have hbuf2 := Lib.hid (hbuf.out.below hB2)
  obtain ⟨d, p, hdp, hd1, hd2, hp1, hp2⟩ : ∃ d p, Hid (Pl.decOf a = (d, p)) ∧ 1 ≤ d ∧ d < 9223372036854775808 ∧ -348 ≤ p ∧ p ≤ 349 := ⟨_, _, Lib.hid rfl, HOK.out⟩
  rw [hdp.out]
  clear hB2 HS HOK hbuf
  have hn := nDigits_le hd1 (show d < 18446744073709551616 by omega)
  have hnp := nDigits_pos d
  have hd64 : d < 18446744073709551616 := by omega
  go_wp2_with fail
  go_region_with (first | (go_at_call 232; refine (Tryz.internal_strconv_numDigits d hd1 hd64 _ (by exact hbuf2.out.env.p10)).mono ?_; rintro e w' ⟨rfl, rfl⟩) | (go_at_call 231; refine (setDigits_any w.heap.size d p _ (by exact hbuf2.out.holds) hd64 hn ⟨by omega, by omega⟩).mono ?_; rintro e w3 ⟨rfl, hc3, hB3, hz3⟩))
  all_goals
    obtain ⟨d0, r, hsig, hr1, _, hr3⟩ := Pl.sig_cons hd1
    rw [hsig]
    have hlow : Below w.heap.size w w3 := (hbuf2.out.low.drew).trans hB3
    have hs3 : w.heap.size < w3.heap.size := by rw [hz3]; exact hbuf2.out.size
    have HC3 := Lib.hid (show ∀ j (h : j < (d0 :: r).length), w3.cell? ⟨w.heap.size, j, none⟩ = some (enc8 (d0 :: r)[j]) from fun j h => by
      have hj : j < (decDigits d).length := by rw [decDigits_length]; simp at h; omega
      rw [hc3 j hj, hr3 j h hj])
    have HSG := Lib.hid hsig
    have HLW := Lib.hid hlow
    clear hc3 hB3 hz3 hsig hr3 hlow
    simp only [List.length_cons]
    have hmx : max ((r.length : Int) + 1 - 1) 0 = (r.length : Int) := by omega
    go_wp2_with fail
    refine (fmtE_any _ base w.heap.size _ d0 r _ w3 (HO.out.below HLW.out (fun k hk => (HO.out.lt k hk).2)) (by omega) (by omega) ⟨by omega, by omega⟩ HC3.out (fun hk => absurd (HO.out.lt _ hk).2 (by omega)) hs3).mono ?_
    rintro e w4 ⟨v', rfl, ho4, hg4⟩
    have HO4 := Lib.hid ho4
    have HG4 := Lib.hid hg4
    obtain ⟨v4a, v4c, rfl⟩ := ho4.form
    clear ho4 hg4
    go_wp2_with fail
    go_ret
    have hT : Pl.ftoa a = Pl.fmtE ((a : Int) / 9223372036854775808 != 0) (d0 :: r) (nDigits d + p - 1) := by
      unfold Pl.ftoa Pl.digs Pl.dpt
      rw [hdp.out, neg_form]
      simp only
      rw [HSG.out]
    refine ⟨_, rfl, by rw [hT]; exact HO4.out, Grow.trans ⟨⟨HLW.out.os, HLW.out.tape, HLW.out.output, HLW.out.size, fun k hk _ => HLW.out.block k hk⟩, .inl rfl⟩ HG4.out⟩
set_option maxHeartbeats 4000000 in
set_option maxRecDepth 100000 in
theorem ftoa64_nor (base a : Nat) (v : Value) (w : World) (hown : Owns w base 5 1 v 0 []) (hb : base ≤ w.heap.size) (ha : a < 18446744073709551616) (h0 : a / 4503599627370496 % 2048 ≠ 0) (hf : a / 4503599627370496 % 2048 < 2047) (he : Env w) :
    Calls Tryz.prog 202 #[v, .float .f64 a, .int .u8 101, .int .i64 (-1)] w (LaidOk base v w (Pl.ftoa a)) := by
  have h1 := run_sbits
  obtain ⟨ex, hexd⟩ : ∃ ex : Nat, a / 4503599627370496 % 2048 = ex := ⟨_, rfl⟩
  have hex : bits .and .i64 ((a : Int) / 4503599627370496) 2047 = (ex : Int) := by rw [bits_ex a ha, hexd]
  have hx1 : 1 ≤ ex := by omega
  have hx2 : ex ≤ 2046 := by omega
  have hx3 : ((ex : Int) == 0) = false := by rw [beq_eq_false_iff_ne]; omega
  have hx4 : ((ex : Int) == 2047) = false := by rw [beq_eq_false_iff_ne]; omega
  obtain ⟨mt, hmt⟩ : ∃ mt : Nat, a % 4503599627370496 = mt := ⟨_, rfl⟩
  have hmt2 : bits .and .u64 (a : Int) 4503599627370495 = (mt : Int) := by rw [bits_mt a ha, hmt]
  have hmb : mt < 4503599627370496 := by omega
  obtain ⟨M, hMd⟩ : ∃ M : Nat, mt + 4503599627370496 = M := ⟨_, rfl⟩
  have hM : bits .or .u64 (mt : Int) 4503599627370496 = (M : Int) := by rw [bits_up mt hmb, hMd]
  have hM1 : 4503599627370496 ≤ M := by omega
  have hM2 : M < 9007199254740992 := by omega
  have hM0 : ((M : Int) == 0) = false := by rw [beq_eq_false_iff_ne]; omega
  obtain ⟨e1, e2, e3⟩ := Pl.nor_left h0
  have hz : Pl.mant a ≠ 0 := by rw [e1]; omega
  have E1 := Lib.hid (show Pl.mant a = M by rw [e1, hmt, hMd])
  have E2 := Lib.hid (show Pl.pexp a = (ex : Int) - 1075 by rw [e2, hexd])
  have E3 := Lib.hid e3
  have HS := Lib.hid (fun (w : World) ht hsz => short_any a w hf hz ht hsz)
  have HOK := Lib.hid (Pl.dec_ok (a := a) hf hz)
  have HBL := Lib.hid (show Lib.bitLen M = 53 from Pl.bitLen_unique (k := 52) (by omega) (by simp; omega) (by simp; omega))
  have HO := Lib.hid hown
  clear h0 hmt e1 e2 e3 hz hown hMd hexd hf
  obtain ⟨a0, c0, rfl⟩ := HO.out.form
  go_enter Tryz.func202, Tryz.ntmps202
  go_wp2_with fail
  go_quiet (fail)
  go_wp2_with fail
  have hbuf := Lib.hid (Buf.mk' (n := nq) he)
  generalize hW : (w.drewN nq).alloc (Obj.cells zeros32 210) = W1 at hbuf ⊢
  clear hW h1 hex hmt2 hM
  refine (Tryz.bits_Len64 _ _ (by omega) (by omega)).mono ?_
  rintro e w' ⟨rfl, rfl⟩
  rw [Int.toNat_natCast]
  rw [HBL.out]
  go_wp2_with fail
  have hA1 : ((M : Int) * 2048) = ((Pl.mant a * 2 ^ Pl.lft a : Nat) : Int) := by rw [E1.out, E3.out]; simp
  have hA2 : ((ex : Int) + -1023 - 11 - 52) = Pl.pexp a - (Pl.lft a : Int) := by rw [E2.out, E3.out]; omega
  rw [hA1, hA2]
  clear hA1 hA2
  refine (HS.out _ hbuf.out.env.tab (by have := hbuf.out.env.size; omega)).mono ?_
  rintro e w2 ⟨rfl, hB2⟩
  have hbuf2 := Lib.hid (hbuf.out.below hB2)
  obtain ⟨d, p, hdp, hd1, hd2, hp1, hp2⟩ : ∃ d p, Hid (Pl.decOf a = (d, p)) ∧ 1 ≤ d ∧ d < 9223372036854775808 ∧ -348 ≤ p ∧ p ≤ 349 := ⟨_, _, Lib.hid rfl, HOK.out⟩
  rw [hdp.out]
  clear hB2 HS HOK hbuf
  have hn := nDigits_le hd1 (show d < 18446744073709551616 by omega)
  have hnp := nDigits_pos d
  have hd64 : d < 18446744073709551616 := by omega
  go_wp2_with fail
  go_region_with (first | (go_at_call 232; refine (Tryz.internal_strconv_numDigits d hd1 hd64 _ (by exact hbuf2.out.env.p10)).mono ?_; rintro e w' ⟨rfl, rfl⟩) | (go_at_call 231; refine (setDigits_any w.heap.size d p _ (by exact hbuf2.out.holds) hd64 hn ⟨by omega, by omega⟩).mono ?_; rintro e w3 ⟨rfl, hc3, hB3, hz3⟩))
  all_goals
    obtain ⟨d0, r, hsig, hr1, _, hr3⟩ := Pl.sig_cons hd1
    rw [hsig]
    have hlow : Below w.heap.size w w3 := (hbuf2.out.low.drew).trans hB3
    have hs3 : w.heap.size < w3.heap.size := by rw [hz3]; exact hbuf2.out.size
    have HC3 := Lib.hid (show ∀ j (h : j < (d0 :: r).length), w3.cell? ⟨w.heap.size, j, none⟩ = some (enc8 (d0 :: r)[j]) from fun j h => by
      have hj : j < (decDigits d).length := by rw [decDigits_length]; simp at h; omega
      rw [hc3 j hj, hr3 j h hj])
    have HSG := Lib.hid hsig
    have HLW := Lib.hid hlow
    clear hc3 hB3 hz3 hsig hr3 hlow
    simp only [List.length_cons]
    have hmx : max ((r.length : Int) + 1 - 1) 0 = (r.length : Int) := by omega
    go_wp2_with fail
    refine (fmtE_any _ base w.heap.size _ d0 r _ w3 (HO.out.below HLW.out (fun k hk => (HO.out.lt k hk).2)) (by omega) (by omega) ⟨by omega, by omega⟩ HC3.out (fun hk => absurd (HO.out.lt _ hk).2 (by omega)) hs3).mono ?_
    rintro e w4 ⟨v', rfl, ho4, hg4⟩
    have HO4 := Lib.hid ho4
    have HG4 := Lib.hid hg4
    obtain ⟨v4a, v4c, rfl⟩ := ho4.form
    clear ho4 hg4
    go_wp2_with fail
    go_ret
    have hT : Pl.ftoa a = Pl.fmtE ((a : Int) / 9223372036854775808 != 0) (d0 :: r) (nDigits d + p - 1) := by
      unfold Pl.ftoa Pl.digs Pl.dpt
      rw [hdp.out, neg_form]
      simp only
      rw [HSG.out]
    refine ⟨_, rfl, by rw [hT]; exact HO4.out, Grow.trans ⟨⟨HLW.out.os, HLW.out.tape, HLW.out.output, HLW.out.size, fun k hk _ => HLW.out.block k hk⟩, .inl rfl⟩ HG4.out⟩
theorem ftoa64_any (base a : Nat) (v : Value) (w : World) (hown : Owns w base 5 1 v 0 []) (hb : base ≤ w.heap.size) (ha : a < 18446744073709551616) (hf : a / 4503599627370496 % 2048 < 2047) (hz : a % 9223372036854775808 ≠ 0) (he : Env w) :
    Calls Tryz.prog 202 #[v, .float .f64 a, .int .u8 101, .int .i64 (-1)] w (LaidOk base v w (Pl.ftoa a)) := by
  by_cases h0 : a / 4503599627370496 % 2048 = 0
  · exact ftoa64_den base a v w hown hb ha h0 (by omega) he
  · exact ftoa64_nor base a v w hown hb ha h0 hf he
abbrev zer24 : Array Value := #[.int .u8 0, .int .u8 0, .int .u8 0, .int .u8 0, .int .u8 0, .int .u8 0, .int .u8 0, .int .u8 0, .int .u8 0, .int .u8 0, .int .u8 0, .int .u8 0, .int .u8 0, .int .u8 0, .int .u8 0, .int .u8 0, .int .u8 0, .int .u8 0, .int .u8 0, .int .u8 0, .int .u8 0, .int .u8 0, .int .u8 0, .int .u8 0]
theorem run_make24 (w : World) : (Instr.makeSlice 85 (.int .i64 0) (.int .i64 24)).run Tryz.prog w = .ok (.slice (some ⟨w.heap.size, 0, none⟩) 0 24) (w.alloc (.cells zer24 5)) := by kernel_rfl
theorem owns24 (w : World) : Owns (w.alloc (.cells zer24 5)) w.heap.size 5 1 (.slice (some ⟨w.heap.size, 0, none⟩) 0 24) 0 [] :=
  ⟨rfl, .inr ⟨w.heap.size, 24, _, (0, 0), rfl, Nat.le_refl _, heap_alloc_at _ _, .inl (Nat.le_refl _), by decide, by decide, rfl, rfl⟩⟩
end Go.Proofs.YtlodbibagmblkaaGreatDoor
namespace Go.Proofs.YtlodbibagmblkaaGreatDoor
open Go.Lib
namespace Pl
theorem index_at (c : UInt8) : ∀ (x y : List UInt8), c ∉ x → Lib.index (x ++ c :: y) [c] = (x.length : Int)
  | [], y, _ => by simp [Lib.index, List.isPrefixOf]
  | a :: x, y, h => by
    have ha : a ≠ c := fun e => h (by simp [e])
    have hx : c ∉ x := fun e => h (List.mem_cons_of_mem _ e)
    rw [List.cons_append, Lib.index, index_at c x y hx, if_neg (by simp [List.isPrefixOf]; exact fun e => ha e.symm), if_neg (by rw [beq_iff_eq]; omega)]
    simp
theorem index_no (c : UInt8) : ∀ (x : List UInt8), c ∉ x → Lib.index x [c] = -1
  | [], _ => by simp [Lib.index]
  | a :: x, h => by
    have ha : a ≠ c := fun e => h (by simp [e])
    have hx : c ∉ x := fun e => h (List.mem_cons_of_mem _ e)
    rw [Lib.index, index_no c x hx, if_neg (by simp [List.isPrefixOf]; exact fun e => ha e.symm), if_pos (by simp)]
theorem cut_at (c : UInt8) (x y : List UInt8) (h : c ∉ x) : Lib.cut (x ++ c :: y) [c] = (x, y, true) := by
  unfold Lib.cut
  rw [index_at c x y h, if_pos (by omega)]
  simp
theorem replace_one (c : UInt8) (x y : List UInt8) (h : c ∉ x) : Lib.replace (x ++ c :: y) [c] [] 1 = x ++ y := by
  unfold Lib.replace
  rw [if_neg (by simp)]
  have hc : Lib.count (x ++ c :: y) [c] = 1 + Lib.countFrom [c] (x ++ c :: y).length y := by
    unfold Lib.count
    rw [Lib.countFrom, index_at c x y h, if_neg (by rw [beq_iff_eq]; omega)]
    simp
  have hn : Lib.replaceNum (x ++ c :: y) [c] 1 = 1 := by
    unfold Lib.replaceNum; rw [hc, if_neg (by omega)]; rfl
  rw [hn, Lib.replaceK_hit [c] [] 0 _ x.length (index_at c x y h)]
  simp [Lib.replaceK]
theorem replace_none (c : UInt8) (x : List UInt8) (h : c ∉ x) : Lib.replace x [c] [] 1 = x := by
  unfold Lib.replace
  rw [if_neg (by simp)]
  have hc : Lib.count x [c] = 0 := by
    unfold Lib.count
    rw [Lib.countFrom, index_no c x h, if_pos (by simp)]
  have hn : Lib.replaceNum x [c] 1 = 0 := by
    unfold Lib.replaceNum; rw [hc, if_pos (by omega)]
  rw [hn]
  simp [Lib.replaceK]
theorem atoi_expo_fin : ∀ n : Fin 1000, Lib.atoi (expo (n.val : Int)) = some (n.val : Int) ∧ Lib.atoi (expo (-(n.val : Int))) = some (-(n.val : Int)) := by decide +kernel
theorem atoi_expo {x : Int} (h1 : -999 ≤ x) (h2 : x ≤ 999) : Lib.atoi (expo x) = some x := by
  by_cases h : 0 ≤ x
  · have := (atoi_expo_fin ⟨x.toNat, by omega⟩).1
    simpa [show ((x.toNat : Nat) : Int) = x by omega] using this
  · have := (atoi_expo_fin ⟨(-x).toNat, by omega⟩).2
    simpa [show (((-x).toNat : Nat) : Int) = -x by omega] using this
theorem expo_len (x : Int) : (expo x).length ≤ 4 := by
  unfold expo; split <;> split <;> (try split) <;> simp
theorem dec_digit (u : Nat) : ∀ c ∈ decDigits u, 48 ≤ c.toNat ∧ c.toNat ≤ 57 := by
  induction u using Nat.strongRecOn with
  | _ u ih =>
    rw [decDigits]
    by_cases h10 : u < 10
    · rw [dif_pos h10]; intro c hc; simp at hc; subst hc; simp; omega
    · rw [dif_neg h10]
      intro c hc
      rcases List.mem_append.1 hc with hc | hc
      · exact ih (u / 10) (by omega) c hc
      · simp at hc; subst hc; simp; omega
theorem sig_digit {d : Nat} {c : UInt8} (h : c ∈ sig d) : 48 ≤ c.toNat ∧ c.toNat ≤ 57 := dec_digit d c ((trimZ_prefix _).mem h)
/-- A text's head, the digits with a point. -/
def headOf (ds : List UInt8) : List UInt8 := ds.take 1 ++ (if ds.length ≤ 1 then [] else 46 :: ds.drop 1)
theorem fmtE_head (neg : Bool) (ds : List UInt8) (x : Int) : fmtE neg ds x = (if neg then [45] else []) ++ (headOf ds ++ 101 :: expo x) := by
  unfold fmtE headOf; simp
theorem digit_ne {c k : UInt8} (h : 48 ≤ c.toNat ∧ c.toNat ≤ 57) (hk : k.toNat < 48 ∨ 57 < k.toNat) : c ≠ k := by
  intro e; subst e; omega
theorem head_mem {ds : List UInt8} {k : UInt8} (h : ∀ c ∈ ds, 48 ≤ c.toNat ∧ c.toNat ≤ 57) (hk : k.toNat < 48 ∨ 57 < k.toNat) (h46 : k ≠ 46) : k ∉ headOf ds := by
  intro hm
  unfold headOf at hm
  rcases List.mem_append.1 hm with hm | hm
  · exact digit_ne (h k (List.mem_of_mem_take hm)) hk rfl
  · split at hm
    · simp at hm
    · rcases List.mem_cons.1 hm with hm | hm
      · exact h46 hm
      · exact digit_ne (h k (List.mem_of_mem_drop hm)) hk rfl
theorem head_dot {ds : List UInt8} (h : ∀ c ∈ ds, 48 ≤ c.toNat ∧ c.toNat ≤ 57) : Lib.replace (headOf ds) [46] [] 1 = ds := by
  have hn : ∀ l : List UInt8, (∀ c ∈ l, c ∈ ds) → (46 : UInt8) ∉ l := fun l hl hm => digit_ne (h _ (hl _ hm)) (k := 46) (by decide) rfl
  unfold headOf
  by_cases hl : ds.length ≤ 1
  · rw [if_pos hl, List.append_nil, List.take_of_length_le hl]
    exact replace_none 46 ds (hn ds (fun _ x => x))
  · rw [if_neg hl, replace_one 46 _ _ (hn _ (fun c hc => List.mem_of_mem_take hc)), List.take_append_drop]
theorem head_len (ds : List UInt8) : (headOf ds).length ≤ ds.length + 1 := by
  unfold headOf; split <;> simp <;> omega
/-- Digits with a point. -/
def pointed (d : List UInt8) (p : Nat) : List UInt8 := if p = d.length then d ++ [46, 48] else d.take p ++ [46] ++ d.drop p
def written (d : List UInt8) (p : Int) : List UInt8 :=
  if p < -4 ∨ 15 < p then pointed d 1 ++ [101] ++ Lib.itoa p
  else if p + 1 ≤ 0 then [48, 46] ++ Lib.repeatL [48] (-(p + 1)).toNat ++ d
  else if (d.length : Int) < p + 1 then pointed (d ++ Lib.repeatL [48] (p + 1 - d.length).toNat) (p + 1).toNat
  else pointed d (p + 1).toNat
/-- The text of a number that is not nought. -/
def showN (a : Nat) : List UInt8 := (if 9223372036854775808 ≤ a then [45] else []) ++ written (digs a) (dpt a - 1)
theorem digs_ok {a : Nat} (hf : a / 4503599627370496 % 2048 < 2047) (hz : a % 9223372036854775808 ≠ 0) : (∀ c ∈ digs a, 48 ≤ c.toNat ∧ c.toNat ≤ 57) ∧ 1 ≤ (digs a).length ∧ (digs a).length ≤ 20 ∧ -369 ≤ dpt a ∧ dpt a ≤ 369 := by
  have hm : mant a ≠ 0 := by unfold mant; split <;> omega
  obtain ⟨h1, h2, h3, h4⟩ := dec_ok hf hm
  have hn := nDigits_le h1 (show (decOf a).1 < 18446744073709551616 by omega)
  have hp := nDigits_pos (decOf a).1
  obtain ⟨d0, r, e, hr, _, _⟩ := sig_cons h1
  refine ⟨fun c hc => sig_digit hc, ?_, ?_, ?_, ?_⟩
  · unfold digs; rw [e]; simp
  · unfold digs; rw [e]; simp; omega
  · unfold dpt; omega
  · unfold dpt; omega
end Pl
end Go.Proofs.YtlodbibagmblkaaGreatDoor
namespace Go.Proofs.YtlodbibagmblkaaGreatDoor
open Go.RowKit Go.Lib
set_option maxHeartbeats 1000000 in
set_option maxRecDepth 100000 in
theorem iformat_any (a : Nat) (w : World) (ha : a < 18446744073709551616) (hf : a / 4503599627370496 % 2048 < 2047) (hz : a % 9223372036854775808 ≠ 0) (he : Env w) :
    Calls Tryz.prog 181 #[.float .f64 a, .int .u8 101, .int .i64 (-1), .int .i64 64] w fun e w' => e = .returned (.string ⟨(Pl.ftoa a).toArray⟩) ∧ Below w.heap.size w w' := by
  have hmk : ∀ w : World, (Instr.makeSlice 85 (.int .i64 0) (.int .i64 (max 3 24))).run Tryz.prog w = .ok (.slice (some ⟨w.heap.size, 0, none⟩) 0 24) (w.alloc (.cells zer24 5)) := run_make24
  have HF := Lib.hid (ftoa64_any w.heap.size a _ _ (owns24 w) (by simp) ha hf hz (he.below ((Below.refl _ _).alloc (Nat.le_refl _) _)))
  go_enter Tryz.func181, Tryz.ntmps181
  go_wp2_with fail
  refine HF.out.mono ?_
  rintro e w1 ⟨v', rfl, ho, hg⟩
  have hst := run_string_of_owns (P := Tryz.prog) 85 9 Tryz.underlying85 Tryz.underlying5 Tryz.underlying9 (l := Pl.ftoa a) ho
  have hB : Below w.heap.size w w1 := hg.below ((Below.refl _ _).alloc (Nat.le_refl _) _) (by simp) (fun k hk => by simp [Value.ownBlock] at hk; omega)
  have HB := Lib.hid hB
  obtain ⟨va, vc, rfl⟩ := ho.form
  obtain ⟨s, hs⟩ : ∃ s, (⟨(Pl.ftoa a).toArray⟩ : ByteArray) = s := ⟨_, rfl⟩
  rw [hs] at hst
  have HS := Lib.hid hs
  clear ho hg hB hmk HF hs
  go_wp2_with fail
  go_ret
  exact ⟨by rw [HS.out]; rfl, HB.out⟩
theorem format_any (a : Nat) (w : World) (ha : a < 18446744073709551616) (hf : a / 4503599627370496 % 2048 < 2047) (hz : a % 9223372036854775808 ≠ 0) (he : Env w) :
    Calls Tryz.prog 155 #[.float .f64 a, .int .u8 101, .int .i64 (-1), .int .i64 64] w fun e w' => e = .returned (.string ⟨(Pl.ftoa a).toArray⟩) ∧ Below w.heap.size w w' := by
  have HF := Lib.hid (iformat_any a w ha hf hz he)
  generalize (⟨(Pl.ftoa a).toArray⟩ : ByteArray) = s at HF ⊢
  clear ha hf hz he
  go_enter Tryz.func155, Tryz.ntmps155
  go_wp2_with fail
  refine HF.out.mono ?_
  rintro e w1 ⟨rfl, hB⟩
  go_wp2_with fail
  go_ret
  exact ⟨rfl, hB⟩
end Go.Proofs.YtlodbibagmblkaaGreatDoor
namespace Go.Proofs.YtlodbibagmblkaaGreatDoor.Fl
open Ieee
theorem read_max : D.read 9218868437227405311 = .number false 9007199254740991 971 := by rw [read_eq]; decide +kernel
set_option exponentiation.threshold 3000 in
theorem order_max (b : Nat) (hb : b < 18446744073709551616) : D.order b 9218868437227405311 = some .gt ↔ b = 9218868437227405312 := by
  cases hn : isNan b
  · have hv : val (D.read 9218868437227405311) = signed false 9007199254740991 2045 := by rw [read_max]; rfl
    rw [order_key hn (by decide), hv]
    have hbig : (9007199254740991 : Nat) * 2 ^ 2045 < 2 ^ 2200 := by decide +kernel
    rw [read_eq]
    have hn' : ¬ 9218868437227405312 < b % 9223372036854775808 := by simpa [isNan] using hn
    have key : ∀ (s : Bool) (m u : Nat), m < 9007199254740992 → u ≤ 2045 → compare (signed s m u) (signed false 9007199254740991 2045) ≠ .gt := by
      intro s m u hm hu
      have h1 : m * 2 ^ u ≤ 9007199254740991 * 2 ^ 2045 := Nat.mul_le_mul (by omega) (Nat.pow_le_pow_right (by decide) hu)
      unfold signed
      rw [Nat.shiftLeft_eq, Nat.shiftLeft_eq]
      generalize 9007199254740991 * 2 ^ 2045 = B at *
      generalize m * 2 ^ u = v at *
      cases s
      · rcases Nat.lt_or_eq_of_le h1 with h | h
        · rw [cmp_lt (by simp; omega)]; simp
        · subst h; rw [cmp_eq]; simp
      · have : (-(v : Int)) ≤ (B : Int) := by omega
        simp only [if_pos]
        rcases Int.lt_or_eq_of_le this with h | h
        · rw [cmp_lt (by simpa using h)]; simp
        · simp only [Bool.false_eq_true, if_false]; rw [h, cmp_eq]; simp
    split
    · rename_i h
      refine ⟨fun e => ?_, fun e => by omega⟩
      simp only [val, Option.some.injEq] at e
      exact absurd e (key _ _ _ (by omega) (by omega))
    · split
      · rename_i h
        refine ⟨fun e => ?_, fun e => by omega⟩
        simp only [val, Option.some.injEq] at e
        have : b % 9223372036854775808 / 4503599627370496 ≤ 2046 := by omega
        exact absurd e (key _ _ _ (by omega) (by omega))
      · split
        · rename_i h
          simp only [val, Option.some.injEq]
          unfold signed
          rw [Nat.shiftLeft_eq, Nat.shiftLeft_eq, Nat.one_mul]
          generalize 9007199254740991 * 2 ^ 2045 = B at *
          generalize 2 ^ 2200 = C at *
          by_cases hs : b / 9223372036854775808 % 2 = 1
          · rw [show (b / 9223372036854775808 % 2 == 1) = true by simpa using hs]
            refine ⟨fun e => ?_, fun e => by omega⟩
            rw [cmp_lt (by simp; omega)] at e
            cases e
          · rw [show (b / 9223372036854775808 % 2 == 1) = false by simpa using hs]
            refine ⟨fun e => by omega, fun e => ?_⟩
            rw [cmp_gt (by simp; omega)]
        · omega
  · rw [order_nan_left _ hn]
    refine ⟨fun e => (by cases e), fun e => ?_⟩
    subst e; revert hn; decide
end Go.Proofs.YtlodbibagmblkaaGreatDoor.Fl
namespace Go.Proofs.YtlodbibagmblkaaGreatDoor
open Go.RowKit
theorem isInf_core (b : Nat) (hb : b < 18446744073709551616) : ∃ o : Option Ordering, FloatKind.f64.format.order b 9218868437227405311 = o ∧ (decide (b = 9218868437227405312) = match o with | some .gt => true | _ => false) := by
  refine ⟨_, rfl, ?_⟩
  have h := Fl.order_max b hb
  rw [Bool.eq_iff_iff, decide_eq_true_iff, ← h]
  show _ ↔ (match Fl.D.order b 9218868437227405311 with | some .gt => true | _ => false) = true
  cases Fl.D.order b 9218868437227405311 with
  | none => simp
  | some o => cases o <;> simp
theorem isInf1_any (b : Nat) (hb : b < 18446744073709551616) (w : World) : Calls Tryz.prog 90 #[.float .f64 b, .int .i64 1] w fun e w' => e = .returned (.bool (decide (b = 9218868437227405312))) ∧ w = w' := by
  obtain ⟨o, ho, hd⟩ := isInf_core b hb
  rw [hd]
  clear hd
  rcases o with _ | o
  · go_enter Tryz.func90, Tryz.ntmps90
    go_wp2_with fail
    go_ret
    exact ⟨rfl, rfl⟩
  · cases o
    all_goals
      go_enter Tryz.func90, Tryz.ntmps90
      go_wp2_with fail
      go_ret
      exact ⟨rfl, rfl⟩
theorem isInfn_any (a : Nat) (ha : a < 18446744073709551616) (w : World) : Calls Tryz.prog 90 #[.float .f64 a, .int .i64 (-1)] w fun e w' => e = .returned (.bool (decide (a = 18442240474082181120))) ∧ w = w' := by
  have hx : decide (a = 18442240474082181120) = decide (a ^^^ 9223372036854775808 = 9218868437227405312) := by
    rw [Bool.eq_iff_iff, decide_eq_true_iff, decide_eq_true_iff]
    by_cases h : a < 9223372036854775808
    · rw [Fl.xor_low h]; omega
    · rw [Fl.xor_high (by omega) ha]; omega
  have hb : a ^^^ 9223372036854775808 < 18446744073709551616 := by
    by_cases h : a < 9223372036854775808
    · rw [Fl.xor_low h]; omega
    · rw [Fl.xor_high (by omega) ha]; omega
  have hn := fun (w : World) => run_neg a w
  rw [hx]
  obtain ⟨o, ho, hd⟩ := isInf_core _ hb
  rw [hd]
  clear hd hx
  generalize a ^^^ 9223372036854775808 = b at *
  rcases o with _ | o
  · go_enter Tryz.func90, Tryz.ntmps90
    go_wp2_with fail
    go_ret
    exact ⟨rfl, rfl⟩
  · cases o
    all_goals
      go_enter Tryz.func90, Tryz.ntmps90
      go_wp2_with fail
      go_ret
      exact ⟨rfl, rfl⟩
end Go.Proofs.YtlodbibagmblkaaGreatDoor
