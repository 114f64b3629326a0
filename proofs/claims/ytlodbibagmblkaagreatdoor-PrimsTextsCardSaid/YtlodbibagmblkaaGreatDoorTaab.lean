/- Plain facts of floats of 64 bits (no program in sight): their order, their sums and products do not hang on order. Plain facts of rounding: the nearest float of a number hangs on the number alone; a float is the nearest of itself. Plain facts of scaling: the whole plain law of FloatScale. Plain facts for math.Ldexp: its steps come to the number scaled and rounded once. The small functions of floats: their contracts. Contracts of Go's library at this program's numbers, as the kit's shelf lays them (lay-shelf.mjs, lay-plain.mjs): cut to those that are used. Unrounded scaling: the contracts of uscale and its kin. The small functions of unrounded numbers; prescale. Plain facts on unrounded scaling by the table of powers of ten; the contracts of prescale and uscale by that table. What the package-level variables hold, in one bundle. -/
import Derived.Laws.FloatArith
import Derived.Test.YtlodbibagmblkaaGreatDoorProg
import Derived.Laws.Externs
import Derived.WalkKit
import Derived.WalkLawsBesides
import Derived.WalkSpells
import Derived.Lib.Hide
import Derived.Outline
import Derived.Shelf.Small.Bits
import Derived.Shelf.Bits.Mul64
import Derived.Shelf.LaysM
import Derived.Shelf.Strconv.Itoa1
import Derived.Shelf.Strconv.Itoa2
import Derived.Deep.QuietTactic
import Derived.BigQuiet
import GoSem.PinnedTables
import Derived.Lib.SmallJoins
namespace Go.Proofs.YtlodbibagmblkaaGreatDoor.Fl
open Ieee
abbrev D : Format := Ieee.double
def isNan (a : Nat) : Bool := decide (9218868437227405312 < a % 9223372036854775808)
theorem read_eq (a : Nat) : D.read a =
    if a % 9223372036854775808 < 4503599627370496 then .number (a / 9223372036854775808 % 2 == 1) (a % 9223372036854775808) (-1074)
    else if a % 9223372036854775808 < 9218868437227405312 then .number (a / 9223372036854775808 % 2 == 1) (4503599627370496 + a % 9223372036854775808 % 4503599627370496) (-1074 + (a % 9223372036854775808 / 4503599627370496 - 1 : Nat))
    else if a % 9223372036854775808 = 9218868437227405312 then .infinity (a / 9223372036854775808 % 2 == 1)
    else .nan (a / 9223372036854775808 % 2 == 1) (a % 9223372036854775808 - 9218868437227405312) := rfl
/-- A datum that is no nan and whose places lie within a float's. -/
def Good : Datum → Prop
  | .number _ m i => -1074 ≤ i ∧ i ≤ 971 ∧ m < 9007199254740992
  | .infinity _ => True
  | .nan .. => False
theorem good_read {a : Nat} (h : isNan a = false) : Good (D.read a) := by
  rw [read_eq]
  have h' : ¬ 9218868437227405312 < a % 9223372036854775808 := by simpa [isNan] using h
  split
  · simp only [Good]; omega
  · split
    · simp only [Good]
      have : a % 9223372036854775808 / 4503599627370496 ≤ 2046 := by omega
      omega
    · split
      · trivial
      · omega
theorem nan_read {a : Nat} (h : isNan a = true) : ∃ s f, D.read a = .nan s f := by
  have h' : 9218868437227405312 < a % 9223372036854775808 := by simpa [isNan] using h
  rw [read_eq, if_neg (by omega), if_neg (by omega), if_neg (by omega)]
  exact ⟨_, _, rfl⟩
/-- The number, times 2 to the 1074. -/
def val : Datum → Int
  | .number s m i => signed s m (i + 1074).toNat
  | .infinity s => signed s 1 2200
  | .nan .. => 0
theorem signed_mul (s : Bool) (m u k : Nat) : signed s m u * (2 ^ k : Nat) = signed s m (u + k) := by
  unfold signed
  rw [Nat.shiftLeft_eq, Nat.shiftLeft_eq, Nat.pow_add, ← Nat.mul_assoc]
  cases s
  · simp
  · simp [Int.neg_mul]
theorem signed_opp (s : Bool) (m u : Nat) : signed (!s) m u = - signed s m u := by cases s <;> simp [signed]
theorem val_opp (d : Datum) : val d.opposite = - val d := by cases d <;> simp [val, Datum.opposite, signed_opp]
theorem compare_mul (x y : Int) (k : Nat) : compare (x * (2 ^ k : Nat)) (y * (2 ^ k : Nat)) = compare x y := by
  have hp : (0 : Int) < (2 ^ k : Nat) := by exact_mod_cast Nat.two_pow_pos k
  have h1 : x * (2 ^ k : Nat) < y * (2 ^ k : Nat) ↔ x < y := ⟨fun h => Int.lt_of_mul_lt_mul_right h (Int.le_of_lt hp), fun h => Int.mul_lt_mul_of_pos_right h hp⟩
  have h2 : x * (2 ^ k : Nat) = y * (2 ^ k : Nat) ↔ x = y := ⟨fun h => Int.eq_of_mul_eq_mul_right (Int.ne_of_gt hp) h, fun h => by rw [h]⟩
  simp only [compare, compareOfLessAndEq, h1, h2]
theorem signed_lt {m u : Nat} (s : Bool) (hm : m < 9007199254740992) (hu : u ≤ 2045) : signed s m u < signed false 1 2200 ∧ signed true 1 2200 < signed s m u := by
  have h1 : m * 2 ^ u < 2 ^ 2200 := by
    calc m * 2 ^ u ≤ 9007199254740992 * 2 ^ u := Nat.mul_le_mul_right _ (by omega)
      _ ≤ 9007199254740992 * 2 ^ 2045 := Nat.mul_le_mul_left _ (Nat.pow_le_pow_right (by omega) hu)
      _ < 2 ^ 2200 := by decide +kernel
  unfold signed
  rw [Nat.shiftLeft_eq, Nat.shiftLeft_eq]
  generalize 2 ^ 2200 = B at *
  generalize m * 2 ^ u = v at *
  cases s <;> simp <;> omega
theorem cmp_lt {x y : Int} (h : x < y) : compare x y = .lt := by simp [compare, compareOfLessAndEq, h]
theorem cmp_gt {x y : Int} (h : y < x) : compare x y = .gt := by
  simp only [compare, compareOfLessAndEq]; rw [if_neg (by omega), if_neg (by omega)]
theorem cmp_eq (x : Int) : compare x x = .eq := by simp [compare, compareOfLessAndEq]
theorem order_val {d e : Datum} (hd : Good d) (he : Good e) : d.order e = some (compare (val d) (val e)) := by
  cases d with
  | nan => exact hd.elim
  | infinity s =>
    cases e with
    | nan => exact he.elim
    | infinity t =>
      simp only [Datum.order, val]
      cases s <;> cases t <;> simp only [Bool.toNat]
      · rw [cmp_eq]; rfl
      · rw [cmp_gt (by decide +kernel)]; rfl
      · rw [cmp_lt (by decide +kernel)]; rfl
      · rw [cmp_eq]; rfl
    | number t n j =>
      obtain ⟨h1, h2, h3⟩ := he
      have := signed_lt t h3 (u := (j + 1074).toNat) (by omega)
      simp only [Datum.order, val]
      cases s
      · rw [cmp_gt this.1]; rfl
      · rw [cmp_lt this.2]; rfl
  | number s m i =>
    obtain ⟨h1, h2, h3⟩ := hd
    cases e with
    | nan => exact he.elim
    | infinity t =>
      have := signed_lt s h3 (u := (i + 1074).toNat) (by omega)
      simp only [Datum.order, val]
      cases t
      · rw [cmp_lt this.1]; rfl
      · rw [cmp_gt this.2]; rfl
    | number t n j =>
      obtain ⟨k1, k2, k3⟩ := he
      simp only [Datum.order, val]
      rw [← compare_mul _ _ (min i j + 1074).toNat, signed_mul, signed_mul]
      have e1 : (i - min i j).toNat + (min i j + 1074).toNat = (i + 1074).toNat := by omega
      have e2 : (j - min i j).toNat + (min i j + 1074).toNat = (j + 1074).toNat := by omega
      rw [e1, e2]
theorem order_nan_left {a : Nat} (b : Nat) (h : isNan a = true) : D.order a b = none := by
  obtain ⟨s, f, e⟩ := nan_read h
  simp [Format.order, e, Datum.order]
theorem order_key {a b : Nat} (ha : isNan a = false) (hb : isNan b = false) : D.order a b = some (compare (val (D.read a)) (val (D.read b))) := order_val (good_read ha) (good_read hb)
/-- The sign turned. -/
theorem xor_low {a : Nat} (h : a < 9223372036854775808) : a ^^^ 9223372036854775808 = 9223372036854775808 + a := by
  have e : (9223372036854775808 : Nat) = 2 ^ 63 := by decide
  rw [e] at h ⊢
  refine Nat.eq_of_testBit_eq fun j => ?_
  rw [Nat.testBit_xor, Nat.testBit_two_pow]
  rcases Nat.lt_trichotomy j 63 with hj | hj | hj
  · rw [Nat.testBit_two_pow_add_gt hj]
    have : ¬ 63 = j := by omega
    simp [this]
  · subst hj
    rw [Nat.testBit_two_pow_add_eq, Nat.testBit_lt_two_pow h]; rfl
  · have hp : (2 : Nat) ^ 64 ≤ 2 ^ j := Nat.pow_le_pow_right (by omega) (by omega)
    have h64 : (2 : Nat) ^ 64 = 2 ^ 63 + 2 ^ 63 := by decide
    rw [Nat.testBit_lt_two_pow (show a < 2 ^ j by omega), Nat.testBit_lt_two_pow (show 2 ^ 63 + a < 2 ^ j by omega)]
    have : ¬ 63 = j := by omega
    simp [this]
theorem xor_high {a : Nat} (h : 9223372036854775808 ≤ a) (h2 : a < 18446744073709551616) : a ^^^ 9223372036854775808 = a - 9223372036854775808 := by
  have e : a = (a - 9223372036854775808) ^^^ 9223372036854775808 := by rw [xor_low (by omega)]; omega
  conv => lhs; rw [e]
  rw [Nat.xor_assoc, Nat.xor_self, Nat.xor_zero]
theorem xor_mod {a : Nat} (h : a < 18446744073709551616) : (a ^^^ 9223372036854775808) % 9223372036854775808 = a % 9223372036854775808 ∧ ((a ^^^ 9223372036854775808) / 9223372036854775808 % 2 == 1) = !(a / 9223372036854775808 % 2 == 1) ∧ (a ^^^ 9223372036854775808) < 18446744073709551616 := by
  rcases Nat.lt_or_ge a 9223372036854775808 with h1 | h1
  · rw [xor_low h1]
    refine ⟨by omega, ?_, by omega⟩
    have e1 : (9223372036854775808 + a) / 9223372036854775808 % 2 = 1 := by omega
    have e2 : a / 9223372036854775808 % 2 = 0 := by omega
    rw [e1, e2]; rfl
  · rw [xor_high h1 h]
    refine ⟨by omega, ?_, by omega⟩
    have e1 : (a - 9223372036854775808) / 9223372036854775808 % 2 = 0 := by omega
    have e2 : a / 9223372036854775808 % 2 = 1 := by omega
    rw [e1, e2]; rfl
theorem read_xor {a : Nat} (h : a < 18446744073709551616) : D.read (a ^^^ 9223372036854775808) = (D.read a).opposite := by
  obtain ⟨e1, e2, _⟩ := xor_mod h
  rw [read_eq, read_eq, e1, e2]
  split
  · rfl
  · split
    · rfl
    · split <;> rfl
def none' : Nat := 9221120237041090560
/-- The bits of an answer: all that is no number is one. -/
def told (a : Nat) : Nat := if isNan a then none' else a
theorem word_not_nan (s : Bool) {r : Nat} (h : r ≤ 9218868437227405312) : isNan (D.word s r) = false := by
  have e : D.word s r % 9223372036854775808 = r := by
    unfold Format.word
    have : D.signWeight = 9223372036854775808 := by decide
    rw [this]
    split <;> omega
  unfold isNan; rw [e]; simpa using h
theorem nearest_not_nan (s : Bool) (m : Nat) (i : Int) : isNan (D.nearest s m i) = false := by
  unfold Format.nearest
  have : D.infRung = 9218868437227405312 := by decide
  split
  · exact word_not_nan s (by omega)
  · exact word_not_nan s (by rw [this]; exact Nat.min_le_right ..)
theorem write_not_nan {d : Datum} (h : d.isNaN = false) : isNan (D.write d) = false := by
  cases d with
  | number s m i => exact nearest_not_nan s m i
  | infinity s => exact word_not_nan s (by decide)
  | nan s f => simp [Datum.isNaN] at h
theorem product_not_nan {d e r : Datum} (h : d.product e = some r) : r.isNaN = false := by
  cases d <;> cases e <;> simp only [Datum.product, reduceCtorEq, Option.some.injEq] at h
  · subst h; rfl
  · split at h
    · cases h
    · cases h; rfl
  · split at h
    · cases h
    · cases h; rfl
  · subst h; rfl
theorem mul_not_nan {a b r : Nat} (h : D.mul a b = some r) : isNan r = false := by
  obtain ⟨d, hd, rfl⟩ := Option.map_eq_some_iff.1 h
  exact write_not_nan (product_not_nan hd)
end Go.Proofs.YtlodbibagmblkaaGreatDoor.Fl
namespace Go.Proofs.YtlodbibagmblkaaGreatDoor.Fl
open Ieee
/-- Rounded to the nearest, without the bound on what is dropped. -/
def cutS (n d : Nat) : Nat := n / 2 ^ d + (decide (2 ^ d < 2 * (n % 2 ^ d)) || (2 ^ d == 2 * (n % 2 ^ d) && n / 2 ^ d % 2 == 1)).toNat
theorem cut_eq (s : Bool) (n d : Nat) : Toward.even.cut s n d = cutS n d := by
  unfold Toward.cut cutS
  simp only [Nat.shiftLeft_eq, Nat.one_mul]
  rcases Nat.lt_or_ge d (n.log2 + 2) with h | h
  · rw [Nat.min_eq_left (by omega)]
  · rw [Nat.min_eq_right h]
    have h1 : n < 2 ^ (n.log2 + 1) := Nat.lt_log2_self
    have h2 : 2 ^ (n.log2 + 2) = 2 * 2 ^ (n.log2 + 1) := by rw [Nat.pow_succ, Nat.mul_comm]
    have h3 : 2 ^ (n.log2 + 2) ≤ 2 ^ d := Nat.pow_le_pow_right (by omega) h
    generalize 2 ^ (n.log2 + 2) = A at *
    generalize 2 ^ (n.log2 + 1) = B at *
    generalize 2 ^ d = C at *
    rw [Nat.div_eq_of_lt (show n < A by omega), Nat.div_eq_of_lt (show n < C by omega), Nat.mod_eq_of_lt (show n < A by omega), Nat.mod_eq_of_lt (show n < C by omega)]
    have e1 : decide (A < 2 * n) = false := by simp; omega
    have e2 : decide (C < 2 * n) = false := by simp; omega
    rw [e1, e2]
    simp
theorem cutS_scale (n d k : Nat) : cutS (n * 2 ^ k) (d + k) = cutS n d := by
  unfold cutS
  have hk : 0 < 2 ^ k := Nat.two_pow_pos k
  rw [Nat.pow_add, Nat.mul_div_mul_right _ _ hk, Nat.mul_mod_mul_right]
  generalize hr : n % 2 ^ d = r
  generalize hq : n / 2 ^ d = q
  generalize 2 ^ d = C
  generalize 2 ^ k = K at hk
  have e1 : (C * K < 2 * (r * K)) ↔ C < 2 * r := by rw [← Nat.mul_assoc]; exact Nat.mul_lt_mul_right hk
  have e2 : (C * K = 2 * (r * K)) ↔ C = 2 * r := by rw [← Nat.mul_assoc]; exact ⟨fun h => Nat.eq_of_mul_eq_mul_right hk h, fun h => by rw [h]⟩
  have e3 : (C * K == 2 * (r * K)) = (C == 2 * r) := by rw [Bool.eq_iff_iff]; simp [e2]
  rw [e3]
  simp only [e1]
theorem cutS_zero (n : Nat) : cutS n 0 = n := by
  unfold cutS
  simp [Nat.mod_one]
theorem log2_mul_pow {m : Nat} (h : m ≠ 0) (k : Nat) : (m * 2 ^ k).log2 = m.log2 + k := by
  have h1 := Nat.log2_self_le h
  have h2 : m < 2 ^ (m.log2 + 1) := Nat.lt_log2_self
  have hk : 0 < 2 ^ k := Nat.two_pow_pos k
  have hne : m * 2 ^ k ≠ 0 := Nat.mul_ne_zero h (by omega)
  refine Nat.le_antisymm ?_ ?_
  · have : m * 2 ^ k < 2 ^ (m.log2 + k + 1) := by
      rw [show m.log2 + k + 1 = (m.log2 + 1) + k by omega, Nat.pow_add]
      exact Nat.mul_lt_mul_of_pos_right h2 hk
    have := (Nat.log2_lt hne).2 this
    omega
  · refine (Nat.le_log2 hne).2 ?_
    rw [Nat.pow_add]
    exact Nat.mul_le_mul_right _ h1
/-- The last place that is kept. -/
def lastOf (m : Nat) (i : Int) : Int := max (i + m.log2 - 52) (-1074)
theorem nearest_eq (s : Bool) {m : Nat} (h : m ≠ 0) (i : Int) : D.nearest s m i = D.word s (min ((lastOf m i + 1074).toNat * 4503599627370496 + cutS (m * 2 ^ (i - lastOf m i).toNat) (lastOf m i - i).toNat) 9218868437227405312) := by
  unfold Format.nearest
  rw [if_neg h]
  simp only [cut_eq, Nat.shiftLeft_eq]
  rfl
theorem word_of {a : Nat} (h : a < 18446744073709551616) : D.word (a / 9223372036854775808 % 2 == 1) (a % 9223372036854775808) = a := by
  unfold Format.word
  have : D.signWeight = 9223372036854775808 := by decide
  rw [this]
  by_cases h1 : a < 9223372036854775808
  · have : a / 9223372036854775808 % 2 = 0 := by omega
    rw [this]; simp; omega
  · have : a / 9223372036854775808 % 2 = 1 := by omega
    rw [this]; simp; omega
end Go.Proofs.YtlodbibagmblkaaGreatDoor.Fl
namespace Go.Proofs.YtlodbibagmblkaaGreatDoor.Fl
open Ieee
def scaled (k : Int) : Datum → Datum
  | .number s m i => .number s m (i + k)
  | d => d
theorem word_mod (s : Bool) {r : Nat} (h : r < 9223372036854775808) : D.word s r % 9223372036854775808 = r ∧ (D.word s r / 9223372036854775808 % 2 == 1) = s ∧ D.word s r < 18446744073709551616 := by
  unfold Format.word
  have : D.signWeight = 9223372036854775808 := by decide
  rw [this]
  cases s
  · refine ⟨by simp; omega, ?_, by simp; omega⟩
    have : r / 9223372036854775808 % 2 = 0 := by omega
    simp [this]
  · refine ⟨by simp; omega, ?_, by simp; omega⟩
    have : (9223372036854775808 + r) / 9223372036854775808 % 2 = 1 := by omega
    rw [if_pos rfl, this]; rfl
end Go.Proofs.YtlodbibagmblkaaGreatDoor.Fl
namespace Go.Proofs.YtlodbibagmblkaaGreatDoor.Fl
open Ieee
/-- What a full word reads as. -/
theorem read_full (s : Bool) {m z : Nat} (h1 : 4503599627370496 ≤ m) (h2 : m < 9007199254740992) (hz : z ≤ 2045) : D.read (D.word s (z * 4503599627370496 + m)) = .number s m (z - 1074) ∧ D.word s (z * 4503599627370496 + m) < 18446744073709551616 ∧ isNan (D.word s (z * 4503599627370496 + m)) = false := by
  have hR : z * 4503599627370496 + m < 9218868437227405312 := by omega
  obtain ⟨w1, w2, w3⟩ := word_mod s (r := z * 4503599627370496 + m) (by omega)
  have hq : (z * 4503599627370496 + m) / 4503599627370496 = z + 1 := by clear w1 w2 w3 hR; omega
  have hmod : (z * 4503599627370496 + m) % 4503599627370496 = m - 4503599627370496 := by clear w1 w2 w3 hR hq; omega
  refine ⟨?_, w3, word_not_nan _ (by omega)⟩
  rw [read_eq, w1, w2, if_neg (by omega), if_pos hR, hq, hmod]
  have g1 : 4503599627370496 + (m - 4503599627370496) = m := by omega
  have g2 : -1074 + ((z + 1 - 1 : Nat) : Int) = z - 1074 := by omega
  rw [g1, g2]
end Go.Proofs.YtlodbibagmblkaaGreatDoor.Fl
namespace Go.Proofs.YtlodbibagmblkaaGreatDoor
open Go.RowKit
theorem ret_int {k : IntKind} {a b : Int} (h : a = b) : Ending.returned (.int k a) = .returned (.int k b) := by rw [h]
theorem ret_bool {a b : Bool} (h : a = b) : Ending.returned (.bool a) = .returned (.bool b) := by rw [h]
theorem run_frombits (n : Int) (w : World) : (callFunc 141 #[.int .u64 n]).run Tryz.prog w = .ok (.value (.float .f64 n.toNat)) w := by
  rw [run_callFunc_extern Tryz.func141 (by kernel_rfl) (by kernel_rfl) (by kernel_rfl) (show Extern.find _ = some Extern.MathFloatBits.float64frombits by kernel_rfl)]
  rfl
theorem run_bits (n : Nat) (w : World) : (callFunc 148 #[.float .f64 n]).run Tryz.prog w = .ok (.value (.int .u64 n)) w := by
  rw [run_callFunc_extern Tryz.func148 (by kernel_rfl) (by kernel_rfl) (by kernel_rfl) (show Extern.find _ = some Extern.MathFloatBits.float64bits by kernel_rfl)]
  rfl
theorem of_any (a : Nat) (w : World) : Calls Tryz.prog 81 #[.int .u64 a] w fun e w' => e = .returned (.float .f64 a) ∧ w = w' := by
  have h1 := run_frombits
  go_enter Tryz.func81, Tryz.ntmps81
  go_wp2
  go_ret
  exact ⟨rfl, rfl⟩
namespace Fl
theorem order_self (a : Nat) : FloatKind.f64.format.order a a = if isNan a then none else some .eq := by
  show D.order a a = _
  cases h : isNan a
  · rw [order_key h h, cmp_eq]; rfl
  · rw [order_nan_left a h]; rfl
end Fl
theorem told_any (a : Nat) (w : World) : Calls Tryz.prog 91 #[.float .f64 a] w fun e w' => e = .returned (.int .u64 (Fl.told a)) ∧ w = w' := by
  have h1 := run_bits
  have H := Lib.hid (Fl.order_self a)
  cases hn : Fl.isNan a
  · have ho : FloatKind.f64.format.order a a = some .eq := by rw [H.out, hn]; rfl
    have HT := Lib.hid (show Fl.told a = a by unfold Fl.told; rw [hn]; rfl)
    clear hn
    go_enter Tryz.func91, Tryz.ntmps91
    go_wp2
    go_ret
    exact ⟨ret_int (by rw [HT.out]), rfl⟩
  · have ho : FloatKind.f64.format.order a a = none := by rw [H.out, hn]; rfl
    have HT := Lib.hid (show Fl.told a = 9221120237041090560 by unfold Fl.told; rw [hn]; rfl)
    clear hn
    go_enter Tryz.func91, Tryz.ntmps91
    go_wp2
    go_ret
    exact ⟨ret_int (by rw [HT.out]; rfl), rfl⟩
namespace Fl
end Fl
namespace Fl
end Fl
namespace Fl
end Fl
namespace Fl
end Fl
namespace Fl
end Fl
theorem run_neg (a : Nat) (w : World) : (Op.unary .neg (.float .f64 a)).run Tryz.prog w = .ok (.float .f64 (a ^^^ 9223372036854775808)) w := rfl
end Go.Proofs.YtlodbibagmblkaaGreatDoor
namespace Go.Proofs
open Go.Shelf
def Tryz.lays129_ren : Go.Shelf.Ren := ⟨fun | 129 => 153 | n => n, fun | 53 => 23 | 3 => 3 | 4 => 4 | 46 => 34 | 5 => 5 | 9 => 9 | n => n, fun | n => n⟩
theorem Tryz.lays129 : Go.Proofs.Lays.n129 Tryz.prog Tryz.lays129_ren := {
  mixed := by kernel_rfl
  f129 := Tryz.func153.trans (congrArg some (by kernel_rfl))
  t3 := Tryz.underlying3
  a3 := Tryz.isAgg3
  z3 := Tryz.sizeOf3
  v3 := Tryz.zeroValue3
  t4 := Tryz.underlying4
  a4 := Tryz.isAgg4
  z4 := Tryz.sizeOf4
  v4 := Tryz.zeroValue4
  t5 := Tryz.underlying5
  a5 := Tryz.isAgg5
  z5 := Tryz.sizeOf5
  v5 := Tryz.zeroValue5
  t9 := Tryz.underlying9
  a9 := Tryz.isAgg9
  z9 := Tryz.sizeOf9
  v9 := Tryz.zeroValue9
  t46 := Tryz.underlying34
  a46 := Tryz.isAgg34
  z46 := Tryz.sizeOf34
  v46 := Tryz.zeroValue34
  t53 := Tryz.underlying23
  a53 := Tryz.isAgg23
  z53 := Tryz.sizeOf23
  v53 := Tryz.zeroValue23 }
theorem Tryz.bits_Len64 (x : Int) (w : World) (h0 : 0 ≤ x) (h1 : x ≤ 18446744073709551615) :
    Calls Tryz.prog 153 #[.int .u64 x] w fun e w' => e = .returned (.int .i64 (Lib.bitLen x.toNat)) ∧ w' = w := Any.bits_Len64 Tryz.lays129 x w h0 h1
def Tryz.laysM284_ren : Go.Shelf.Ren := ⟨fun | 284 => 232 | 129 => 153 | 317 => 233 | 318 => 266 | n => n, fun | 53 => 23 | 3 => 3 | 212 => 255 | 0 => 0 | 4 => 4 | 46 => 34 | 5 => 5 | 9 => 9 | n => n, fun | 17 => 8 | n => n⟩
theorem Tryz.laysM284 : Go.Proofs.LaysM.n284 Tryz.prog Tryz.laysM284_ren := {
  mixed := by kernel_rfl
  f129 := Tryz.func153.trans (congrArg some (by kernel_rfl))
  f284 := Tryz.func232.trans (congrArg some (by kernel_rfl))
  f317 := Tryz.func233.trans (congrArg some (by kernel_rfl))
  f318 := Tryz.func266.trans (congrArg some (by kernel_rfl))
  t0 := Tryz.underlying0
  a0 := Tryz.isAgg0
  z0 := Tryz.sizeOf0
  v0 := Tryz.zeroValue0
  t3 := Tryz.underlying3
  a3 := Tryz.isAgg3
  z3 := Tryz.sizeOf3
  v3 := Tryz.zeroValue3
  t4 := Tryz.underlying4
  a4 := Tryz.isAgg4
  z4 := Tryz.sizeOf4
  v4 := Tryz.zeroValue4
  t5 := Tryz.underlying5
  a5 := Tryz.isAgg5
  z5 := Tryz.sizeOf5
  v5 := Tryz.zeroValue5
  t9 := Tryz.underlying9
  a9 := Tryz.isAgg9
  z9 := Tryz.sizeOf9
  v9 := Tryz.zeroValue9
  t46 := Tryz.underlying34
  a46 := Tryz.isAgg34
  z46 := Tryz.sizeOf34
  v46 := Tryz.zeroValue34
  t53 := Tryz.underlying23
  a53 := Tryz.isAgg23
  z53 := Tryz.sizeOf23
  v53 := Tryz.zeroValue23
  t212 := Tryz.underlying255
  a212 := Tryz.isAgg255
  z212 := Tryz.sizeOf255
  v212 := Tryz.zeroValue255
  g17 := by kernel_rfl
  i0 := by kernel_rfl
  i3 := by kernel_rfl
  i4 := by kernel_rfl
  i5 := by kernel_rfl
  i9 := by kernel_rfl
  i46 := by kernel_rfl
  i53 := by kernel_rfl
  i212 := by kernel_rfl
  m17 := by kernel_rfl }
open Go.Lib in
theorem Tryz.internal_strconv_numDigits (u : Nat) (h1 : 1 ≤ u) (h2 : u < 18446744073709551616) (w : World) (htab : Lib.TabIs Tryz.prog w "internal/strconv.uint64pow10" .u64 Lib.pow10Tab) :
    Calls Tryz.prog 232 #[.int .u64 u] w fun e w' => e = .returned (.int .i64 (Lib.nDigits u)) ∧ w' = w := Any.internal_strconv_numDigits Tryz.laysM284 u h1 h2 w htab
def Tryz.lays285_ren : Go.Shelf.Ren := ⟨fun | 285 => 265 | n => n, fun | 37 => 85 | 53 => 23 | 3 => 3 | 4 => 4 | 51 => 103 | 9 => 9 | 5 => 5 | 0 => 0 | n => n, fun | n => n⟩
theorem Tryz.lays285 : Go.Proofs.Lays.n285 Tryz.prog Tryz.lays285_ren := {
  mixed := by kernel_rfl
  f285 := Tryz.func265.trans (congrArg some (by kernel_rfl))
  t0 := Tryz.underlying0
  a0 := Tryz.isAgg0
  z0 := Tryz.sizeOf0
  v0 := Tryz.zeroValue0
  t3 := Tryz.underlying3
  a3 := Tryz.isAgg3
  z3 := Tryz.sizeOf3
  v3 := Tryz.zeroValue3
  t4 := Tryz.underlying4
  a4 := Tryz.isAgg4
  z4 := Tryz.sizeOf4
  v4 := Tryz.zeroValue4
  t5 := Tryz.underlying5
  a5 := Tryz.isAgg5
  z5 := Tryz.sizeOf5
  v5 := Tryz.zeroValue5
  t9 := Tryz.underlying9
  a9 := Tryz.isAgg9
  z9 := Tryz.sizeOf9
  v9 := Tryz.zeroValue9
  t37 := Tryz.underlying85
  a37 := Tryz.isAgg85
  z37 := Tryz.sizeOf85
  v37 := Tryz.zeroValue85
  t51 := Tryz.underlying103
  a51 := Tryz.isAgg103
  z51 := Tryz.sizeOf103
  v51 := Tryz.zeroValue103
  t53 := Tryz.underlying23
  a53 := Tryz.isAgg23
  z53 := Tryz.sizeOf23
  v53 := Tryz.zeroValue23 }
open Go.RowKit Go.Sort Go.Lib in
theorem Tryz.internal_strconv_formatBase10 (blk off cap : Nat) (u : Nat) (d : Array UInt8) (w : World) (hH : Holds (fun (b : UInt8) => Value.int .u8 (b.toNat : Int)) w blk off d) (hu : u < 10 ^ d.size) (hu64 : u < 18446744073709551616) (hsz : d.size < 4611686018427387904) :
    Calls Tryz.prog 265 #[.slice (some ⟨blk, off, none⟩) d.size cap, .int .u64 u] w fun e w' =>
      e = .returned (.tuple #[]) ∧ ∃ (n v' : Nat) (dk : Array UInt8), w' = (putRow (fun (b : UInt8) => Value.int .u8 (b.toNat : Int)) w blk off dk).drewN n ∧ FmtInv d.size u 0 v' dk := Any.internal_strconv_formatBase10 Tryz.lays285 blk off cap u d w hH hu hu64 hsz
def Tryz.lays264_ren : Go.Shelf.Ren := ⟨fun | 264 => 247 | n => n, fun | 53 => 23 | 46 => 34 | n => n, fun | n => n⟩
theorem Tryz.lays264 : Go.Proofs.Lays.n264 Tryz.prog Tryz.lays264_ren := {
  mixed := by kernel_rfl
  f264 := Tryz.func247.trans (congrArg some (by kernel_rfl))
  t46 := Tryz.underlying34
  a46 := Tryz.isAgg34
  z46 := Tryz.sizeOf34
  v46 := Tryz.zeroValue34
  t53 := Tryz.underlying23
  a53 := Tryz.isAgg23
  z53 := Tryz.sizeOf23
  v53 := Tryz.zeroValue23 }
open Go.RowKit Go.Lib in
theorem Tryz.bits_Mul64 (x y : Nat) (hx : x < 18446744073709551616) (hy : y < 18446744073709551616) (w : World) :
    Calls Tryz.prog 247 #[.int .u64 x, .int .u64 y] w fun e w' => e = .returned (.tuple #[.int .u64 ((x * y / 18446744073709551616 : Nat) : Int), .int .u64 ((x * y % 18446744073709551616 : Nat) : Int)]) ∧ w' = w := Any.bits_Mul64 Tryz.lays264 x y hx hy w
end Go.Proofs


namespace Go.Proofs.YtlodbibagmblkaaGreatDoor
open Go.RowKit
theorem bool2u_any (b : Bool) (w : World) : Calls Tryz.prog 289 #[.bool b] w fun e w' => e = .returned (.int .u64 (if b then 1 else 0)) ∧ w = w' := by
  cases b
  · go_enter Tryz.func289, Tryz.ntmps289
    go_wp2
    go_ret
    exact ⟨rfl, rfl⟩
  · go_enter Tryz.func289, Tryz.ntmps289
    go_wp2
    go_ret
    exact ⟨rfl, rfl⟩
theorem log2Pow10_any (x : Int) (w : World) (h1 : -400 ≤ x) (h2 : x ≤ 400) : Calls Tryz.prog 259 #[.int .i64 x] w fun e w' => e = .returned (.int .i64 (x * 108853 / 32768)) ∧ w = w' := by
  go_enter Tryz.func259, Tryz.ntmps259
  go_wp2
  go_ret
  exact ⟨rfl, rfl⟩
theorem and63 : ∀ s : Nat, s < 64 → bits .and .i64 (s : Int) 63 = s := by decide
namespace Pl
/-- What uscale answers: the unrounded number. -/
def uscale (x hi lo s : Nat) : Nat :=
  if x * hi / 18446744073709551616 / 2 ^ s * 2 ^ s = x * hi / 18446744073709551616 then
    (x * hi / 18446744073709551616 + 18446744073709551616 - (if x * hi % 18446744073709551616 < x * lo / 18446744073709551616 then 1 else 0)) % 18446744073709551616 / 2 ^ s ||| (if 1 < (x * hi % 18446744073709551616 + 18446744073709551616 - x * lo / 18446744073709551616) % 18446744073709551616 then 1 else 0)
  else x * hi / 18446744073709551616 / 2 ^ s ||| 1
theorem uscale_no {x hi lo s h : Nat} (e1 : x * hi / 18446744073709551616 = h) (hq : ¬ h / 2 ^ s * 2 ^ s = h) : uscale x hi lo s = h / 2 ^ s ||| 1 := by
  subst e1; unfold uscale; rw [if_neg hq]
theorem uscale_yes {x hi lo s h mid mid2 h' g : Nat} (e1 : x * hi / 18446744073709551616 = h) (e2 : x * hi % 18446744073709551616 = mid) (e3 : x * lo / 18446744073709551616 = mid2) (hq : h / 2 ^ s * 2 ^ s = h) (e4 : h' = (h + 18446744073709551616 - (if mid < mid2 then 1 else 0)) % 18446744073709551616) (e5 : g = (mid + 18446744073709551616 - mid2) % 18446744073709551616) : uscale x hi lo s = h' / 2 ^ s ||| (if 1 < g then 1 else 0) := by
  subst e1 e2 e3 e4 e5; unfold uscale; rw [if_pos hq]
end Pl
theorem wrap_nat {a : Nat} (h : a < 18446744073709551616) : IntKind.u64.wrap (a : Int) = a := by
  have := IntKind.wrap_u64 (a : Int)
  rw [this]; omega
theorem bits_or {a b : Nat} (ha : a < 18446744073709551616) (hb : b < 18446744073709551616) : bits .or .u64 (a : Int) (b : Int) = ((a ||| b : Nat) : Int) := by
  have h64 : (2 : Nat) ^ IntKind.u64.bits = 18446744073709551616 := rfl
  have ho : a ||| b < 2 ^ 64 := Nat.or_lt_two_pow (by simpa using ha) (by simpa using hb)
  simp only [bits, BitVec.ofInt_natCast, BitVec.toNat_or, BitVec.toNat_ofNat, h64]
  rw [Nat.mod_eq_of_lt ha, Nat.mod_eq_of_lt hb, wrap_nat (by simpa using ho)]
theorem Pl.uscale_turn (h mid mid2 : Nat) (hm : mid < 18446744073709551616) (hl : mid2 < 18446744073709551616) (hh : h < 18446744073709551616) : ∃ (t : Int) (h' g : Nat), (if decide (mid < mid2) = true then (1 : Int) else 0) = t ∧ h' < 18446744073709551616 ∧ g < 18446744073709551616 ∧ IntKind.u64.wrap ((h : Int) - t) = h' ∧ IntKind.u64.wrap ((mid : Int) - mid2) = g ∧ ∀ {x hi lo s : Nat}, x * hi / 18446744073709551616 = h → x * hi % 18446744073709551616 = mid → x * lo / 18446744073709551616 = mid2 → h / 2 ^ s * 2 ^ s = h → Pl.uscale x hi lo s = h' / 2 ^ s ||| (if 1 < g then 1 else 0) := by
  refine ⟨_, (h + 18446744073709551616 - (if mid < mid2 then 1 else 0)) % 18446744073709551616, (mid + 18446744073709551616 - mid2) % 18446744073709551616, rfl, Nat.mod_lt _ (by decide), Nat.mod_lt _ (by decide), ?_, ?_, fun e1 e2 e3 hq => Pl.uscale_yes e1 e2 e3 hq rfl rfl⟩
  · rw [IntKind.wrap_u64]
    by_cases hc : mid < mid2
    · rw [if_pos hc, if_pos (decide_eq_true hc)]; omega
    · rw [if_neg hc, if_neg (by simpa using hc)]; omega
  · rw [IntKind.wrap_u64]; omega
theorem uscale_any (x hi lo s b : Nat) (w : World) (hx : x < 18446744073709551616) (hhi : hi < 18446744073709551616) (hlo : lo < 18446744073709551616) (hs : s < 64)
    (c0 : w.cell? ⟨b, 0, none⟩ = some (.int .u64 hi)) (c1 : w.cell? ⟨b, 1, none⟩ = some (.int .u64 lo)) (c2 : w.cell? ⟨b, 2, none⟩ = some (.int .i64 s)) :
    Calls Tryz.prog 260 #[.int .u64 x, .pointer (some ⟨b, 0, none⟩)] w fun e w' => e = .returned (.int .u64 (Pl.uscale x hi lo s)) ∧ ∃ n, w' = w.drewN n := by
  have hb := and63 s hs
  have hh64 : x * hi / 18446744073709551616 < 18446744073709551616 := Nat.div_lt_of_lt_mul (Nat.mul_lt_mul_of_lt_of_lt hx hhi)
  have hm64 : x * hi % 18446744073709551616 < 18446744073709551616 := Nat.mod_lt _ (by omega)
  have hl64 : x * lo / 18446744073709551616 < 18446744073709551616 := Nat.div_lt_of_lt_mul (Nat.mul_lt_mul_of_lt_of_lt hx hlo)
  go_enter Tryz.func260, Tryz.ntmps260
  go_wp2_with fail
  refine (Tryz.bits_Mul64 x hi hx hhi _).mono ?_
  rintro e w' ⟨rfl, rfl⟩
  generalize e1 : x * hi / 18446744073709551616 = h at hh64 ⊢
  generalize e2 : x * hi % 18446744073709551616 = mid at hm64 ⊢
  have E1 := Lib.hid e1
  have E2 := Lib.hid e2
  clear e1 e2
  have hle : h / 2 ^ s * 2 ^ s ≤ h := Nat.div_mul_le_self _ _
  have hd : h / 2 ^ s ≤ h := Nat.div_le_self _ _
  have hw : IntKind.u64.wrap ((h : Int) / 2 ^ s * 2 ^ s) = ((h / 2 ^ s * 2 ^ s : Nat) : Int) := by
    rw [← wrap_nat (show h / 2 ^ s * 2 ^ s < 18446744073709551616 by omega)]
    simp
  by_cases hq : h / 2 ^ s * 2 ^ s = h
  · have hq' : (IntKind.u64.wrap ((h : Int) / 2 ^ s * 2 ^ s) != (h : Int)) = false := by rw [hw, hq]; simp
    have HQ := Lib.hid hq
    clear hq hw hle
    go_wp2_with fail
    refine (Tryz.bits_Mul64 x lo hx hlo _).mono ?_
    rintro e w' ⟨rfl, rfl⟩
    generalize e3 : x * lo / 18446744073709551616 = mid2 at hl64 ⊢
    have E3 := Lib.hid e3
    clear e3
    go_wp2_with fail
    refine (bool2u_any _ _).mono ?_
    rintro e w' ⟨rfl, rfl⟩
    obtain ⟨t, h', g, et, h4, h5, hw2, hw3, hall⟩ := Pl.uscale_turn h mid mid2 hm64 hl64 (hh := hh64)
    rw [et]
    have HR := Lib.hid (hall E1.out E2.out E3.out HQ.out)
    clear et hall
    have HO := Lib.hid (fun (d : Nat) (hd : d < 2) => bits_or (show h' / 2 ^ s < 18446744073709551616 from Nat.lt_of_le_of_lt (Nat.div_le_self _ _) h4) (show d < 18446744073709551616 by omega))
    go_wp2_with fail
    go_quiet ((go_at_call 289; exact Calls.quiet_of_same ((bool2u_any _ _).mono (fun _ _ h => ⟨h.1, h.2.symm⟩))))
    go_wp2_with fail
    · go_ret
      exact ⟨ret_int (by rw [HR.out, if_pos (by omega), ← HO.out 1 (by omega)]; simp), _, rfl⟩
    · go_ret
      exact ⟨ret_int (by rw [HR.out, if_neg (by omega), ← HO.out 0 (by omega)]; simp), _, rfl⟩
  have hq' : (IntKind.u64.wrap ((h : Int) / 2 ^ s * 2 ^ s) != (h : Int)) = true := by rw [hw, bne_iff_ne]; omega
  have HR := Lib.hid (Pl.uscale_no (lo := lo) E1.out hq)
  have HO := Lib.hid (bits_or (show h / 2 ^ s < 18446744073709551616 by omega) (show 1 < 18446744073709551616 by omega))
  clear hq hw hle hd
  go_wp2_with fail
  go_ret
  exact ⟨ret_int (by rw [HR.out, ← HO.out]; simp), 0, rfl⟩
end Go.Proofs.YtlodbibagmblkaaGreatDoor
namespace Go.Proofs.YtlodbibagmblkaaGreatDoor
open Go.RowKit
theorem skewed_any (x : Int) (w : World) (h1 : -3000 ≤ x) (h2 : x ≤ 3000) : Calls Tryz.prog 257 #[.int .i64 x] w fun e w' => e = .returned (.int .i64 ((x * 631305 - 261663) / 2097152)) ∧ w = w' := by
  go_enter Tryz.func257, Tryz.ntmps257
  go_wp2
  go_ret
  exact ⟨rfl, rfl⟩
theorem log10Pow2_any (x : Int) (w : World) (h1 : -3000 ≤ x) (h2 : x ≤ 3000) : Calls Tryz.prog 233 #[.int .i64 x] w fun e w' => e = .returned (.int .i64 (x * 78913 / 262144)) ∧ w = w' := by
  go_enter Tryz.func233, Tryz.ntmps233
  go_wp2
  go_ret
  exact ⟨rfl, rfl⟩
theorem ceil_any (u : Nat) (w : World) (h : u < 18446744073709551600) : Calls Tryz.prog 262 #[.int .u64 u] w fun e w' => e = .returned (.int .u64 ((u + 3) / 4 : Nat)) ∧ w = w' := by
  go_enter Tryz.func262, Tryz.ntmps262
  go_wp2
  go_ret
  exact ⟨ret_int (by simp), rfl⟩
theorem floor_any (u : Nat) (w : World) (h : u < 18446744073709551600) : Calls Tryz.prog 263 #[.int .u64 u] w fun e w' => e = .returned (.int .u64 (u / 4 : Nat)) ∧ w = w' := by
  go_enter Tryz.func263, Tryz.ntmps263
  go_wp2
  go_ret
  exact ⟨ret_int (by simp), rfl⟩
theorem bits_and1 {a : Nat} (ha : a < 18446744073709551616) : bits .and .u64 (a : Int) 1 = ((a % 2 : Nat) : Int) := by
  have h64 : (2 : Nat) ^ IntKind.u64.bits = 18446744073709551616 := rfl
  have e : (1 : Int) = ((1 : Nat) : Int) := rfl
  rw [e]
  simp only [bits, BitVec.ofInt_natCast, BitVec.toNat_and, BitVec.toNat_ofNat, h64]
  rw [Nat.mod_eq_of_lt ha, Nat.mod_eq_of_lt (show 1 < 18446744073709551616 by decide), Nat.and_one_is_mod, wrap_nat (by omega)]
theorem round_any (u : Nat) (w : World) (h : u < 18446744073709551600) : Calls Tryz.prog 264 #[.int .u64 u] w fun e w' => e = .returned (.int .u64 ((u + 1 + u / 4 % 2) / 4 : Nat)) ∧ w = w' := by
  have hand : bits .and .u64 ((u : Int) / 4) 1 = ((u / 4 % 2 : Nat) : Int) := bits_and1 (show u / 4 < 18446744073709551616 by omega)
  generalize hd : u / 4 % 2 = d at hand ⊢
  have hd2 : d < 2 := by omega
  clear hd
  go_enter Tryz.func264, Tryz.ntmps264
  go_wp2
  go_ret
  exact ⟨ret_int (by simp), rfl⟩
theorem nudge_any (u r : Nat) (d : Int) (w : World) (h : u < 18446744073709551600) (hd : d = -1 ∨ d = 0 ∨ d = 1) (hr : (u : Int) + d = r) : Calls Tryz.prog 261 #[.int .u64 u, .int .i64 d] w fun e w' => e = .returned (.int .u64 r) ∧ w = w' := by
  have HR := Lib.hid hr
  rcases hd with rfl | rfl | rfl
  · have hu : 1 ≤ u := by omega
    have hw : IntKind.u64.wrap ((u : Int) + 18446744073709551615) = (r : Int) := by rw [IntKind.wrap_u64]; omega
    clear hr
    go_enter Tryz.func261, Tryz.ntmps261
    go_wp2
    go_ret
    exact ⟨ret_int hw, rfl⟩
  · clear hr
    go_enter Tryz.func261, Tryz.ntmps261
    go_wp2
    go_ret
    exact ⟨ret_int (by have := HR.out; omega), rfl⟩
  · clear hr
    go_enter Tryz.func261, Tryz.ntmps261
    go_wp2
    go_ret
    exact ⟨ret_int (by have := HR.out; omega), rfl⟩
theorem prescale_any (e p lp : Int) (b hi lo : Nat) (w : World) (he : -2000 ≤ e ∧ e ≤ 2000) (hp : -348 ≤ p ∧ p ≤ 347) (hl : -2000 ≤ lp ∧ lp ≤ 2000)
    (t0 : w.cell? ⟨11, (p + 348).toNat * 2, none⟩ = some (.int .u64 hi)) (t1 : w.cell? ⟨11, (p + 348).toNat * 2 + 1, none⟩ = some (.int .u64 lo))
    {v0 v1 v2 : Value} (c0 : w.cell? ⟨b, 0, none⟩ = some v0) (c1 : w.cell? ⟨b, 1, none⟩ = some v1) (c2 : w.cell? ⟨b, 2, none⟩ = some v2)
    (f0 : w.frozen? ⟨b, 0, none⟩ = false) (f1 : w.frozen? ⟨b, 1, none⟩ = false) (f2 : w.frozen? ⟨b, 2, none⟩ = false) (_hb : b ≠ 11) :
    Calls Tryz.prog 258 #[.pointer (some ⟨b, 0, none⟩), .int .i64 e, .int .i64 p, .int .i64 lp] w fun en w' => en = .returned (.tuple #[]) ∧ w' = ((w.setCell ⟨b, 0, none⟩ (.int .u64 hi)).setCell ⟨b, 1, none⟩ (.int .u64 lo)).setCell ⟨b, 2, none⟩ (.int .i64 (-(e + lp + 3))) := by
  go_enter Tryz.func258, Tryz.ntmps258
  go_wp2
  exact bodyPost_end (v := .tuple #[]) (by simp [results, Tryz.results258, go_sem]) rfl ⟨rfl, rfl⟩
end Go.Proofs.YtlodbibagmblkaaGreatDoor
namespace Go.Proofs.YtlodbibagmblkaaGreatDoor
open Go.RowKit
namespace Pl
def pw (p : Int) : Nat × Nat := (Pinned.pow10Rows[(p + 348).toNat]?).getD (0, 0)
def sh (e p : Int) : Nat := (-(e + p * 108853 / 32768 + 3)).toNat
/-- The number x times 2 to the e times 10 to the p, unrounded. -/
def scal (x : Nat) (e p : Int) : Nat := uscale x (pw p).1 (pw p).2 (sh e p)
theorem rows_ok : (Pinned.pow10Rows.length == 696 && Pinned.pow10Rows.all fun x => decide (9223372036854775808 ≤ x.1 ∧ x.1 < 18446744073709551616 ∧ x.2 < 18446744073709551616)) = true := by decide +kernel
theorem rows_len : Pinned.pow10Rows.length = 696 := by
  have := rows_ok; simp only [Bool.and_eq_true, beq_iff_eq] at this; exact this.1
theorem pw_some {p : Int} (h1 : -348 ≤ p) (h2 : p ≤ 347) : Pinned.pow10Rows[(p + 348).toNat]? = some (pw p) := by
  unfold pw
  have hl : (p + 348).toNat < Pinned.pow10Rows.length := by rw [rows_len]; omega
  rw [List.getElem?_eq_getElem hl]; rfl
theorem pw_ok {p : Int} (h1 : -348 ≤ p) (h2 : p ≤ 347) : 9223372036854775808 ≤ (pw p).1 ∧ (pw p).1 < 18446744073709551616 ∧ (pw p).2 < 18446744073709551616 := by
  have h := rows_ok
  simp only [Bool.and_eq_true, List.all_eq_true, decide_eq_true_eq] at h
  exact h.2 _ (List.mem_of_getElem? (pw_some h1 h2))
theorem uscale_lt {x hi lo s : Nat} (hs : 1 ≤ s) (hx : x < 18446744073709551616) (hhi : hi < 18446744073709551616) : uscale x hi lo s < 9223372036854775808 := by
  have hh : x * hi / 18446744073709551616 < 18446744073709551616 := Nat.div_lt_of_lt_mul (Nat.mul_lt_mul_of_lt_of_lt hx hhi)
  have key : ∀ a : Nat, a < 18446744073709551616 → a / 2 ^ s < 2 ^ 63 := by
    intro a ha
    have : 2 ≤ 2 ^ s := by
      have := Nat.pow_le_pow_right (show 0 < 2 by decide) hs
      simpa using this
    exact Nat.lt_of_le_of_lt (Nat.div_le_div_left this (by decide)) (by omega)
  have e63 : (9223372036854775808 : Nat) = 2 ^ 63 := by decide
  unfold uscale
  rw [e63]
  split
  · refine Nat.or_lt_two_pow (key _ (Nat.mod_lt _ (by decide))) ?_
    split <;> decide
  · exact Nat.or_lt_two_pow (key _ hh) (by decide)
theorem uscale_ge {x hi lo s : Nat} (hs : s ≤ 58) (hx : 4611686018427387904 ≤ x) (hx2 : x < 18446744073709551616) (hhi : 9223372036854775808 ≤ hi) (hhi2 : hi < 18446744073709551616) : 2 ≤ uscale x hi lo s := by
  have hh : x * hi / 18446744073709551616 < 18446744073709551616 := Nat.div_lt_of_lt_mul (Nat.mul_lt_mul_of_lt_of_lt hx2 hhi2)
  have hl : 4611686018427387904 * 9223372036854775808 ≤ x * hi := Nat.mul_le_mul hx hhi
  have hg : 2305843009213693952 ≤ x * hi / 18446744073709551616 := by
    rw [Nat.le_div_iff_mul_le (by decide)]; exact Nat.le_trans (by decide) hl
  have hp : 2 ^ s ≤ 288230376151711744 := by
    have := Nat.pow_le_pow_right (show 0 < 2 by decide) hs
    exact Nat.le_trans this (by decide)
  have hp0 : 0 < 2 ^ s := Nat.pow_pos (by decide)
  have key : ∀ a : Nat, 2305843009213693951 ≤ a → 2 ≤ a / 2 ^ s := by
    intro a ha
    rw [Nat.le_div_iff_mul_le hp0]; omega
  unfold uscale
  generalize x * hi / 18446744073709551616 = h at hh hg ⊢
  generalize x * hi % 18446744073709551616 = g
  generalize x * lo / 18446744073709551616 = k
  split
  · refine Nat.le_trans (key _ ?_) Nat.left_le_or
    split <;> omega
  · exact Nat.le_trans (key _ (by omega)) Nat.left_le_or
theorem scal_lt {x : Nat} {e p : Int} (h1 : -348 ≤ p) (h2 : p ≤ 347) (hs : 1 ≤ sh e p) (hx : x < 18446744073709551616) : scal x e p < 9223372036854775808 := uscale_lt hs hx (pw_ok h1 h2).2.1
theorem scal_ge {x : Nat} {e p : Int} (h1 : -348 ≤ p) (h2 : p ≤ 347) (hs : sh e p ≤ 58) (hx : 4611686018427387904 ≤ x) (hx2 : x < 18446744073709551616) : 2 ≤ scal x e p := uscale_ge hs hx hx2 (pw_ok h1 h2).1 (pw_ok h1 h2).2.1
/-- The tail of shortFloat: what is answered of the two bounds. -/
def sfTail (m mn mx odd : Nat) (e p : Int) : Nat × Int :=
  if (scal mn e p + odd + 3) / 4 ≤ (scal mx e p - odd) / 4 / 10 * 10 then ((scal mx e p - odd) / 4 / 10, -(p - 1))
  else if (scal mn e p + odd + 3) / 4 < (scal mx e p - odd) / 4 then ((scal m e p + 1 + scal m e p / 4 % 2) / 4, -p)
  else ((scal mn e p + odd + 3) / 4, -p)
def shortF (m : Nat) (e : Int) : Nat × Int :=
  if m = 9223372036854775808 ∧ -1085 < e then sfTail m (m - 512) (m + 1024) (m / 2048 % 2) e (-(((e + 11) * 631305 - 261663) / 2097152))
  else if -1085 ≤ e then sfTail m (m - 1024) (m + 1024) (m / 2048 % 2) e (-((e + 11) * 78913 / 262144))
  else sfTail m (m - 2 ^ (-1075 - e).toNat) (m + 2 ^ (-1075 - e).toNat) (m / 2 ^ (-1074 - e).toNat % 2) e 324
end Pl
/-- The table of powers of ten lies in memory. -/
def Tab (w : World) : Prop := ∀ (i hi lo : Nat), Pinned.pow10Rows[i]? = some (hi, lo) → w.cell? ⟨11, i * 2, none⟩ = some (.int .u64 hi) ∧ w.cell? ⟨11, i * 2 + 1, none⟩ = some (.int .u64 lo)
theorem Tab.at {w : World} (h : Tab w) {p : Int} (h1 : -348 ≤ p) (h2 : p ≤ 347) : w.cell? ⟨11, (p + 348).toNat * 2, none⟩ = some (.int .u64 (Pl.pw p).1) ∧ w.cell? ⟨11, (p + 348).toNat * 2 + 1, none⟩ = some (.int .u64 (Pl.pw p).2) := h _ _ _ (Pl.pw_some h1 h2)
theorem Tab.below {w w' : World} {B : Nat} (h : Tab w) (hb : Below B w w') (hB : 11 < B) : Tab w' := by
  intro i hi lo hr
  obtain ⟨a, b⟩ := h i hi lo hr
  exact ⟨by rw [hb.cell (p := ⟨11, i * 2, none⟩) hB]; exact a, by rw [hb.cell (p := ⟨11, i * 2 + 1, none⟩) hB]; exact b⟩
/-- A scaler lies in block b. -/
def Scaler (w : World) (b : Nat) (e p : Int) : Prop := w.cell? ⟨b, 0, none⟩ = some (.int .u64 (Pl.pw p).1) ∧ w.cell? ⟨b, 1, none⟩ = some (.int .u64 (Pl.pw p).2) ∧ w.cell? ⟨b, 2, none⟩ = some (.int .i64 (-(e + p * 108853 / 32768 + 3)))
theorem Scaler.drewN {w : World} {b : Nat} {e p : Int} (h : Scaler w b e p) (n : Nat) : Scaler (w.drewN n) b e p := by
  unfold Scaler at h ⊢; simpa using h
theorem prescale_tab (e p : Int) (b : Nat) (w : World) (he : -2000 ≤ e ∧ e ≤ 2000) (hp : -348 ≤ p ∧ p ≤ 347) (ht : Tab w)
    {v0 v1 v2 : Value} {T : TypeId} (c : w.heap[b]? = some (.cells #[v0, v1, v2] T (0, 0))) (hb : 11 < b) :
    Calls Tryz.prog 258 #[.pointer (some ⟨b, 0, none⟩), .int .i64 e, .int .i64 p, .int .i64 (p * 108853 / 32768)] w fun en w' => en = .returned (.tuple #[]) ∧ Scaler w' b e p ∧ Below b w w' ∧ w'.heap.size = w.heap.size := by
  have t := ht.at hp.1 hp.2
  have c0 : w.cell? ⟨b, 0, none⟩ = some v0 := by simp [World.cell?, c]
  have c1 : w.cell? ⟨b, 1, none⟩ = some v1 := by simp [World.cell?, c]
  have c2 : w.cell? ⟨b, 2, none⟩ = some v2 := by simp [World.cell?, c]
  refine (prescale_any e p _ b _ _ w he hp ⟨by omega, by omega⟩ t.1 t.2 c0 c1 c2 (by simp [World.frozen?, c]) (by simp [World.frozen?, c]) (by simp [World.frozen?, c]) (by omega)).mono ?_
  rintro en w' ⟨rfl, rfl⟩
  have n01 : (⟨b, 0, none⟩ : Addr) ≠ ⟨b, 1, none⟩ := by simp
  have n02 : (⟨b, 0, none⟩ : Addr) ≠ ⟨b, 2, none⟩ := by simp
  have n12 : (⟨b, 1, none⟩ : Addr) ≠ ⟨b, 2, none⟩ := by simp
  refine ⟨rfl, ⟨?_, ?_, ?_⟩, Below.setCell (Below.setCell (Below.setCell (Below.refl b w) (p := ⟨b, 0, none⟩) (Nat.le_refl b) _) (p := ⟨b, 1, none⟩) (Nat.le_refl b) _) (p := ⟨b, 2, none⟩) (Nat.le_refl b) _, by simp⟩
  · rw [World.cell?_setCell_other _ _ _ _ n02.symm, World.cell?_setCell_other _ _ _ _ n01.symm]
    exact World.cell?_setCell_same _ _ _ c0
  · rw [World.cell?_setCell_other _ _ _ _ n12.symm]
    exact World.cell?_setCell_same _ _ _ (u := v1) (by rw [World.cell?_setCell_other _ _ _ _ n01]; exact c1)
  · exact World.cell?_setCell_same _ _ _ (u := v2) (by rw [World.cell?_setCell_other _ _ _ _ n12, World.cell?_setCell_other _ _ _ _ n02]; exact c2)
theorem uscale_tab (x b : Nat) (e p : Int) (w : World) (hx : x < 18446744073709551616) (hp : -348 ≤ p ∧ p ≤ 347) (hs : 0 ≤ -(e + p * 108853 / 32768 + 3)) (hs2 : -(e + p * 108853 / 32768 + 3) < 64) (hc : Scaler w b e p) :
    Calls Tryz.prog 260 #[.int .u64 x, .pointer (some ⟨b, 0, none⟩)] w fun en w' => en = .returned (.int .u64 (Pl.scal x e p)) ∧ ∃ n, w' = w.drewN n := by
  have hk := Pl.pw_ok hp.1 hp.2
  refine uscale_any x _ _ (Pl.sh e p) b w hx hk.2.1 hk.2.2 (by unfold Pl.sh; omega) hc.1 hc.2.1 ?_
  rw [hc.2.2]; unfold Pl.sh
  rw [Int.toNat_of_nonneg hs]
end Go.Proofs.YtlodbibagmblkaaGreatDoor
namespace Go.Proofs.YtlodbibagmblkaaGreatDoor
open Go.RowKit
/-- The exact powers of ten, by their bits. -/
def Pl.f10 : List Nat := [4607182418800017408, 4621819117588971520, 4636737291354636288, 4652007308841189376, 4666723172467343360, 4681608360884174848, 4696837146684686336, 4711630319722168320, 4726483295884279808, 4741671816366391296, 4756540486875873280, 4771362005757984768, 4786511204640096256, 4801453603149578240, 4816244402031689728, 4831355200913801216, 4846369599423283200, 4861130398305394688, 4876203697187506176, 4891288408196988160, 4906019910204099648, 4921056587992461136, 4936209963552724370]
/-- how far to shift for a decimal point -/
def Pl.ptab : List Nat := [1, 3, 6, 9, 13, 16, 19, 23, 26]
/-- The variables of the library's own that are read. -/
structure Env (w : World) : Prop where
  size : 17 ≤ w.heap.size
  tab : Tab w
  p10 : Lib.TabIs Tryz.prog w "internal/strconv.uint64pow10" .u64 Lib.pow10Tab
  mlen : ∃ m : Int, w.cell? ⟨2, 0, none⟩ = some (.int .i64 m)
  opt : w.cell? ⟨3, 0, none⟩ = some (.bool true)
  info : w.cell? ⟨10, 0, none⟩ = some (.int .u64 52)
  info1 : w.cell? ⟨10, 1, none⟩ = some (.int .u64 11)
  info2 : w.cell? ⟨10, 2, none⟩ = some (.int .i64 (-1023))
  ptab : ∃ (a : Addr) (cap : Nat), w.cell? ⟨14, 0, none⟩ = some (.slice (some a) 9 cap) ∧ a.block < w.heap.size ∧ ∀ (i : Nat) (x : Nat), Pl.ptab[i]? = some x → w.cell? (a.add i) = some (.int .i64 (x : Nat))
  lch : ∃ (a : Addr) (cap : Nat), w.cell? ⟨12, 0, none⟩ = some (.slice (some a) 61 cap) ∧ a.block < w.heap.size ∧ ∀ (i : Nat) (x : Nat × List UInt8), Go.Pinned.cheatRows[i]? = some x → w.cell? (a.add (2 * i)) = some (.int .i64 (x.1 : Nat)) ∧ w.cell? (a.add (2 * i + 1)) = some (.string ⟨x.2.toArray⟩)
  f10 : ∃ (a : Addr) (cap : Nat), w.cell? ⟨15, 0, none⟩ = some (.slice (some a) 23 cap) ∧ a.block < w.heap.size ∧ ∀ i x, Pl.f10[i]? = some x → w.cell? (a.add i) = some (.float .f64 x)
  err : ∃ v, w.cell? ⟨5, 0, none⟩ = some v ∧ (v = .nilIface ∨ ∃ te pe, v = .iface te pe)
theorem add_block (a : Addr) (i : Nat) : (a.add i).block = a.block := by
  unfold Addr.add; split <;> rfl
theorem Env.below {w w' : World} (h : Env w) (hb : Below w.heap.size w w') : Env w' := by
  have hs := h.size
  have hc : ∀ g o, g < 17 → w'.cell? ⟨g, o, none⟩ = w.cell? ⟨g, o, none⟩ := fun g o hg => hb.cell (p := ⟨g, o, none⟩) (by show g < _; omega)
  refine ⟨Nat.le_trans hs hb.size, h.tab.below hb (by omega), Joins.tab_stays (g := 8) (by kernel_rfl) h.p10 hb (Nat.le_refl _), ?_, ?_, ?_, ?_, ?_, ?_, ?_, ?_, ?_⟩
  · obtain ⟨m, hm⟩ := h.mlen; exact ⟨m, by rw [hc _ _ (by omega)]; exact hm⟩
  · rw [hc _ _ (by omega)]; exact h.opt
  · rw [hc _ _ (by omega)]; exact h.info
  · rw [hc _ _ (by omega)]; exact h.info1
  · rw [hc _ _ (by omega)]; exact h.info2
  · obtain ⟨a, cap, h1, h2, h3⟩ := h.ptab
    exact ⟨a, cap, by rw [hc _ _ (by omega)]; exact h1, Nat.lt_of_lt_of_le h2 hb.size, fun i x hx => by rw [hb.cell (by rw [add_block]; exact h2)]; exact h3 i x hx⟩
  · obtain ⟨a, cap, h1, h2, h3⟩ := h.lch
    exact ⟨a, cap, by rw [hc _ _ (by omega)]; exact h1, Nat.lt_of_lt_of_le h2 hb.size, fun i x hx => ⟨by rw [hb.cell (by rw [add_block]; exact h2)]; exact (h3 i x hx).1, by rw [hb.cell (by rw [add_block]; exact h2)]; exact (h3 i x hx).2⟩⟩
  · obtain ⟨a, cap, h1, h2, h3⟩ := h.f10
    exact ⟨a, cap, by rw [hc _ _ (by omega)]; exact h1, Nat.lt_of_lt_of_le h2 hb.size, fun i x hx => by rw [hb.cell (by rw [add_block]; exact h2)]; exact h3 i x hx⟩
  · obtain ⟨v, h1, h2⟩ := h.err; exact ⟨v, by rw [hc _ _ (by omega)]; exact h1, h2⟩
end Go.Proofs.YtlodbibagmblkaaGreatDoor
