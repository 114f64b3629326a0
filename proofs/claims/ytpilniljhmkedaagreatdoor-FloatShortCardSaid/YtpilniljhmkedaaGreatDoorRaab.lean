/- Plain facts of floats of 64 bits (no program in sight): their order, their sums and products do not hang on order. Plain facts of rounding: the nearest float of a number hangs on the number alone; a float is the nearest of itself. Plain facts of scaling: the whole plain law of FloatScale. Plain facts for math.Ldexp: its steps come to the number scaled and rounded once. The small functions of floats: their contracts. Contracts of Go's library at this program's numbers, as the kit's shelf lays them (lay-shelf.mjs, lay-plain.mjs): cut to those that are used. Unrounded scaling: the contracts of uscale and its kin. -/
import Derived.Laws.FloatArith
import Derived.Test.YtpilniljhmkedaaGreatDoorProg
import Derived.Laws.Externs
import Derived.WalkKit
import Derived.WalkLawsBesides
import Derived.WalkSpells
import Derived.Lib.Hide
import Derived.Outline
import Derived.Shelf.Small.Bits
import Derived.Shelf.Bits.Mul64
import Derived.Shelf.LaysM
import Derived.Shelf.Strconv.Itoa1
import Derived.Shelf.Strconv.Itoa2
import Derived.Deep.QuietTactic
import Derived.BigQuiet
namespace Go.Proofs.YtpilniljhmkedaaGreatDoor.Fl
open Ieee
abbrev D : Format := Ieee.double
def isNan (a : Nat) : Bool := decide (9218868437227405312 < a % 9223372036854775808)
theorem read_eq (a : Nat) : D.read a =
    if a % 9223372036854775808 < 4503599627370496 then .number (a / 9223372036854775808 % 2 == 1) (a % 9223372036854775808) (-1074)
    else if a % 9223372036854775808 < 9218868437227405312 then .number (a / 9223372036854775808 % 2 == 1) (4503599627370496 + a % 9223372036854775808 % 4503599627370496) (-1074 + (a % 9223372036854775808 / 4503599627370496 - 1 : Nat))
    else if a % 9223372036854775808 = 9218868437227405312 then .infinity (a / 9223372036854775808 % 2 == 1)
    else .nan (a / 9223372036854775808 % 2 == 1) (a % 9223372036854775808 - 9218868437227405312) := rfl
/-- A datum that is no nan and whose places lie within a float's. -/
def Good : Datum → Prop
  | .number _ m i => -1074 ≤ i ∧ i ≤ 971 ∧ m < 9007199254740992
  | .infinity _ => True
  | .nan .. => False
theorem good_read {a : Nat} (h : isNan a = false) : Good (D.read a) := by
  rw [read_eq]
  have h' : ¬ 9218868437227405312 < a % 9223372036854775808 := by simpa [isNan] using h
  split
  · simp only [Good]; omega
  · split
    · simp only [Good]
      have : a % 9223372036854775808 / 4503599627370496 ≤ 2046 := by omega
      omega
    · split
      · trivial
      · omega
theorem nan_read {a : Nat} (h : isNan a = true) : ∃ s f, D.read a = .nan s f := by
  have h' : 9218868437227405312 < a % 9223372036854775808 := by simpa [isNan] using h
  rw [read_eq, if_neg (by omega), if_neg (by omega), if_neg (by omega)]
  exact ⟨_, _, rfl⟩
/-- The number, times 2 to the 1074. -/
def val : Datum → Int
  | .number s m i => signed s m (i + 1074).toNat
  | .infinity s => signed s 1 2200
  | .nan .. => 0
theorem signed_mul (s : Bool) (m u k : Nat) : signed s m u * (2 ^ k : Nat) = signed s m (u + k) := by
  unfold signed
  rw [Nat.shiftLeft_eq, Nat.shiftLeft_eq, Nat.pow_add, ← Nat.mul_assoc]
  cases s
  · simp
  · simp [Int.neg_mul]
theorem signed_opp (s : Bool) (m u : Nat) : signed (!s) m u = - signed s m u := by cases s <;> simp [signed]
theorem val_opp (d : Datum) : val d.opposite = - val d := by cases d <;> simp [val, Datum.opposite, signed_opp]
theorem good_opp {d : Datum} (h : Good d) : Good d.opposite := by cases d <;> exact h
theorem compare_mul (x y : Int) (k : Nat) : compare (x * (2 ^ k : Nat)) (y * (2 ^ k : Nat)) = compare x y := by
  have hp : (0 : Int) < (2 ^ k : Nat) := by exact_mod_cast Nat.two_pow_pos k
  have h1 : x * (2 ^ k : Nat) < y * (2 ^ k : Nat) ↔ x < y := ⟨fun h => Int.lt_of_mul_lt_mul_right h (Int.le_of_lt hp), fun h => Int.mul_lt_mul_of_pos_right h hp⟩
  have h2 : x * (2 ^ k : Nat) = y * (2 ^ k : Nat) ↔ x = y := ⟨fun h => Int.eq_of_mul_eq_mul_right (Int.ne_of_gt hp) h, fun h => by rw [h]⟩
  simp only [compare, compareOfLessAndEq, h1, h2]
theorem signed_lt {m u : Nat} (s : Bool) (hm : m < 9007199254740992) (hu : u ≤ 2045) : signed s m u < signed false 1 2200 ∧ signed true 1 2200 < signed s m u := by
  have h1 : m * 2 ^ u < 2 ^ 2200 := by
    calc m * 2 ^ u ≤ 9007199254740992 * 2 ^ u := Nat.mul_le_mul_right _ (by omega)
      _ ≤ 9007199254740992 * 2 ^ 2045 := Nat.mul_le_mul_left _ (Nat.pow_le_pow_right (by omega) hu)
      _ < 2 ^ 2200 := by decide +kernel
  unfold signed
  rw [Nat.shiftLeft_eq, Nat.shiftLeft_eq]
  generalize 2 ^ 2200 = B at *
  generalize m * 2 ^ u = v at *
  cases s <;> simp <;> omega
theorem cmp_lt {x y : Int} (h : x < y) : compare x y = .lt := by simp [compare, compareOfLessAndEq, h]
theorem cmp_gt {x y : Int} (h : y < x) : compare x y = .gt := by
  simp only [compare, compareOfLessAndEq]; rw [if_neg (by omega), if_neg (by omega)]
theorem cmp_eq (x : Int) : compare x x = .eq := by simp [compare, compareOfLessAndEq]
theorem order_val {d e : Datum} (hd : Good d) (he : Good e) : d.order e = some (compare (val d) (val e)) := by
  cases d with
  | nan => exact hd.elim
  | infinity s =>
    cases e with
    | nan => exact he.elim
    | infinity t =>
      simp only [Datum.order, val]
      cases s <;> cases t <;> simp only [Bool.toNat]
      · rw [cmp_eq]; rfl
      · rw [cmp_gt (by decide +kernel)]; rfl
      · rw [cmp_lt (by decide +kernel)]; rfl
      · rw [cmp_eq]; rfl
    | number t n j =>
      obtain ⟨h1, h2, h3⟩ := he
      have := signed_lt t h3 (u := (j + 1074).toNat) (by omega)
      simp only [Datum.order, val]
      cases s
      · rw [cmp_gt this.1]; rfl
      · rw [cmp_lt this.2]; rfl
  | number s m i =>
    obtain ⟨h1, h2, h3⟩ := hd
    cases e with
    | nan => exact he.elim
    | infinity t =>
      have := signed_lt s h3 (u := (i + 1074).toNat) (by omega)
      simp only [Datum.order, val]
      cases t
      · rw [cmp_lt this.1]; rfl
      · rw [cmp_gt this.2]; rfl
    | number t n j =>
      obtain ⟨k1, k2, k3⟩ := he
      simp only [Datum.order, val]
      rw [← compare_mul _ _ (min i j + 1074).toNat, signed_mul, signed_mul]
      have e1 : (i - min i j).toNat + (min i j + 1074).toNat = (i + 1074).toNat := by omega
      have e2 : (j - min i j).toNat + (min i j + 1074).toNat = (j + 1074).toNat := by omega
      rw [e1, e2]
theorem order_nan_left {a : Nat} (b : Nat) (h : isNan a = true) : D.order a b = none := by
  obtain ⟨s, f, e⟩ := nan_read h
  simp [Format.order, e, Datum.order]
theorem order_nan_right (a : Nat) {b : Nat} (h : isNan b = true) : D.order a b = none := by
  obtain ⟨s, f, e⟩ := nan_read h
  cases hx : D.read a <;> simp [Format.order, e, hx, Datum.order]
theorem order_key {a b : Nat} (ha : isNan a = false) (hb : isNan b = false) : D.order a b = some (compare (val (D.read a)) (val (D.read b))) := order_val (good_read ha) (good_read hb)
/-- The sign turned. -/
theorem xor_low {a : Nat} (h : a < 9223372036854775808) : a ^^^ 9223372036854775808 = 9223372036854775808 + a := by
  have e : (9223372036854775808 : Nat) = 2 ^ 63 := by decide
  rw [e] at h ⊢
  refine Nat.eq_of_testBit_eq fun j => ?_
  rw [Nat.testBit_xor, Nat.testBit_two_pow]
  rcases Nat.lt_trichotomy j 63 with hj | hj | hj
  · rw [Nat.testBit_two_pow_add_gt hj]
    have : ¬ 63 = j := by omega
    simp [this]
  · subst hj
    rw [Nat.testBit_two_pow_add_eq, Nat.testBit_lt_two_pow h]; rfl
  · have hp : (2 : Nat) ^ 64 ≤ 2 ^ j := Nat.pow_le_pow_right (by omega) (by omega)
    have h64 : (2 : Nat) ^ 64 = 2 ^ 63 + 2 ^ 63 := by decide
    rw [Nat.testBit_lt_two_pow (show a < 2 ^ j by omega), Nat.testBit_lt_two_pow (show 2 ^ 63 + a < 2 ^ j by omega)]
    have : ¬ 63 = j := by omega
    simp [this]
theorem xor_high {a : Nat} (h : 9223372036854775808 ≤ a) (h2 : a < 18446744073709551616) : a ^^^ 9223372036854775808 = a - 9223372036854775808 := by
  have e : a = (a - 9223372036854775808) ^^^ 9223372036854775808 := by rw [xor_low (by omega)]; omega
  conv => lhs; rw [e]
  rw [Nat.xor_assoc, Nat.xor_self, Nat.xor_zero]
theorem xor_mod {a : Nat} (h : a < 18446744073709551616) : (a ^^^ 9223372036854775808) % 9223372036854775808 = a % 9223372036854775808 ∧ ((a ^^^ 9223372036854775808) / 9223372036854775808 % 2 == 1) = !(a / 9223372036854775808 % 2 == 1) ∧ (a ^^^ 9223372036854775808) < 18446744073709551616 := by
  rcases Nat.lt_or_ge a 9223372036854775808 with h1 | h1
  · rw [xor_low h1]
    refine ⟨by omega, ?_, by omega⟩
    have e1 : (9223372036854775808 + a) / 9223372036854775808 % 2 = 1 := by omega
    have e2 : a / 9223372036854775808 % 2 = 0 := by omega
    rw [e1, e2]; rfl
  · rw [xor_high h1 h]
    refine ⟨by omega, ?_, by omega⟩
    have e1 : (a - 9223372036854775808) / 9223372036854775808 % 2 = 0 := by omega
    have e2 : a / 9223372036854775808 % 2 = 1 := by omega
    rw [e1, e2]; rfl
theorem read_xor {a : Nat} (h : a < 18446744073709551616) : D.read (a ^^^ 9223372036854775808) = (D.read a).opposite := by
  obtain ⟨e1, e2, _⟩ := xor_mod h
  rw [read_eq, read_eq, e1, e2]
  split
  · rfl
  · split
    · rfl
    · split <;> rfl
theorem isNan_xor {a : Nat} (h : a < 18446744073709551616) : isNan (a ^^^ 9223372036854775808) = isNan a := by
  unfold isNan; rw [(xor_mod h).1]
def none' : Nat := 9221120237041090560
theorem none_nan : isNan none' = true := by decide
/-- The bits of an answer: all that is no number is one. -/
def told (a : Nat) : Nat := if isNan a then none' else a
/-- What an operation answers. -/
def ans : Option Nat → Nat
  | some r => r
  | none => none'
def fneg (a : Nat) : Nat := told (a ^^^ 9223372036854775808)
def fadd (a b : Nat) : Nat := ans (D.add a b)
def fsub (a b : Nat) : Nat := ans (D.sub a b)
def fmul (a b : Nat) : Nat := ans (D.mul a b)
def fdiv (a b : Nat) : Nat := ans (D.div a b)
def fsqrt (a : Nat) : Nat := ans (D.sqrt a)
theorem word_not_nan (s : Bool) {r : Nat} (h : r ≤ 9218868437227405312) : isNan (D.word s r) = false := by
  have e : D.word s r % 9223372036854775808 = r := by
    unfold Format.word
    have : D.signWeight = 9223372036854775808 := by decide
    rw [this]
    split <;> omega
  unfold isNan; rw [e]; simpa using h
theorem nearest_not_nan (s : Bool) (m : Nat) (i : Int) : isNan (D.nearest s m i) = false := by
  unfold Format.nearest
  have : D.infRung = 9218868437227405312 := by decide
  split
  · exact word_not_nan s (by omega)
  · exact word_not_nan s (by rw [this]; exact Nat.min_le_right ..)
theorem write_not_nan {d : Datum} (h : d.isNaN = false) : isNan (D.write d) = false := by
  cases d with
  | number s m i => exact nearest_not_nan s m i
  | infinity s => exact word_not_nan s (by decide)
  | nan s f => simp [Datum.isNaN] at h
theorem sum_not_nan {d e r : Datum} (h : d.sum e = some r) : r.isNaN = false := by
  cases d <;> cases e <;> simp only [Datum.sum, reduceCtorEq, Option.some.injEq] at h
  · subst h; rfl
  · subst h; rfl
  · subst h; rfl
  · split at h
    · cases h; rfl
    · cases h
theorem product_not_nan {d e r : Datum} (h : d.product e = some r) : r.isNaN = false := by
  cases d <;> cases e <;> simp only [Datum.product, reduceCtorEq, Option.some.injEq] at h
  · subst h; rfl
  · split at h
    · cases h
    · cases h; rfl
  · split at h
    · cases h
    · cases h; rfl
  · subst h; rfl
theorem quotient_not_nan {g : Nat} {d e r : Datum} (h : d.quotient g e = some r) : r.isNaN = false := by
  cases d <;> cases e <;> simp only [Datum.quotient, reduceCtorEq, Option.some.injEq] at h
  · split at h
    · split at h
      · cases h
      · cases h; rfl
    · cases h; rfl
  · subst h; rfl
  · subst h; rfl
theorem root_not_nan {g : Nat} {d r : Datum} (h : d.root g = some r) : r.isNaN = false := by
  cases d <;> simp only [Datum.root, reduceCtorEq] at h
  · split at h
    · cases h; rfl
    · split at h
      · cases h
      · cases h; rfl
  · split at h
    · cases h
    · cases h; rfl
theorem add_not_nan {a b r : Nat} (h : D.add a b = some r) : isNan r = false := by
  obtain ⟨d, hd, rfl⟩ := Option.map_eq_some_iff.1 h
  exact write_not_nan (sum_not_nan hd)
theorem sub_not_nan {a b r : Nat} (h : D.sub a b = some r) : isNan r = false := by
  obtain ⟨d, hd, rfl⟩ := Option.map_eq_some_iff.1 h
  exact write_not_nan (sum_not_nan hd)
theorem mul_not_nan {a b r : Nat} (h : D.mul a b = some r) : isNan r = false := by
  obtain ⟨d, hd, rfl⟩ := Option.map_eq_some_iff.1 h
  exact write_not_nan (product_not_nan hd)
theorem div_not_nan {a b r : Nat} (h : D.div a b = some r) : isNan r = false := by
  obtain ⟨d, hd, rfl⟩ := Option.map_eq_some_iff.1 h
  exact write_not_nan (quotient_not_nan hd)
theorem sqrt_not_nan {a r : Nat} (h : D.sqrt a = some r) : isNan r = false := by
  obtain ⟨d, hd, rfl⟩ := Option.map_eq_some_iff.1 h
  exact write_not_nan (root_not_nan hd)
theorem sum_comm (d e : Datum) : d.sum e = e.sum d := by
  cases d with
  | nan => cases e <;> rfl
  | infinity s =>
    cases e with
    | nan => rfl
    | number => rfl
    | infinity t => cases s <;> cases t <;> rfl
  | number s m i =>
    cases e with
    | nan => rfl
    | infinity => rfl
    | number t n j =>
      simp only [Datum.sum]
      rw [Int.min_comm, Int.add_comm, Bool.and_comm]
theorem product_comm (d e : Datum) : d.product e = e.product d := by
  cases d with
  | nan => cases e <;> rfl
  | infinity s =>
    cases e with
    | nan => rfl
    | number t n j => rfl
    | infinity t => simp only [Datum.product]; rw [Bool.xor_comm]
  | number s m i =>
    cases e with
    | nan => rfl
    | infinity => rfl
    | number t n j => simp only [Datum.product]; rw [Bool.xor_comm, Nat.mul_comm, Int.add_comm]
theorem fadd_comm (a b : Nat) : fadd a b = fadd b a := by unfold fadd Format.add; rw [sum_comm]
theorem fmul_comm (a b : Nat) : fmul a b = fmul b a := by unfold fmul Format.mul; rw [product_comm]
theorem sum_nan (d : Datum) (s : Bool) (f : Nat) : d.sum (.nan s f) = none := by cases d <;> rfl
theorem fsub_eq (a : Nat) {b : Nat} (h : b < 18446744073709551616) : fsub a b = fadd a (fneg b) := by
  unfold fsub fadd Format.sub Format.add fneg told
  rw [isNan_xor h]
  cases hb : isNan b
  · rw [if_neg (by simp), read_xor h]
  · obtain ⟨s, f, e⟩ := nan_read hb
    obtain ⟨s', f', e'⟩ := nan_read none_nan
    rw [if_pos rfl, e, e', sum_nan]
    show ans (Option.map _ (Datum.sum _ (.nan (!s) f))) = _
    rw [sum_nan]
/-- The comparison. -/
def fcmp (a b : Nat) : Int × Bool :=
  match D.order a b with
  | some .lt => (-1, true)
  | some .gt => (1, true)
  | some .eq => (0, true)
  | none => (0, false)
def ordInt : Ordering → Int
  | .lt => -1
  | .eq => 0
  | .gt => 1
theorem fcmp_nan {a b : Nat} (h : isNan a = true ∨ isNan b = true) : fcmp a b = (0, false) := by
  unfold fcmp
  rcases h with h | h
  · rw [order_nan_left b h]
  · rw [order_nan_right a h]
theorem fcmp_key {a b : Nat} (ha : isNan a = false) (hb : isNan b = false) : fcmp a b = (ordInt (compare (val (D.read a)) (val (D.read b))), true) := by
  unfold fcmp
  rw [order_key ha hb]
  cases compare (val (D.read a)) (val (D.read b)) <;> rfl
theorem ordInt_spec (x y : Int) : (x < y ∧ ordInt (compare x y) = -1) ∨ (x = y ∧ ordInt (compare x y) = 0) ∨ (y < x ∧ ordInt (compare x y) = 1) := by
  rcases Int.lt_trichotomy x y with h | h | h
  · exact .inl ⟨h, by rw [cmp_lt h]; rfl⟩
  · exact .inr (.inl ⟨h, by rw [h, cmp_eq]; rfl⟩)
  · exact .inr (.inr ⟨h, by rw [cmp_gt h]; rfl⟩)
theorem fneg_key {a : Nat} (h : a < 18446744073709551616) (ha : isNan a = false) : isNan (fneg a) = false ∧ val (D.read (fneg a)) = - val (D.read a) := by
  have e : fneg a = a ^^^ 9223372036854775808 := by unfold fneg told; rw [isNan_xor h, ha]; rfl
  rw [e, isNan_xor h, read_xor h, val_opp]
  exact ⟨ha, rfl⟩
theorem fneg_nan {a : Nat} (h : a < 18446744073709551616) (ha : isNan a = true) : isNan (fneg a) = true := by
  have e : fneg a = none' := by unfold fneg told; rw [isNan_xor h, ha]; rfl
  rw [e]; exact none_nan
theorem fcmp_is (a b : Nat) : (fcmp a b).2 = !(isNan a || isNan b) := by
  cases ha : isNan a
  · cases hb : isNan b
    · rw [fcmp_key ha hb]; rfl
    · rw [fcmp_nan (.inr hb)]; rfl
  · rw [fcmp_nan (.inl ha)]; rfl
theorem fcmp_turn (a b : Nat) : fcmp b a = (-(fcmp a b).1, (fcmp a b).2) := by
  cases ha : isNan a
  · cases hb : isNan b
    · rw [fcmp_key ha hb, fcmp_key hb ha]
      have h1 := ordInt_spec (val (D.read a)) (val (D.read b))
      have h2 := ordInt_spec (val (D.read b)) (val (D.read a))
      refine Prod.ext ?_ rfl
      simp only
      omega
    · rw [fcmp_nan (.inr hb), fcmp_nan (.inl hb)]; rfl
  · rw [fcmp_nan (.inl ha), fcmp_nan (.inr ha)]; rfl
theorem fcmp_neg {a b : Nat} (ka : a < 18446744073709551616) (kb : b < 18446744073709551616) : fcmp (fneg b) (fneg a) = fcmp a b := by
  cases ha : isNan a
  · cases hb : isNan b
    · obtain ⟨na, va⟩ := fneg_key ka ha
      obtain ⟨nb, vb⟩ := fneg_key kb hb
      rw [fcmp_key ha hb, fcmp_key nb na, va, vb]
      have h1 := ordInt_spec (val (D.read a)) (val (D.read b))
      have h2 := ordInt_spec (-val (D.read b)) (-val (D.read a))
      refine Prod.ext ?_ rfl
      simp only
      omega
    · rw [fcmp_nan (.inr hb), fcmp_nan (.inl (fneg_nan kb hb))]
  · rw [fcmp_nan (.inl ha), fcmp_nan (.inr (fneg_nan ka ha))]
theorem fcmp_trans {a b c : Nat} (h1 : (fcmp a b).2 = true) (h2 : (fcmp b c).2 = true) (k1 : (fcmp a b).1 ≤ 0) (k2 : (fcmp b c).1 ≤ 0) : (fcmp a c).1 ≤ 0 := by
  rw [fcmp_is] at h1 h2
  have ha : isNan a = false := by cases h : isNan a <;> simp_all
  have hb : isNan b = false := by cases h : isNan b <;> simp_all
  have hc : isNan c = false := by cases h : isNan c <;> simp_all
  rw [fcmp_key ha hb] at k1
  rw [fcmp_key hb hc] at k2
  rw [fcmp_key ha hc]
  have h1 := ordInt_spec (val (D.read a)) (val (D.read b))
  have h2 := ordInt_spec (val (D.read b)) (val (D.read c))
  have h3 := ordInt_spec (val (D.read a)) (val (D.read c))
  simp only at *
  omega
end Go.Proofs.YtpilniljhmkedaaGreatDoor.Fl
namespace Go.Proofs.YtpilniljhmkedaaGreatDoor.Fl
open Ieee
/-- Rounded to the nearest, without the bound on what is dropped. -/
def cutS (n d : Nat) : Nat := n / 2 ^ d + (decide (2 ^ d < 2 * (n % 2 ^ d)) || (2 ^ d == 2 * (n % 2 ^ d) && n / 2 ^ d % 2 == 1)).toNat
theorem cut_eq (s : Bool) (n d : Nat) : Toward.even.cut s n d = cutS n d := by
  unfold Toward.cut cutS
  simp only [Nat.shiftLeft_eq, Nat.one_mul]
  rcases Nat.lt_or_ge d (n.log2 + 2) with h | h
  · rw [Nat.min_eq_left (by omega)]
  · rw [Nat.min_eq_right h]
    have h1 : n < 2 ^ (n.log2 + 1) := Nat.lt_log2_self
    have h2 : 2 ^ (n.log2 + 2) = 2 * 2 ^ (n.log2 + 1) := by rw [Nat.pow_succ, Nat.mul_comm]
    have h3 : 2 ^ (n.log2 + 2) ≤ 2 ^ d := Nat.pow_le_pow_right (by omega) h
    generalize 2 ^ (n.log2 + 2) = A at *
    generalize 2 ^ (n.log2 + 1) = B at *
    generalize 2 ^ d = C at *
    rw [Nat.div_eq_of_lt (show n < A by omega), Nat.div_eq_of_lt (show n < C by omega), Nat.mod_eq_of_lt (show n < A by omega), Nat.mod_eq_of_lt (show n < C by omega)]
    have e1 : decide (A < 2 * n) = false := by simp; omega
    have e2 : decide (C < 2 * n) = false := by simp; omega
    rw [e1, e2]
    simp
theorem cutS_scale (n d k : Nat) : cutS (n * 2 ^ k) (d + k) = cutS n d := by
  unfold cutS
  have hk : 0 < 2 ^ k := Nat.two_pow_pos k
  rw [Nat.pow_add, Nat.mul_div_mul_right _ _ hk, Nat.mul_mod_mul_right]
  generalize hr : n % 2 ^ d = r
  generalize hq : n / 2 ^ d = q
  generalize 2 ^ d = C
  generalize 2 ^ k = K at hk
  have e1 : (C * K < 2 * (r * K)) ↔ C < 2 * r := by rw [← Nat.mul_assoc]; exact Nat.mul_lt_mul_right hk
  have e2 : (C * K = 2 * (r * K)) ↔ C = 2 * r := by rw [← Nat.mul_assoc]; exact ⟨fun h => Nat.eq_of_mul_eq_mul_right hk h, fun h => by rw [h]⟩
  have e3 : (C * K == 2 * (r * K)) = (C == 2 * r) := by rw [Bool.eq_iff_iff]; simp [e2]
  rw [e3]
  simp only [e1]
theorem cutS_zero (n : Nat) : cutS n 0 = n := by
  unfold cutS
  simp [Nat.mod_one]
theorem log2_mul_pow {m : Nat} (h : m ≠ 0) (k : Nat) : (m * 2 ^ k).log2 = m.log2 + k := by
  have h1 := Nat.log2_self_le h
  have h2 : m < 2 ^ (m.log2 + 1) := Nat.lt_log2_self
  have hk : 0 < 2 ^ k := Nat.two_pow_pos k
  have hne : m * 2 ^ k ≠ 0 := Nat.mul_ne_zero h (by omega)
  refine Nat.le_antisymm ?_ ?_
  · have : m * 2 ^ k < 2 ^ (m.log2 + k + 1) := by
      rw [show m.log2 + k + 1 = (m.log2 + 1) + k by omega, Nat.pow_add]
      exact Nat.mul_lt_mul_of_pos_right h2 hk
    have := (Nat.log2_lt hne).2 this
    omega
  · refine (Nat.le_log2 hne).2 ?_
    rw [Nat.pow_add]
    exact Nat.mul_le_mul_right _ h1
/-- The last place that is kept. -/
def lastOf (m : Nat) (i : Int) : Int := max (i + m.log2 - 52) (-1074)
theorem nearest_eq (s : Bool) {m : Nat} (h : m ≠ 0) (i : Int) : D.nearest s m i = D.word s (min ((lastOf m i + 1074).toNat * 4503599627370496 + cutS (m * 2 ^ (i - lastOf m i).toNat) (lastOf m i - i).toNat) 9218868437227405312) := by
  unfold Format.nearest
  rw [if_neg h]
  simp only [cut_eq, Nat.shiftLeft_eq]
  rfl
/-- The same number with other places. -/
theorem nearest_scale (s : Bool) (m k : Nat) (i : Int) : D.nearest s (m * 2 ^ k) i = D.nearest s m (i + k) := by
  rcases Nat.eq_zero_or_pos m with h | h
  · subst h; simp [Format.nearest]
  have hm : m ≠ 0 := by omega
  have hk : 0 < 2 ^ k := Nat.two_pow_pos k
  have hmk : m * 2 ^ k ≠ 0 := Nat.mul_ne_zero hm (by omega)
  rw [nearest_eq s hmk, nearest_eq s hm]
  have hl : lastOf (m * 2 ^ k) i = lastOf m (i + k) := by unfold lastOf; rw [log2_mul_pow hm]; push_cast; congr 1; omega
  rw [hl]
  generalize lastOf m (i + k) = l
  congr 3
  rcases Int.lt_or_le i l with h1 | h1
  · rcases Int.lt_or_le (i + k) l with h2 | h2
    · have e1 : (i - l).toNat = 0 := by omega
      have e2 : (i + k - l).toNat = 0 := by omega
      have e3 : (l - i).toNat = (l - (i + k)).toNat + k := by omega
      rw [e1, e2, e3, Nat.pow_zero, Nat.mul_one, Nat.mul_one, cutS_scale]
    · have e1 : (i - l).toNat = 0 := by omega
      have e2 : (l - (i + k)).toNat = 0 := by omega
      have e3 : k = (i + k - l).toNat + (l - i).toNat := by omega
      rw [e1, e2, Nat.pow_zero, Nat.mul_one, cutS_zero]
      generalize (i + k - l).toNat = x at *
      generalize (l - i).toNat = y at *
      subst e3
      rw [Nat.pow_add, ← Nat.mul_assoc]
      have := cutS_scale (m * 2 ^ x) 0 y
      rw [Nat.zero_add] at this
      rw [this, cutS_zero]
  · have e1 : (l - i).toNat = 0 := by omega
    have e2 : (l - (i + k)).toNat = 0 := by omega
    have e3 : (i + k - l).toNat = k + (i - l).toNat := by omega
    rw [e1, e2, e3, cutS_zero, cutS_zero, Nat.pow_add, Nat.mul_assoc]
/-- A number that a float has is written as it stands. -/
theorem nearest_exact (s : Bool) {m : Nat} {i : Int} (hi : -1074 ≤ i) (h : m < 9007199254740992) (hn : 4503599627370496 ≤ m ∨ i = -1074) (hi2 : i ≤ 971) : D.nearest s m i = D.word s ((i + 1074).toNat * 4503599627370496 + m) := by
  rcases Nat.eq_zero_or_pos m with h0 | h0
  · subst h0
    have : i = -1074 := by omega
    subst this
    unfold Format.nearest
    rw [if_pos rfl]
    congr 1
  have hm : m ≠ 0 := by omega
  rw [nearest_eq s hm]
  have hl : lastOf m i = i := by
    unfold lastOf
    have h2 : m.log2 < 53 := (Nat.log2_lt hm).2 (by simpa using h)
    rcases hn with hn | hn
    · have h1 : 52 ≤ m.log2 := (Nat.le_log2 hm).2 (by simpa using hn)
      omega
    · omega
  rw [hl, Int.sub_self]
  simp only [Int.toNat_zero, Nat.pow_zero, Nat.mul_one, cutS_zero]
  congr 1
  refine Nat.min_eq_left ?_
  have h3 : (i + 1074).toNat * 4503599627370496 ≤ 9209861237972664320 := by
    have h4 : (i + 1074).toNat ≤ 2045 := by omega
    generalize (i + 1074).toNat = z at h4 ⊢
    omega
  clear hi hi2 hn hl
  generalize (i + 1074).toNat * 4503599627370496 = z at h3 ⊢
  omega
theorem word_of {a : Nat} (h : a < 18446744073709551616) : D.word (a / 9223372036854775808 % 2 == 1) (a % 9223372036854775808) = a := by
  unfold Format.word
  have : D.signWeight = 9223372036854775808 := by decide
  rw [this]
  by_cases h1 : a < 9223372036854775808
  · have : a / 9223372036854775808 % 2 = 0 := by omega
    rw [this]; simp; omega
  · have : a / 9223372036854775808 % 2 = 1 := by omega
    rw [this]; simp; omega
theorem write_read {a : Nat} (h : a < 18446744073709551616) (hn : isNan a = false) : D.write (D.read a) = a := by
  have h' : ¬ 9218868437227405312 < a % 9223372036854775808 := by simpa [isNan] using hn
  refine Eq.trans ?_ (word_of h)
  rw [read_eq]
  generalize (a / 9223372036854775808 % 2 == 1) = s
  generalize a % 9223372036854775808 = r at *
  split
  · refine (nearest_exact s (by omega) (by omega) (.inr rfl) (by omega)).trans ?_
    congr 1; simp
  · split
    · refine (nearest_exact s (by omega) (by omega) (.inl (by omega)) (by omega)).trans ?_
      congr 1
      omega
    · split
      · rename_i e; rw [e]; rfl
      · omega
end Go.Proofs.YtpilniljhmkedaaGreatDoor.Fl
namespace Go.Proofs.YtpilniljhmkedaaGreatDoor.Fl
open Ieee
/-- The power of two of the first bit; none of nought, infinity and no number. -/
def fexp (a : Nat) : Option Int :=
  if a % 9223372036854775808 = 0 ∨ 9218868437227405312 ≤ a % 9223372036854775808 then none
  else if a % 9223372036854775808 / 4503599627370496 = 0 then some (((a % 9223372036854775808).log2 : Nat) - 1074 : Int)
  else some ((a % 9223372036854775808 / 4503599627370496 : Nat) - 1023 : Int)
def scaled (k : Int) : Datum → Datum
  | .number s m i => .number s m (i + k)
  | d => d
/-- A float times a power of two, rounded once. -/
def fldexp (a : Nat) (k : Int) : Nat := if isNan a then a else D.write (scaled k (D.read a))
def clamp (k : Int) : Int := max (min k 3000) (-3000)
def fscale (a : Nat) (k : Int) : Nat := told (fldexp a (clamp k))
theorem scaled_not_nan {k : Int} {d : Datum} (h : Good d) : (scaled k d).isNaN = false := by cases d <;> first | rfl | exact h.elim
theorem fldexp_not_nan {a : Nat} (k : Int) (h : isNan a = false) : isNan (fldexp a k) = false := by
  unfold fldexp; rw [h]; exact write_not_nan (scaled_not_nan (good_read h))
theorem fscale_eq {a : Nat} (k : Int) (h : isNan a = false) : fscale a k = D.write (scaled (clamp k) (D.read a)) := by
  unfold fscale told; rw [fldexp_not_nan _ h]; unfold fldexp; rw [h]; rfl
theorem fexp_some {a : Nat} {n : Int} (h : fexp a = some n) : isNan a = false ∧ a % 9223372036854775808 ≠ 0 ∧ a % 9223372036854775808 < 9218868437227405312 := by
  unfold fexp at h
  split at h
  · cases h
  · rename_i hh
    refine ⟨?_, by omega, by omega⟩
    unfold isNan; simp; omega
/-- What a number reads as. -/
theorem read_number {a : Nat} (h0 : a % 9223372036854775808 ≠ 0) (h1 : a % 9223372036854775808 < 9218868437227405312) :
    ∃ m : Nat, ∃ i : Int, D.read a = .number (a / 9223372036854775808 % 2 == 1) m i ∧ m ≠ 0 ∧ m < 9007199254740992 ∧ -1074 ≤ i ∧ i ≤ 971 ∧ (4503599627370496 ≤ m ∨ i = -1074) ∧ (4503599627370496 ≤ a % 9223372036854775808 → 4503599627370496 ≤ m ∧ i = (a % 9223372036854775808 / 4503599627370496 : Nat) - 1075) := by
  rw [read_eq]
  generalize a % 9223372036854775808 = r at *
  split
  · exact ⟨_, _, rfl, h0, by omega, by omega, by omega, .inr rfl, fun h => by omega⟩
  · exact ⟨_, _, rfl, by omega, by omega, by omega, by omega, .inl (by omega), fun _ => ⟨by omega, by omega⟩⟩
theorem double_law {a : Nat} {n : Int} (h : fexp a = some n) : fscale a 1 = fadd a a := by
  obtain ⟨hn, h0, h1⟩ := fexp_some h
  obtain ⟨m, i, hr, hm, _⟩ := read_number h0 h1
  rw [fscale_eq _ hn]
  unfold fadd Format.add
  rw [hr]
  generalize (a / 9223372036854775808 % 2 == 1) = s
  have hc : clamp 1 = 1 := by decide
  rw [hc]
  show D.nearest s m (i + 1) = ans (some (D.nearest _ _ _))
  have e0 : (i - min i i).toNat = 0 := by omega
  have e1 : min i i = i := by omega
  have e2 : (signed s m 0 + signed s m 0).natAbs = m * 2 ^ 1 := by cases s <;> simp [signed] <;> omega
  have e3 : ¬ signed s m 0 + signed s m 0 = 0 := by cases s <;> simp [signed] <;> omega
  have e4 : decide (signed s m 0 + signed s m 0 < 0) = s := by cases s <;> simp [signed] <;> omega
  rw [e0, e1, e2, if_neg e3, e4, nearest_scale]
  rfl
theorem word_mod (s : Bool) {r : Nat} (h : r < 9223372036854775808) : D.word s r % 9223372036854775808 = r ∧ (D.word s r / 9223372036854775808 % 2 == 1) = s ∧ D.word s r < 18446744073709551616 := by
  unfold Format.word
  have : D.signWeight = 9223372036854775808 := by decide
  rw [this]
  cases s
  · refine ⟨by simp; omega, ?_, by simp; omega⟩
    have : r / 9223372036854775808 % 2 = 0 := by omega
    simp [this]
  · refine ⟨by simp; omega, ?_, by simp; omega⟩
    have : (9223372036854775808 + r) / 9223372036854775808 % 2 = 1 := by omega
    rw [if_pos rfl, this]; rfl
/-- A full number scaled within the bounds of full digits. -/
theorem scale_law {a : Nat} {n by' : Int} (ha : a < 18446744073709551616) (h : fexp a = some n) (hn : -1022 ≤ n) (hb : -3000 ≤ by') (hb2 : by' ≤ 3000) (hl : -1022 ≤ n + by') (hh : n + by' ≤ 1023) :
    fexp (fscale a by') = some (n + by') ∧ fscale (fscale a by') (-by') = a := by
  obtain ⟨hna, h0, h1⟩ := fexp_some h
  obtain ⟨m, i, hr, hm, hm2, hi, hi2, hor, hfull⟩ := read_number h0 h1
  have hr52 : 4503599627370496 ≤ a % 9223372036854775808 ∧ n = i + 52 := by
    unfold fexp at h
    rw [if_neg (by omega)] at h
    split at h
    · rename_i hz
      exfalso
      have hn' := Option.some.inj h
      have : (a % 9223372036854775808).log2 < 52 := (Nat.log2_lt h0).2 (by simp; omega)
      omega
    · rename_i hz
      have hn' := Option.some.inj h
      have : 4503599627370496 ≤ a % 9223372036854775808 := by omega
      have := (hfull this).2
      constructor <;> omega
  obtain ⟨h52, rfl⟩ := hr52
  obtain ⟨hm3, _⟩ := hfull h52
  have c1 : clamp by' = by' := by unfold clamp; omega
  have c2 : clamp (-by') = -by' := by unfold clamp; omega
  have ex : fscale a by' = D.word (a / 9223372036854775808 % 2 == 1) ((i + by' + 1074).toNat * 4503599627370496 + m) := by
    rw [fscale_eq _ hna, hr, c1]
    exact nearest_exact _ (by omega) hm2 (.inl hm3) (by omega)
  have hz : (i + by' + 1074).toNat ≤ 2045 := by omega
  have hR : (i + by' + 1074).toNat * 4503599627370496 + m < 9218868437227405312 := by
    generalize (i + by' + 1074).toNat = z at hz ⊢
    clear hi hi2 hor hfull hl hh hb hb2 hn c1 c2 ex h hr h0 h1 ha hna h52
    omega
  obtain ⟨w1, w2, w3⟩ := word_mod (a / 9223372036854775808 % 2 == 1) (r := (i + by' + 1074).toNat * 4503599627370496 + m) (by omega)
  have hq : ((i + by' + 1074).toNat * 4503599627370496 + m) / 4503599627370496 = (i + by' + 1074).toNat + 1 := by
    generalize (i + by' + 1074).toNat = z at hz ⊢
    clear hi hi2 hor hfull hl hh hb hb2 hn c1 c2 ex h hr h0 h1 ha hna h52 w1 w2 w3 hR
    omega
  have hmod : ((i + by' + 1074).toNat * 4503599627370496 + m) % 4503599627370496 = m - 4503599627370496 := by
    generalize (i + by' + 1074).toNat = z at hz ⊢
    clear hi hi2 hor hfull hl hh hb hb2 hn c1 c2 ex h hr h0 h1 ha hna h52 w1 w2 w3 hR hq
    omega
  have hge : 4503599627370496 ≤ (i + by' + 1074).toNat * 4503599627370496 + m := by omega
  constructor
  · rw [ex]
    unfold fexp
    rw [w1, if_neg (by omega), hq, if_neg (by omega)]
    congr 1
    omega
  · have nx : isNan (fscale a by') = false := by rw [ex]; exact word_not_nan _ (by omega)
    have rx : D.read (fscale a by') = .number (a / 9223372036854775808 % 2 == 1) m (i + by') := by
      rw [ex, read_eq, w1, w2, if_neg (by omega), if_pos hR, hq, hmod]
      have g1 : 4503599627370496 + (m - 4503599627370496) = m := by omega
      have g2 : -1074 + (((i + by' + 1074).toNat + 1 - 1 : Nat) : Int) = i + by' := by omega
      rw [g1, g2]
    rw [fscale_eq _ nx, rx, c2]
    show D.nearest _ m (i + by' + -by') = a
    rw [show i + by' + -by' = i by omega]
    have := write_read ha hna
    rw [hr] at this
    exact this
end Go.Proofs.YtpilniljhmkedaaGreatDoor.Fl
namespace Go.Proofs.YtpilniljhmkedaaGreatDoor.Fl
open Ieee
theorem nearest_small (s : Bool) {m : Nat} {x : Int} (h1 : 4503599627370496 ≤ m) (h2 : m < 9007199254740992) (hx : x < -1075) : D.nearest s m (x - 52) = D.word s 0 := by
  have hm : m ≠ 0 := by omega
  have hlog : m.log2 = 52 := by
    have a1 : 52 ≤ m.log2 := (Nat.le_log2 hm).2 (by simpa using h1)
    have a2 : m.log2 < 53 := (Nat.log2_lt hm).2 (by simpa using h2)
    omega
  have hl : lastOf m (x - 52) = -1074 := by unfold lastOf; rw [hlog]; omega
  rw [nearest_eq s hm, hl]
  have e1 : (x - 52 - -1074).toNat = 0 := by omega
  have e2 : ∃ k, (-1074 - (x - 52)).toNat = 54 + k := ⟨(-1074 - (x - 52)).toNat - 54, by omega⟩
  obtain ⟨k, e2⟩ := e2
  rw [e1, e2, Nat.pow_zero, Nat.mul_one]
  have hp : 18014398509481984 ≤ 2 ^ (54 + k) := by
    have := Nat.pow_le_pow_right (n := 2) (by omega) (show 54 ≤ 54 + k by omega)
    simpa using this
  have hz : cutS m (54 + k) = 0 := by
    unfold cutS
    generalize 2 ^ (54 + k) = C at hp ⊢
    rw [Nat.div_eq_of_lt (by omega), Nat.mod_eq_of_lt (by omega)]
    have : decide (C < 2 * m) = false := by simp; omega
    rw [this]; simp
  rw [hz]
  rfl
theorem nearest_great (s : Bool) {m : Nat} {x : Int} (h1 : 4503599627370496 ≤ m) (h2 : m < 9007199254740992) (hx : 1023 < x) : D.nearest s m (x - 52) = D.word s 9218868437227405312 := by
  have hm : m ≠ 0 := by omega
  have hlog : m.log2 = 52 := by
    have a1 : 52 ≤ m.log2 := (Nat.le_log2 hm).2 (by simpa using h1)
    have a2 : m.log2 < 53 := (Nat.log2_lt hm).2 (by simpa using h2)
    omega
  have hl : lastOf m (x - 52) = x - 52 := by unfold lastOf; rw [hlog]; omega
  rw [nearest_eq s hm, hl, Int.sub_self]
  simp only [Int.toNat_zero, Nat.pow_zero, Nat.mul_one, cutS_zero]
  congr 1
  refine Nat.min_eq_right ?_
  have hz : 2046 ≤ (x - 52 + 1074).toNat := by omega
  generalize (x - 52 + 1074).toNat = z at hz ⊢
  clear hl hlog
  omega
/-- What a full word reads as. -/
theorem read_full (s : Bool) {m z : Nat} (h1 : 4503599627370496 ≤ m) (h2 : m < 9007199254740992) (hz : z ≤ 2045) : D.read (D.word s (z * 4503599627370496 + m)) = .number s m (z - 1074) ∧ D.word s (z * 4503599627370496 + m) < 18446744073709551616 ∧ isNan (D.word s (z * 4503599627370496 + m)) = false := by
  have hR : z * 4503599627370496 + m < 9218868437227405312 := by omega
  obtain ⟨w1, w2, w3⟩ := word_mod s (r := z * 4503599627370496 + m) (by omega)
  have hq : (z * 4503599627370496 + m) / 4503599627370496 = z + 1 := by clear w1 w2 w3 hR; omega
  have hmod : (z * 4503599627370496 + m) % 4503599627370496 = m - 4503599627370496 := by clear w1 w2 w3 hR hq; omega
  refine ⟨?_, w3, word_not_nan _ (by omega)⟩
  rw [read_eq, w1, w2, if_neg (by omega), if_pos hR, hq, hmod]
  have g1 : 4503599627370496 + (m - 4503599627370496) = m := by omega
  have g2 : -1074 + ((z + 1 - 1 : Nat) : Int) = z - 1074 := by omega
  rw [g1, g2]
theorem read_half : D.read 4368491638549381120 = .number false 4503599627370496 (-105) := by rw [read_eq]; decide +kernel
theorem read_one : D.read 4607182418800017408 = .number false 4503599627370496 (-52) := by rw [read_eq]; decide +kernel
theorem read_two52 : D.read 4841369599423283200 = .number false 4503599627370496 0 := by rw [read_eq]; decide +kernel
/-- Times one over 2 to the 53. -/
theorem mul_half (s : Bool) {m z : Nat} (h1 : 4503599627370496 ≤ m) (h2 : m < 9007199254740992) (hz : z ≤ 2045) : D.mul 4368491638549381120 (D.word s (z * 4503599627370496 + m)) = some (D.nearest s m (z - 1127)) := by
  unfold Format.mul
  rw [read_half, (read_full s h1 h2 hz).1]
  show some (D.nearest (false ^^ s) (4503599627370496 * m) (-105 + (z - 1074))) = _
  have e : (4503599627370496 : Nat) * m = m * 2 ^ 52 := by rw [Nat.mul_comm]
  rw [e, nearest_scale, Bool.false_xor]
  congr 2
  omega
theorem mul_one (s : Bool) {m z : Nat} (h1 : 4503599627370496 ≤ m) (h2 : m < 9007199254740992) (hz : z ≤ 2045) : D.mul 4607182418800017408 (D.word s (z * 4503599627370496 + m)) = some (D.nearest s m (z - 1074)) := by
  unfold Format.mul
  rw [read_one, (read_full s h1 h2 hz).1]
  show some (D.nearest (false ^^ s) (4503599627370496 * m) (-52 + (z - 1074))) = _
  have e : (4503599627370496 : Nat) * m = m * 2 ^ 52 := by rw [Nat.mul_comm]
  rw [e, nearest_scale, Bool.false_xor]
  congr 2
  omega
theorem mul_52 (s : Bool) (m : Nat) {a : Nat} (i : Int) (h : D.read a = .number s m i) : D.mul a 4841369599423283200 = some (D.nearest s m (i + 52)) := by
  unfold Format.mul
  rw [read_two52, h]
  show some (D.nearest (s ^^ false) (m * 4503599627370496) (i + 0)) = _
  have e : m * (4503599627370496 : Nat) = m * 2 ^ 52 := rfl
  rw [e, nearest_scale, Bool.xor_false]
  congr 2
  omega
/-- A small number with full digits. -/
theorem full_sub {r : Nat} (h0 : r ≠ 0) (h1 : r < 4503599627370496) : r.log2 ≤ 51 ∧ 4503599627370496 ≤ r * 2 ^ (52 - r.log2) ∧ r * 2 ^ (52 - r.log2) < 9007199254740992 ∧ (∀ s i, D.nearest s r i = D.nearest s (r * 2 ^ (52 - r.log2)) (i - (52 - r.log2 : Nat))) := by
  have hl : r.log2 < 52 := (Nat.log2_lt h0).2 (by simpa using h1)
  have h2 := Nat.log2_self_le h0
  have h3 : r < 2 ^ (r.log2 + 1) := Nat.lt_log2_self
  refine ⟨by omega, ?_, ?_, fun s i => ?_⟩
  · have : 2 ^ r.log2 * 2 ^ (52 - r.log2) ≤ r * 2 ^ (52 - r.log2) := Nat.mul_le_mul_right _ h2
    rw [← Nat.pow_add, show r.log2 + (52 - r.log2) = 52 by omega] at this
    simpa using this
  · have : r * 2 ^ (52 - r.log2) < 2 ^ (r.log2 + 1) * 2 ^ (52 - r.log2) := Nat.mul_lt_mul_of_pos_right h3 (Nat.two_pow_pos _)
    rw [← Nat.pow_add, show r.log2 + 1 + (52 - r.log2) = 53 by omega] at this
    simpa using this
  · rw [nearest_scale]
    congr 1
    omega
end Go.Proofs.YtpilniljhmkedaaGreatDoor.Fl
namespace Go.Proofs.YtpilniljhmkedaaGreatDoor
open Go.RowKit
theorem ret_int {k : IntKind} {a b : Int} (h : a = b) : Ending.returned (.int k a) = .returned (.int k b) := by rw [h]
theorem ret_bool {a b : Bool} (h : a = b) : Ending.returned (.bool a) = .returned (.bool b) := by rw [h]
theorem ret_float {a b : Nat} (h : a = b) : Ending.returned (.float .f64 a) = .returned (.float .f64 b) := by rw [h]
theorem run_frombits (n : Int) (w : World) : (callFunc 40 #[.int .u64 n]).run Tryz.prog w = .ok (.value (.float .f64 n.toNat)) w := by
  rw [run_callFunc_extern Tryz.func40 (by kernel_rfl) (by kernel_rfl) (by kernel_rfl) (show Extern.find _ = some Extern.MathFloatBits.float64frombits by kernel_rfl)]
  rfl
theorem run_bits (n : Nat) (w : World) : (callFunc 39 #[.float .f64 n]).run Tryz.prog w = .ok (.value (.int .u64 n)) w := by
  rw [run_callFunc_extern Tryz.func39 (by kernel_rfl) (by kernel_rfl) (by kernel_rfl) (show Extern.find _ = some Extern.MathFloatBits.float64bits by kernel_rfl)]
  rfl
theorem of_any (a : Nat) (w : World) : Calls Tryz.prog 19 #[.int .u64 a] w fun e w' => e = .returned (.float .f64 a) ∧ w = w' := by
  have h1 := run_frombits
  go_enter Tryz.func19, Tryz.ntmps19
  go_wp2
  go_ret
  exact ⟨rfl, rfl⟩
namespace Fl
theorem order_self (a : Nat) : FloatKind.f64.format.order a a = if isNan a then none else some .eq := by
  show D.order a a = _
  cases h : isNan a
  · rw [order_key h h, cmp_eq]; rfl
  · rw [order_nan_left a h]; rfl
end Fl
theorem told_any (a : Nat) (w : World) : Calls Tryz.prog 18 #[.float .f64 a] w fun e w' => e = .returned (.int .u64 (Fl.told a)) ∧ w = w' := by
  have h1 := run_bits
  have H := Lib.hid (Fl.order_self a)
  cases hn : Fl.isNan a
  · have ho : FloatKind.f64.format.order a a = some .eq := by rw [H.out, hn]; rfl
    have HT := Lib.hid (show Fl.told a = a by unfold Fl.told; rw [hn]; rfl)
    clear hn
    go_enter Tryz.func18, Tryz.ntmps18
    go_wp2
    go_ret
    exact ⟨ret_int (by rw [HT.out]), rfl⟩
  · have ho : FloatKind.f64.format.order a a = none := by rw [H.out, hn]; rfl
    have HT := Lib.hid (show Fl.told a = 9221120237041090560 by unfold Fl.told; rw [hn]; rfl)
    clear hn
    go_enter Tryz.func18, Tryz.ntmps18
    go_wp2
    go_ret
    exact ⟨ret_int (by rw [HT.out]; rfl), rfl⟩
namespace Fl
theorem nan_cut (a b t : Nat) : isNan ((Question.nanBits .f64 a b).cut t) = true := by
  unfold isNan Question.cut
  simp only [decide_eq_true_eq]
  have h1 : t / 2 % (2 ^ 52 - 1) < 2 ^ 52 - 1 := Nat.mod_lt _ (by decide)
  have h2 : (2 : Nat) ^ 52 = 4503599627370496 := by decide
  have h3 : (2 : Nat) ^ 63 = 9223372036854775808 := by decide
  rw [h2] at h1 ⊢
  rw [h3]
  generalize t / 2 % (4503599627370496 - 1) = u at h1 ⊢
  omega
theorem told_nan {q : Nat} (h : isNan q = true) : told q = none' := by unfold told; rw [h]; rfl
end Fl
theorem run_float_none (op : BinOp) (a b : Nat) (w : World) (P : Program) (h : floatBits op .f64 a b = none) (ho : op = .add ∨ op = .sub ∨ op = .mul ∨ op = .quo) : ∃ q, Fl.isNan q = true ∧ ∀ t, (binOp op t (.float .f64 a) (.float .f64 b)).run P w = .ok (.float .f64 q) w.drew := by
  refine ⟨_, Fl.nan_cut a b (w.tape w.drawn (.nanBits .f64 a b)), fun t => ?_⟩
  unfold floatBits at h
  rcases ho with rfl | rfl | rfl | rfl <;> simp only at h <;> simp [binOp, Op.floatArith, h, Question.forced]
namespace Fl
theorem add_some {a b r : Nat} (h : D.add a b = some r) : told r = fadd a b := by
  unfold told fadd; rw [add_not_nan h, h]; rfl
end Fl
theorem add_any (a b : Nat) (w : World) : Calls Tryz.prog 10 #[.int .u64 a, .int .u64 b] w fun e w' => e = .returned (.int .u64 (Fl.fadd a b)) ∧ Below w.heap.size w w' := by
  cases h : Fl.D.add a b with
  | some r =>
    have h2 := fun (t : TypeId) (w : World) => run_float_arith (P := Tryz.prog) w .add t .f64 a b r h
    have HT := Lib.hid (Fl.add_some h)
    clear h
    go_enter Tryz.func10, Tryz.ntmps10
    go_wp2_with ((refine (of_any _ _).mono ?_; rintro e w' ⟨rfl, rfl⟩))
    refine (told_any _ _).mono ?_
    rintro e w' ⟨rfl, rfl⟩
    go_wp2
    go_ret
    exact ⟨ret_int (by rw [HT.out]), Below.refl _ _⟩
  | none =>
    obtain ⟨q, hq, h2⟩ := run_float_none .add a b w Tryz.prog h (by simp)
    have HT := Lib.hid (show Fl.told q = Fl.fadd a b by rw [Fl.told_nan hq]; unfold Fl.fadd; rw [h]; rfl)
    clear h hq
    go_enter Tryz.func10, Tryz.ntmps10
    go_wp2_with ((refine (of_any _ _).mono ?_; rintro e w' ⟨rfl, rfl⟩))
    refine (told_any _ _).mono ?_
    rintro e w' ⟨rfl, rfl⟩
    go_wp2
    go_ret
    exact ⟨ret_int (by rw [HT.out]), (Below.refl _ _).drew⟩
namespace Fl
theorem sub_some {a b r : Nat} (h : D.sub a b = some r) : told r = fsub a b := by
  unfold told fsub; rw [sub_not_nan h, h]; rfl
end Fl
namespace Fl
theorem mul_some {a b r : Nat} (h : D.mul a b = some r) : told r = fmul a b := by
  unfold told fmul; rw [mul_not_nan h, h]; rfl
end Fl
namespace Fl
theorem div_some {a b r : Nat} (h : D.div a b = some r) : told r = fdiv a b := by
  unfold told fdiv; rw [div_not_nan h, h]; rfl
end Fl
theorem run_neg (a : Nat) (w : World) : (Op.unary .neg (.float .f64 a)).run Tryz.prog w = .ok (.float .f64 (a ^^^ 9223372036854775808)) w := rfl
end Go.Proofs.YtpilniljhmkedaaGreatDoor
namespace Go.Proofs
open Go.Shelf
def Tryz.lays129_ren : Go.Shelf.Ren := ⟨fun | 129 => 33 | n => n, fun | 53 => 22 | 3 => 3 | 4 => 4 | 46 => 65 | 5 => 5 | 9 => 9 | n => n, fun | n => n⟩
theorem Tryz.lays129 : Go.Proofs.Lays.n129 Tryz.prog Tryz.lays129_ren := {
  mixed := by kernel_rfl
  f129 := Tryz.func33.trans (congrArg some (by kernel_rfl))
  t3 := Tryz.underlying3
  a3 := Tryz.isAgg3
  z3 := Tryz.sizeOf3
  v3 := Tryz.zeroValue3
  t4 := Tryz.underlying4
  a4 := Tryz.isAgg4
  z4 := Tryz.sizeOf4
  v4 := Tryz.zeroValue4
  t5 := Tryz.underlying5
  a5 := Tryz.isAgg5
  z5 := Tryz.sizeOf5
  v5 := Tryz.zeroValue5
  t9 := Tryz.underlying9
  a9 := Tryz.isAgg9
  z9 := Tryz.sizeOf9
  v9 := Tryz.zeroValue9
  t46 := Tryz.underlying65
  a46 := Tryz.isAgg65
  z46 := Tryz.sizeOf65
  v46 := Tryz.zeroValue65
  t53 := Tryz.underlying22
  a53 := Tryz.isAgg22
  z53 := Tryz.sizeOf22
  v53 := Tryz.zeroValue22 }
theorem Tryz.bits_Len64 (x : Int) (w : World) (h0 : 0 ≤ x) (h1 : x ≤ 18446744073709551615) :
    Calls Tryz.prog 33 #[.int .u64 x] w fun e w' => e = .returned (.int .i64 (Lib.bitLen x.toNat)) ∧ w' = w := Any.bits_Len64 Tryz.lays129 x w h0 h1
def Tryz.lays317_ren : Go.Shelf.Ren := ⟨fun | 317 => 111 | n => n, fun | 3 => 3 | 46 => 65 | n => n, fun | n => n⟩
theorem Tryz.lays317 : Go.Proofs.Lays.n317 Tryz.prog Tryz.lays317_ren := {
  mixed := by kernel_rfl
  f317 := Tryz.func111.trans (congrArg some (by kernel_rfl))
  t3 := Tryz.underlying3
  a3 := Tryz.isAgg3
  z3 := Tryz.sizeOf3
  v3 := Tryz.zeroValue3
  t46 := Tryz.underlying65
  a46 := Tryz.isAgg65
  z46 := Tryz.sizeOf65
  v46 := Tryz.zeroValue65 }
open Go.Lib in
theorem Tryz.internal_strconv_log10Pow2 (x : Nat) (h : x ≤ 64) (w : World) :
    Calls Tryz.prog 111 #[.int .i64 x] w fun e w' => e = .returned (.int .i64 (Lib.l10 x)) ∧ w' = w := Any.internal_strconv_log10Pow2 Tryz.lays317 x h w
def Tryz.lays318_ren : Go.Shelf.Ren := ⟨fun | 318 => 155 | n => n, fun | 3 => 3 | 4 => 4 | n => n, fun | n => n⟩
theorem Tryz.lays318 : Go.Proofs.Lays.n318 Tryz.prog Tryz.lays318_ren := {
  mixed := by kernel_rfl
  f318 := Tryz.func155.trans (congrArg some (by kernel_rfl))
  t3 := Tryz.underlying3
  a3 := Tryz.isAgg3
  z3 := Tryz.sizeOf3
  v3 := Tryz.zeroValue3
  t4 := Tryz.underlying4
  a4 := Tryz.isAgg4
  z4 := Tryz.sizeOf4
  v4 := Tryz.zeroValue4 }
open Go.Lib in
theorem Tryz.internal_strconv_bool2_int (b : Bool) (w : World) :
    Calls Tryz.prog 155 #[.bool b] w fun e w' => e = .returned (.int .i64 (if b then 1 else 0)) ∧ w' = w := Any.internal_strconv_bool2_int Tryz.lays318 b w
def Tryz.laysM284_ren : Go.Shelf.Ren := ⟨fun | 284 => 110 | 129 => 33 | 317 => 111 | 318 => 155 | n => n, fun | 53 => 22 | 3 => 3 | 212 => 197 | 0 => 0 | 4 => 4 | 46 => 65 | 5 => 5 | 9 => 9 | n => n, fun | 17 => 9 | n => n⟩
theorem Tryz.laysM284 : Go.Proofs.LaysM.n284 Tryz.prog Tryz.laysM284_ren := {
  mixed := by kernel_rfl
  f129 := Tryz.func33.trans (congrArg some (by kernel_rfl))
  f284 := Tryz.func110.trans (congrArg some (by kernel_rfl))
  f317 := Tryz.func111.trans (congrArg some (by kernel_rfl))
  f318 := Tryz.func155.trans (congrArg some (by kernel_rfl))
  t0 := Tryz.underlying0
  a0 := Tryz.isAgg0
  z0 := Tryz.sizeOf0
  v0 := Tryz.zeroValue0
  t3 := Tryz.underlying3
  a3 := Tryz.isAgg3
  z3 := Tryz.sizeOf3
  v3 := Tryz.zeroValue3
  t4 := Tryz.underlying4
  a4 := Tryz.isAgg4
  z4 := Tryz.sizeOf4
  v4 := Tryz.zeroValue4
  t5 := Tryz.underlying5
  a5 := Tryz.isAgg5
  z5 := Tryz.sizeOf5
  v5 := Tryz.zeroValue5
  t9 := Tryz.underlying9
  a9 := Tryz.isAgg9
  z9 := Tryz.sizeOf9
  v9 := Tryz.zeroValue9
  t46 := Tryz.underlying65
  a46 := Tryz.isAgg65
  z46 := Tryz.sizeOf65
  v46 := Tryz.zeroValue65
  t53 := Tryz.underlying22
  a53 := Tryz.isAgg22
  z53 := Tryz.sizeOf22
  v53 := Tryz.zeroValue22
  t212 := Tryz.underlying197
  a212 := Tryz.isAgg197
  z212 := Tryz.sizeOf197
  v212 := Tryz.zeroValue197
  g17 := by kernel_rfl
  i0 := by kernel_rfl
  i3 := by kernel_rfl
  i4 := by kernel_rfl
  i5 := by kernel_rfl
  i9 := by kernel_rfl
  i46 := by kernel_rfl
  i53 := by kernel_rfl
  i212 := by kernel_rfl
  m17 := by kernel_rfl }
open Go.Lib in
theorem Tryz.internal_strconv_numDigits (u : Nat) (h1 : 1 ≤ u) (h2 : u < 18446744073709551616) (w : World) (htab : Lib.TabIs Tryz.prog w "internal/strconv.uint64pow10" .u64 Lib.pow10Tab) :
    Calls Tryz.prog 110 #[.int .u64 u] w fun e w' => e = .returned (.int .i64 (Lib.nDigits u)) ∧ w' = w := Any.internal_strconv_numDigits Tryz.laysM284 u h1 h2 w htab
def Tryz.lays285_ren : Go.Shelf.Ren := ⟨fun | 285 => 154 | n => n, fun | 37 => 76 | 53 => 22 | 3 => 3 | 4 => 4 | 51 => 68 | 9 => 9 | 5 => 5 | 0 => 0 | n => n, fun | n => n⟩
theorem Tryz.lays285 : Go.Proofs.Lays.n285 Tryz.prog Tryz.lays285_ren := {
  mixed := by kernel_rfl
  f285 := Tryz.func154.trans (congrArg some (by kernel_rfl))
  t0 := Tryz.underlying0
  a0 := Tryz.isAgg0
  z0 := Tryz.sizeOf0
  v0 := Tryz.zeroValue0
  t3 := Tryz.underlying3
  a3 := Tryz.isAgg3
  z3 := Tryz.sizeOf3
  v3 := Tryz.zeroValue3
  t4 := Tryz.underlying4
  a4 := Tryz.isAgg4
  z4 := Tryz.sizeOf4
  v4 := Tryz.zeroValue4
  t5 := Tryz.underlying5
  a5 := Tryz.isAgg5
  z5 := Tryz.sizeOf5
  v5 := Tryz.zeroValue5
  t9 := Tryz.underlying9
  a9 := Tryz.isAgg9
  z9 := Tryz.sizeOf9
  v9 := Tryz.zeroValue9
  t37 := Tryz.underlying76
  a37 := Tryz.isAgg76
  z37 := Tryz.sizeOf76
  v37 := Tryz.zeroValue76
  t51 := Tryz.underlying68
  a51 := Tryz.isAgg68
  z51 := Tryz.sizeOf68
  v51 := Tryz.zeroValue68
  t53 := Tryz.underlying22
  a53 := Tryz.isAgg22
  z53 := Tryz.sizeOf22
  v53 := Tryz.zeroValue22 }
open Go.RowKit Go.Sort Go.Lib in
theorem Tryz.internal_strconv_formatBase10 (blk off cap : Nat) (u : Nat) (d : Array UInt8) (w : World) (hH : Holds (fun (b : UInt8) => Value.int .u8 (b.toNat : Int)) w blk off d) (hu : u < 10 ^ d.size) (hu64 : u < 18446744073709551616) (hsz : d.size < 4611686018427387904) :
    Calls Tryz.prog 154 #[.slice (some ⟨blk, off, none⟩) d.size cap, .int .u64 u] w fun e w' =>
      e = .returned (.tuple #[]) ∧ ∃ (n v' : Nat) (dk : Array UInt8), w' = (putRow (fun (b : UInt8) => Value.int .u8 (b.toNat : Int)) w blk off dk).drewN n ∧ FmtInv d.size u 0 v' dk := Any.internal_strconv_formatBase10 Tryz.lays285 blk off cap u d w hH hu hu64 hsz
def Tryz.lays264_ren : Go.Shelf.Ren := ⟨fun | 264 => 124 | n => n, fun | 53 => 22 | 46 => 65 | n => n, fun | n => n⟩
theorem Tryz.lays264 : Go.Proofs.Lays.n264 Tryz.prog Tryz.lays264_ren := {
  mixed := by kernel_rfl
  f264 := Tryz.func124.trans (congrArg some (by kernel_rfl))
  t46 := Tryz.underlying65
  a46 := Tryz.isAgg65
  z46 := Tryz.sizeOf65
  v46 := Tryz.zeroValue65
  t53 := Tryz.underlying22
  a53 := Tryz.isAgg22
  z53 := Tryz.sizeOf22
  v53 := Tryz.zeroValue22 }
open Go.RowKit Go.Lib in
theorem Tryz.bits_Mul64 (x y : Nat) (hx : x < 18446744073709551616) (hy : y < 18446744073709551616) (w : World) :
    Calls Tryz.prog 124 #[.int .u64 x, .int .u64 y] w fun e w' => e = .returned (.tuple #[.int .u64 ((x * y / 18446744073709551616 : Nat) : Int), .int .u64 ((x * y % 18446744073709551616 : Nat) : Int)]) ∧ w' = w := Any.bits_Mul64 Tryz.lays264 x y hx hy w
end Go.Proofs


namespace Go.Proofs.YtpilniljhmkedaaGreatDoor
open Go.RowKit
theorem bool2u_any (b : Bool) (w : World) : Calls Tryz.prog 139 #[.bool b] w fun e w' => e = .returned (.int .u64 (if b then 1 else 0)) ∧ w = w' := by
  cases b
  · go_enter Tryz.func139, Tryz.ntmps139
    go_wp2
    go_ret
    exact ⟨rfl, rfl⟩
  · go_enter Tryz.func139, Tryz.ntmps139
    go_wp2
    go_ret
    exact ⟨rfl, rfl⟩
theorem log2Pow10_any (x : Int) (w : World) (h1 : -400 ≤ x) (h2 : x ≤ 400) : Calls Tryz.prog 148 #[.int .i64 x] w fun e w' => e = .returned (.int .i64 (x * 108853 / 32768)) ∧ w = w' := by
  go_enter Tryz.func148, Tryz.ntmps148
  go_wp2
  go_ret
  exact ⟨rfl, rfl⟩
theorem and63 : ∀ s : Nat, s < 64 → bits .and .i64 (s : Int) 63 = s := by decide
namespace Pl
/-- What uscale answers: the unrounded number. -/
def uscale (x hi lo s : Nat) : Nat :=
  if x * hi / 18446744073709551616 / 2 ^ s * 2 ^ s = x * hi / 18446744073709551616 then
    (x * hi / 18446744073709551616 + 18446744073709551616 - (if x * hi % 18446744073709551616 < x * lo / 18446744073709551616 then 1 else 0)) % 18446744073709551616 / 2 ^ s ||| (if 1 < (x * hi % 18446744073709551616 + 18446744073709551616 - x * lo / 18446744073709551616) % 18446744073709551616 then 1 else 0)
  else x * hi / 18446744073709551616 / 2 ^ s ||| 1
theorem uscale_no {x hi lo s h : Nat} (e1 : x * hi / 18446744073709551616 = h) (hq : ¬ h / 2 ^ s * 2 ^ s = h) : uscale x hi lo s = h / 2 ^ s ||| 1 := by
  subst e1; unfold uscale; rw [if_neg hq]
theorem uscale_yes {x hi lo s h mid mid2 h' g : Nat} (e1 : x * hi / 18446744073709551616 = h) (e2 : x * hi % 18446744073709551616 = mid) (e3 : x * lo / 18446744073709551616 = mid2) (hq : h / 2 ^ s * 2 ^ s = h) (e4 : h' = (h + 18446744073709551616 - (if mid < mid2 then 1 else 0)) % 18446744073709551616) (e5 : g = (mid + 18446744073709551616 - mid2) % 18446744073709551616) : uscale x hi lo s = h' / 2 ^ s ||| (if 1 < g then 1 else 0) := by
  subst e1 e2 e3 e4 e5; unfold uscale; rw [if_pos hq]
end Pl
theorem wrap_nat {a : Nat} (h : a < 18446744073709551616) : IntKind.u64.wrap (a : Int) = a := by
  have := IntKind.wrap_u64 (a : Int)
  rw [this]; omega
theorem bits_or {a b : Nat} (ha : a < 18446744073709551616) (hb : b < 18446744073709551616) : bits .or .u64 (a : Int) (b : Int) = ((a ||| b : Nat) : Int) := by
  have h64 : (2 : Nat) ^ IntKind.u64.bits = 18446744073709551616 := rfl
  have ho : a ||| b < 2 ^ 64 := Nat.or_lt_two_pow (by simpa using ha) (by simpa using hb)
  simp only [bits, BitVec.ofInt_natCast, BitVec.toNat_or, BitVec.toNat_ofNat, h64]
  rw [Nat.mod_eq_of_lt ha, Nat.mod_eq_of_lt hb, wrap_nat (by simpa using ho)]
theorem Pl.uscale_turn (h mid mid2 : Nat) (hm : mid < 18446744073709551616) (hl : mid2 < 18446744073709551616) (hh : h < 18446744073709551616) : ∃ (t : Int) (h' g : Nat), (if decide (mid < mid2) = true then (1 : Int) else 0) = t ∧ h' < 18446744073709551616 ∧ g < 18446744073709551616 ∧ IntKind.u64.wrap ((h : Int) - t) = h' ∧ IntKind.u64.wrap ((mid : Int) - mid2) = g ∧ ∀ {x hi lo s : Nat}, x * hi / 18446744073709551616 = h → x * hi % 18446744073709551616 = mid → x * lo / 18446744073709551616 = mid2 → h / 2 ^ s * 2 ^ s = h → Pl.uscale x hi lo s = h' / 2 ^ s ||| (if 1 < g then 1 else 0) := by
  refine ⟨_, (h + 18446744073709551616 - (if mid < mid2 then 1 else 0)) % 18446744073709551616, (mid + 18446744073709551616 - mid2) % 18446744073709551616, rfl, Nat.mod_lt _ (by decide), Nat.mod_lt _ (by decide), ?_, ?_, fun e1 e2 e3 hq => Pl.uscale_yes e1 e2 e3 hq rfl rfl⟩
  · rw [IntKind.wrap_u64]
    by_cases hc : mid < mid2
    · rw [if_pos hc, if_pos (decide_eq_true hc)]; omega
    · rw [if_neg hc, if_neg (by simpa using hc)]; omega
  · rw [IntKind.wrap_u64]; omega
theorem uscale_any (x hi lo s b : Nat) (w : World) (hx : x < 18446744073709551616) (hhi : hi < 18446744073709551616) (hlo : lo < 18446744073709551616) (hs : s < 64)
    (c0 : w.cell? ⟨b, 0, none⟩ = some (.int .u64 hi)) (c1 : w.cell? ⟨b, 1, none⟩ = some (.int .u64 lo)) (c2 : w.cell? ⟨b, 2, none⟩ = some (.int .i64 s)) :
    Calls Tryz.prog 149 #[.int .u64 x, .pointer (some ⟨b, 0, none⟩)] w fun e w' => e = .returned (.int .u64 (Pl.uscale x hi lo s)) ∧ ∃ n, w' = w.drewN n := by
  have hb := and63 s hs
  have hh64 : x * hi / 18446744073709551616 < 18446744073709551616 := Nat.div_lt_of_lt_mul (Nat.mul_lt_mul_of_lt_of_lt hx hhi)
  have hm64 : x * hi % 18446744073709551616 < 18446744073709551616 := Nat.mod_lt _ (by omega)
  have hl64 : x * lo / 18446744073709551616 < 18446744073709551616 := Nat.div_lt_of_lt_mul (Nat.mul_lt_mul_of_lt_of_lt hx hlo)
  go_enter Tryz.func149, Tryz.ntmps149
  go_wp2_with fail
  refine (Tryz.bits_Mul64 x hi hx hhi _).mono ?_
  rintro e w' ⟨rfl, rfl⟩
  generalize e1 : x * hi / 18446744073709551616 = h at hh64 ⊢
  generalize e2 : x * hi % 18446744073709551616 = mid at hm64 ⊢
  have E1 := Lib.hid e1
  have E2 := Lib.hid e2
  clear e1 e2
  have hle : h / 2 ^ s * 2 ^ s ≤ h := Nat.div_mul_le_self _ _
  have hd : h / 2 ^ s ≤ h := Nat.div_le_self _ _
  have hw : IntKind.u64.wrap ((h : Int) / 2 ^ s * 2 ^ s) = ((h / 2 ^ s * 2 ^ s : Nat) : Int) := by
    rw [← wrap_nat (show h / 2 ^ s * 2 ^ s < 18446744073709551616 by omega)]
    simp
  by_cases hq : h / 2 ^ s * 2 ^ s = h
  · have hq' : (IntKind.u64.wrap ((h : Int) / 2 ^ s * 2 ^ s) != (h : Int)) = false := by rw [hw, hq]; simp
    have HQ := Lib.hid hq
    clear hq hw hle
    go_wp2_with fail
    refine (Tryz.bits_Mul64 x lo hx hlo _).mono ?_
    rintro e w' ⟨rfl, rfl⟩
    generalize e3 : x * lo / 18446744073709551616 = mid2 at hl64 ⊢
    have E3 := Lib.hid e3
    clear e3
    go_wp2_with fail
    refine (bool2u_any _ _).mono ?_
    rintro e w' ⟨rfl, rfl⟩
    obtain ⟨t, h', g, et, h4, h5, hw2, hw3, hall⟩ := Pl.uscale_turn h mid mid2 hm64 hl64 (hh := hh64)
    rw [et]
    have HR := Lib.hid (hall E1.out E2.out E3.out HQ.out)
    clear et hall
    have HO := Lib.hid (fun (d : Nat) (hd : d < 2) => bits_or (show h' / 2 ^ s < 18446744073709551616 from Nat.lt_of_le_of_lt (Nat.div_le_self _ _) h4) (show d < 18446744073709551616 by omega))
    go_wp2_with fail
    go_quiet ((go_at_call 139; exact Calls.quiet_of_same ((bool2u_any _ _).mono (fun _ _ h => ⟨h.1, h.2.symm⟩))))
    go_wp2_with fail
    · go_ret
      exact ⟨ret_int (by rw [HR.out, if_pos (by omega), ← HO.out 1 (by omega)]; simp), _, rfl⟩
    · go_ret
      exact ⟨ret_int (by rw [HR.out, if_neg (by omega), ← HO.out 0 (by omega)]; simp), _, rfl⟩
  have hq' : (IntKind.u64.wrap ((h : Int) / 2 ^ s * 2 ^ s) != (h : Int)) = true := by rw [hw, bne_iff_ne]; omega
  have HR := Lib.hid (Pl.uscale_no (lo := lo) E1.out hq)
  have HO := Lib.hid (bits_or (show h / 2 ^ s < 18446744073709551616 by omega) (show 1 < 18446744073709551616 by omega))
  clear hq hw hle hd
  go_wp2_with fail
  go_ret
  exact ⟨ret_int (by rw [HR.out, ← HO.out]; simp), 0, rfl⟩
end Go.Proofs.YtpilniljhmkedaaGreatDoor
