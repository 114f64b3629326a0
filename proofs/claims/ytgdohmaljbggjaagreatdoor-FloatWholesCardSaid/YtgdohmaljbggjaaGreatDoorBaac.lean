/- Contracts of Go's library at this program's numbers, as the kit's shelf lays them (lay-shelf.mjs, lay-plain.mjs): cut to those that are used. Unrounded scaling: the contracts of uscale and its kin. The small functions of unrounded numbers; prescale. Plain facts on unrounded scaling by the table of powers of ten; the contracts of prescale and uscale by that table. What the package-level variables hold, in one bundle. -/
import Derived.Shelf.Small.Bits
import Derived.Shelf.Bits.Mul64
import Derived.Shelf.LaysM
import Derived.Shelf.Strconv.Itoa1
import Derived.Shelf.Strconv.Itoa2
import Derived.Test.YtgdohmaljbggjaaGreatDoorProg
import Derived.Test.YtgdohmaljbggjaaGreatDoorBaab
import Derived.Deep.QuietTactic
import Derived.BigQuiet
import GoSem.PinnedTables
import Derived.Lib.SmallJoins
namespace Go.Proofs
open Go.Shelf
def Tryz.lays129_ren : Go.Shelf.Ren := ⟨fun | 129 => 56 | n => n, fun | 53 => 22 | 3 => 3 | 4 => 4 | 46 => 69 | 5 => 5 | 9 => 9 | n => n, fun | n => n⟩
theorem Tryz.lays129 : Go.Proofs.Lays.n129 Tryz.prog Tryz.lays129_ren := {
  mixed := by kernel_rfl
  f129 := Tryz.func56.trans (congrArg some (by kernel_rfl))
  t3 := Tryz.underlying3
  a3 := Tryz.isAgg3
  z3 := Tryz.sizeOf3
  v3 := Tryz.zeroValue3
  t4 := Tryz.underlying4
  a4 := Tryz.isAgg4
  z4 := Tryz.sizeOf4
  v4 := Tryz.zeroValue4
  t5 := Tryz.underlying5
  a5 := Tryz.isAgg5
  z5 := Tryz.sizeOf5
  v5 := Tryz.zeroValue5
  t9 := Tryz.underlying9
  a9 := Tryz.isAgg9
  z9 := Tryz.sizeOf9
  v9 := Tryz.zeroValue9
  t46 := Tryz.underlying69
  a46 := Tryz.isAgg69
  z46 := Tryz.sizeOf69
  v46 := Tryz.zeroValue69
  t53 := Tryz.underlying22
  a53 := Tryz.isAgg22
  z53 := Tryz.sizeOf22
  v53 := Tryz.zeroValue22 }
theorem Tryz.bits_Len64 (x : Int) (w : World) (h0 : 0 ≤ x) (h1 : x ≤ 18446744073709551615) :
    Calls Tryz.prog 56 #[.int .u64 x] w fun e w' => e = .returned (.int .i64 (Lib.bitLen x.toNat)) ∧ w' = w := Any.bits_Len64 Tryz.lays129 x w h0 h1
def Tryz.lays317_ren : Go.Shelf.Ren := ⟨fun | 317 => 174 | n => n, fun | 3 => 3 | 46 => 69 | n => n, fun | n => n⟩
theorem Tryz.lays317 : Go.Proofs.Lays.n317 Tryz.prog Tryz.lays317_ren := {
  mixed := by kernel_rfl
  f317 := Tryz.func174.trans (congrArg some (by kernel_rfl))
  t3 := Tryz.underlying3
  a3 := Tryz.isAgg3
  z3 := Tryz.sizeOf3
  v3 := Tryz.zeroValue3
  t46 := Tryz.underlying69
  a46 := Tryz.isAgg69
  z46 := Tryz.sizeOf69
  v46 := Tryz.zeroValue69 }
open Go.Lib in
theorem Tryz.internal_strconv_log10Pow2 (x : Nat) (h : x ≤ 64) (w : World) :
    Calls Tryz.prog 174 #[.int .i64 x] w fun e w' => e = .returned (.int .i64 (Lib.l10 x)) ∧ w' = w := Any.internal_strconv_log10Pow2 Tryz.lays317 x h w
def Tryz.lays318_ren : Go.Shelf.Ren := ⟨fun | 318 => 217 | n => n, fun | 3 => 3 | 4 => 4 | n => n, fun | n => n⟩
theorem Tryz.lays318 : Go.Proofs.Lays.n318 Tryz.prog Tryz.lays318_ren := {
  mixed := by kernel_rfl
  f318 := Tryz.func217.trans (congrArg some (by kernel_rfl))
  t3 := Tryz.underlying3
  a3 := Tryz.isAgg3
  z3 := Tryz.sizeOf3
  v3 := Tryz.zeroValue3
  t4 := Tryz.underlying4
  a4 := Tryz.isAgg4
  z4 := Tryz.sizeOf4
  v4 := Tryz.zeroValue4 }
open Go.Lib in
theorem Tryz.internal_strconv_bool2_int (b : Bool) (w : World) :
    Calls Tryz.prog 217 #[.bool b] w fun e w' => e = .returned (.int .i64 (if b then 1 else 0)) ∧ w' = w := Any.internal_strconv_bool2_int Tryz.lays318 b w
def Tryz.laysM284_ren : Go.Shelf.Ren := ⟨fun | 284 => 173 | 129 => 56 | 317 => 174 | 318 => 217 | n => n, fun | 53 => 22 | 3 => 3 | 212 => 234 | 0 => 0 | 4 => 4 | 46 => 69 | 5 => 5 | 9 => 9 | n => n, fun | 17 => 9 | n => n⟩
theorem Tryz.laysM284 : Go.Proofs.LaysM.n284 Tryz.prog Tryz.laysM284_ren := {
  mixed := by kernel_rfl
  f129 := Tryz.func56.trans (congrArg some (by kernel_rfl))
  f284 := Tryz.func173.trans (congrArg some (by kernel_rfl))
  f317 := Tryz.func174.trans (congrArg some (by kernel_rfl))
  f318 := Tryz.func217.trans (congrArg some (by kernel_rfl))
  t0 := Tryz.underlying0
  a0 := Tryz.isAgg0
  z0 := Tryz.sizeOf0
  v0 := Tryz.zeroValue0
  t3 := Tryz.underlying3
  a3 := Tryz.isAgg3
  z3 := Tryz.sizeOf3
  v3 := Tryz.zeroValue3
  t4 := Tryz.underlying4
  a4 := Tryz.isAgg4
  z4 := Tryz.sizeOf4
  v4 := Tryz.zeroValue4
  t5 := Tryz.underlying5
  a5 := Tryz.isAgg5
  z5 := Tryz.sizeOf5
  v5 := Tryz.zeroValue5
  t9 := Tryz.underlying9
  a9 := Tryz.isAgg9
  z9 := Tryz.sizeOf9
  v9 := Tryz.zeroValue9
  t46 := Tryz.underlying69
  a46 := Tryz.isAgg69
  z46 := Tryz.sizeOf69
  v46 := Tryz.zeroValue69
  t53 := Tryz.underlying22
  a53 := Tryz.isAgg22
  z53 := Tryz.sizeOf22
  v53 := Tryz.zeroValue22
  t212 := Tryz.underlying234
  a212 := Tryz.isAgg234
  z212 := Tryz.sizeOf234
  v212 := Tryz.zeroValue234
  g17 := by kernel_rfl
  i0 := by kernel_rfl
  i3 := by kernel_rfl
  i4 := by kernel_rfl
  i5 := by kernel_rfl
  i9 := by kernel_rfl
  i46 := by kernel_rfl
  i53 := by kernel_rfl
  i212 := by kernel_rfl
  m17 := by kernel_rfl }
open Go.Lib in
theorem Tryz.internal_strconv_numDigits (u : Nat) (h1 : 1 ≤ u) (h2 : u < 18446744073709551616) (w : World) (htab : Lib.TabIs Tryz.prog w "internal/strconv.uint64pow10" .u64 Lib.pow10Tab) :
    Calls Tryz.prog 173 #[.int .u64 u] w fun e w' => e = .returned (.int .i64 (Lib.nDigits u)) ∧ w' = w := Any.internal_strconv_numDigits Tryz.laysM284 u h1 h2 w htab
def Tryz.lays285_ren : Go.Shelf.Ren := ⟨fun | 285 => 216 | n => n, fun | 37 => 103 | 53 => 22 | 3 => 3 | 4 => 4 | 51 => 90 | 9 => 9 | 5 => 5 | 0 => 0 | n => n, fun | n => n⟩
theorem Tryz.lays285 : Go.Proofs.Lays.n285 Tryz.prog Tryz.lays285_ren := {
  mixed := by kernel_rfl
  f285 := Tryz.func216.trans (congrArg some (by kernel_rfl))
  t0 := Tryz.underlying0
  a0 := Tryz.isAgg0
  z0 := Tryz.sizeOf0
  v0 := Tryz.zeroValue0
  t3 := Tryz.underlying3
  a3 := Tryz.isAgg3
  z3 := Tryz.sizeOf3
  v3 := Tryz.zeroValue3
  t4 := Tryz.underlying4
  a4 := Tryz.isAgg4
  z4 := Tryz.sizeOf4
  v4 := Tryz.zeroValue4
  t5 := Tryz.underlying5
  a5 := Tryz.isAgg5
  z5 := Tryz.sizeOf5
  v5 := Tryz.zeroValue5
  t9 := Tryz.underlying9
  a9 := Tryz.isAgg9
  z9 := Tryz.sizeOf9
  v9 := Tryz.zeroValue9
  t37 := Tryz.underlying103
  a37 := Tryz.isAgg103
  z37 := Tryz.sizeOf103
  v37 := Tryz.zeroValue103
  t51 := Tryz.underlying90
  a51 := Tryz.isAgg90
  z51 := Tryz.sizeOf90
  v51 := Tryz.zeroValue90
  t53 := Tryz.underlying22
  a53 := Tryz.isAgg22
  z53 := Tryz.sizeOf22
  v53 := Tryz.zeroValue22 }
open Go.RowKit Go.Sort Go.Lib in
theorem Tryz.internal_strconv_formatBase10 (blk off cap : Nat) (u : Nat) (d : Array UInt8) (w : World) (hH : Holds (fun (b : UInt8) => Value.int .u8 (b.toNat : Int)) w blk off d) (hu : u < 10 ^ d.size) (hu64 : u < 18446744073709551616) (hsz : d.size < 4611686018427387904) :
    Calls Tryz.prog 216 #[.slice (some ⟨blk, off, none⟩) d.size cap, .int .u64 u] w fun e w' =>
      e = .returned (.tuple #[]) ∧ ∃ (n v' : Nat) (dk : Array UInt8), w' = (putRow (fun (b : UInt8) => Value.int .u8 (b.toNat : Int)) w blk off dk).drewN n ∧ FmtInv d.size u 0 v' dk := Any.internal_strconv_formatBase10 Tryz.lays285 blk off cap u d w hH hu hu64 hsz
def Tryz.lays264_ren : Go.Shelf.Ren := ⟨fun | 264 => 187 | n => n, fun | 53 => 22 | 46 => 69 | n => n, fun | n => n⟩
theorem Tryz.lays264 : Go.Proofs.Lays.n264 Tryz.prog Tryz.lays264_ren := {
  mixed := by kernel_rfl
  f264 := Tryz.func187.trans (congrArg some (by kernel_rfl))
  t46 := Tryz.underlying69
  a46 := Tryz.isAgg69
  z46 := Tryz.sizeOf69
  v46 := Tryz.zeroValue69
  t53 := Tryz.underlying22
  a53 := Tryz.isAgg22
  z53 := Tryz.sizeOf22
  v53 := Tryz.zeroValue22 }
open Go.RowKit Go.Lib in
theorem Tryz.bits_Mul64 (x y : Nat) (hx : x < 18446744073709551616) (hy : y < 18446744073709551616) (w : World) :
    Calls Tryz.prog 187 #[.int .u64 x, .int .u64 y] w fun e w' => e = .returned (.tuple #[.int .u64 ((x * y / 18446744073709551616 : Nat) : Int), .int .u64 ((x * y % 18446744073709551616 : Nat) : Int)]) ∧ w' = w := Any.bits_Mul64 Tryz.lays264 x y hx hy w
end Go.Proofs


namespace Go.Proofs.YtgdohmaljbggjaaGreatDoor
open Go.RowKit
theorem bool2u_any (b : Bool) (w : World) : Calls Tryz.prog 201 #[.bool b] w fun e w' => e = .returned (.int .u64 (if b then 1 else 0)) ∧ w = w' := by
  cases b
  · go_enter Tryz.func201, Tryz.ntmps201
    go_wp2
    go_ret
    exact ⟨rfl, rfl⟩
  · go_enter Tryz.func201, Tryz.ntmps201
    go_wp2
    go_ret
    exact ⟨rfl, rfl⟩
theorem log2Pow10_any (x : Int) (w : World) (h1 : -400 ≤ x) (h2 : x ≤ 400) : Calls Tryz.prog 210 #[.int .i64 x] w fun e w' => e = .returned (.int .i64 (x * 108853 / 32768)) ∧ w = w' := by
  go_enter Tryz.func210, Tryz.ntmps210
  go_wp2
  go_ret
  exact ⟨rfl, rfl⟩
theorem and63 : ∀ s : Nat, s < 64 → bits .and .i64 (s : Int) 63 = s := by decide
namespace Pl
/-- What uscale answers: the unrounded number. -/
def uscale (x hi lo s : Nat) : Nat :=
  if x * hi / 18446744073709551616 / 2 ^ s * 2 ^ s = x * hi / 18446744073709551616 then
    (x * hi / 18446744073709551616 + 18446744073709551616 - (if x * hi % 18446744073709551616 < x * lo / 18446744073709551616 then 1 else 0)) % 18446744073709551616 / 2 ^ s ||| (if 1 < (x * hi % 18446744073709551616 + 18446744073709551616 - x * lo / 18446744073709551616) % 18446744073709551616 then 1 else 0)
  else x * hi / 18446744073709551616 / 2 ^ s ||| 1
theorem uscale_no {x hi lo s h : Nat} (e1 : x * hi / 18446744073709551616 = h) (hq : ¬ h / 2 ^ s * 2 ^ s = h) : uscale x hi lo s = h / 2 ^ s ||| 1 := by
  subst e1; unfold uscale; rw [if_neg hq]
theorem uscale_yes {x hi lo s h mid mid2 h' g : Nat} (e1 : x * hi / 18446744073709551616 = h) (e2 : x * hi % 18446744073709551616 = mid) (e3 : x * lo / 18446744073709551616 = mid2) (hq : h / 2 ^ s * 2 ^ s = h) (e4 : h' = (h + 18446744073709551616 - (if mid < mid2 then 1 else 0)) % 18446744073709551616) (e5 : g = (mid + 18446744073709551616 - mid2) % 18446744073709551616) : uscale x hi lo s = h' / 2 ^ s ||| (if 1 < g then 1 else 0) := by
  subst e1 e2 e3 e4 e5; unfold uscale; rw [if_pos hq]
end Pl
theorem wrap_nat {a : Nat} (h : a < 18446744073709551616) : IntKind.u64.wrap (a : Int) = a := by
  have := IntKind.wrap_u64 (a : Int)
  rw [this]; omega
theorem bits_or {a b : Nat} (ha : a < 18446744073709551616) (hb : b < 18446744073709551616) : bits .or .u64 (a : Int) (b : Int) = ((a ||| b : Nat) : Int) := by
  have h64 : (2 : Nat) ^ IntKind.u64.bits = 18446744073709551616 := rfl
  have ho : a ||| b < 2 ^ 64 := Nat.or_lt_two_pow (by simpa using ha) (by simpa using hb)
  simp only [bits, BitVec.ofInt_natCast, BitVec.toNat_or, BitVec.toNat_ofNat, h64]
  rw [Nat.mod_eq_of_lt ha, Nat.mod_eq_of_lt hb, wrap_nat (by simpa using ho)]
theorem Pl.uscale_turn (h mid mid2 : Nat) (hm : mid < 18446744073709551616) (hl : mid2 < 18446744073709551616) (hh : h < 18446744073709551616) : ∃ (t : Int) (h' g : Nat), (if decide (mid < mid2) = true then (1 : Int) else 0) = t ∧ h' < 18446744073709551616 ∧ g < 18446744073709551616 ∧ IntKind.u64.wrap ((h : Int) - t) = h' ∧ IntKind.u64.wrap ((mid : Int) - mid2) = g ∧ ∀ {x hi lo s : Nat}, x * hi / 18446744073709551616 = h → x * hi % 18446744073709551616 = mid → x * lo / 18446744073709551616 = mid2 → h / 2 ^ s * 2 ^ s = h → Pl.uscale x hi lo s = h' / 2 ^ s ||| (if 1 < g then 1 else 0) := by
  refine ⟨_, (h + 18446744073709551616 - (if mid < mid2 then 1 else 0)) % 18446744073709551616, (mid + 18446744073709551616 - mid2) % 18446744073709551616, rfl, Nat.mod_lt _ (by decide), Nat.mod_lt _ (by decide), ?_, ?_, fun e1 e2 e3 hq => Pl.uscale_yes e1 e2 e3 hq rfl rfl⟩
  · rw [IntKind.wrap_u64]
    by_cases hc : mid < mid2
    · rw [if_pos hc, if_pos (decide_eq_true hc)]; omega
    · rw [if_neg hc, if_neg (by simpa using hc)]; omega
  · rw [IntKind.wrap_u64]; omega
theorem uscale_any (x hi lo s b : Nat) (w : World) (hx : x < 18446744073709551616) (hhi : hi < 18446744073709551616) (hlo : lo < 18446744073709551616) (hs : s < 64)
    (c0 : w.cell? ⟨b, 0, none⟩ = some (.int .u64 hi)) (c1 : w.cell? ⟨b, 1, none⟩ = some (.int .u64 lo)) (c2 : w.cell? ⟨b, 2, none⟩ = some (.int .i64 s)) :
    Calls Tryz.prog 211 #[.int .u64 x, .pointer (some ⟨b, 0, none⟩)] w fun e w' => e = .returned (.int .u64 (Pl.uscale x hi lo s)) ∧ ∃ n, w' = w.drewN n := by
  have hb := and63 s hs
  have hh64 : x * hi / 18446744073709551616 < 18446744073709551616 := Nat.div_lt_of_lt_mul (Nat.mul_lt_mul_of_lt_of_lt hx hhi)
  have hm64 : x * hi % 18446744073709551616 < 18446744073709551616 := Nat.mod_lt _ (by omega)
  have hl64 : x * lo / 18446744073709551616 < 18446744073709551616 := Nat.div_lt_of_lt_mul (Nat.mul_lt_mul_of_lt_of_lt hx hlo)
  go_enter Tryz.func211, Tryz.ntmps211
  go_wp2_with fail
  refine (Tryz.bits_Mul64 x hi hx hhi _).mono ?_
  rintro e w' ⟨rfl, rfl⟩
  generalize e1 : x * hi / 18446744073709551616 = h at hh64 ⊢
  generalize e2 : x * hi % 18446744073709551616 = mid at hm64 ⊢
  have E1 := Lib.hid e1
  have E2 := Lib.hid e2
  clear e1 e2
  have hle : h / 2 ^ s * 2 ^ s ≤ h := Nat.div_mul_le_self _ _
  have hd : h / 2 ^ s ≤ h := Nat.div_le_self _ _
  have hw : IntKind.u64.wrap ((h : Int) / 2 ^ s * 2 ^ s) = ((h / 2 ^ s * 2 ^ s : Nat) : Int) := by
    rw [← wrap_nat (show h / 2 ^ s * 2 ^ s < 18446744073709551616 by omega)]
    simp
  by_cases hq : h / 2 ^ s * 2 ^ s = h
  · have hq' : (IntKind.u64.wrap ((h : Int) / 2 ^ s * 2 ^ s) != (h : Int)) = false := by rw [hw, hq]; simp
    have HQ := Lib.hid hq
    clear hq hw hle
    go_wp2_with fail
    refine (Tryz.bits_Mul64 x lo hx hlo _).mono ?_
    rintro e w' ⟨rfl, rfl⟩
    generalize e3 : x * lo / 18446744073709551616 = mid2 at hl64 ⊢
    have E3 := Lib.hid e3
    clear e3
    go_wp2_with fail
    refine (bool2u_any _ _).mono ?_
    rintro e w' ⟨rfl, rfl⟩
    obtain ⟨t, h', g, et, h4, h5, hw2, hw3, hall⟩ := Pl.uscale_turn h mid mid2 hm64 hl64 (hh := hh64)
    rw [et]
    have HR := Lib.hid (hall E1.out E2.out E3.out HQ.out)
    clear et hall
    have HO := Lib.hid (fun (d : Nat) (hd : d < 2) => bits_or (show h' / 2 ^ s < 18446744073709551616 from Nat.lt_of_le_of_lt (Nat.div_le_self _ _) h4) (show d < 18446744073709551616 by omega))
    go_wp2_with fail
    go_quiet ((go_at_call 201; exact Calls.quiet_of_same ((bool2u_any _ _).mono (fun _ _ h => ⟨h.1, h.2.symm⟩))))
    go_wp2_with fail
    · go_ret
      exact ⟨ret_int (by rw [HR.out, if_pos (by omega), ← HO.out 1 (by omega)]; simp), _, rfl⟩
    · go_ret
      exact ⟨ret_int (by rw [HR.out, if_neg (by omega), ← HO.out 0 (by omega)]; simp), _, rfl⟩
  have hq' : (IntKind.u64.wrap ((h : Int) / 2 ^ s * 2 ^ s) != (h : Int)) = true := by rw [hw, bne_iff_ne]; omega
  have HR := Lib.hid (Pl.uscale_no (lo := lo) E1.out hq)
  have HO := Lib.hid (bits_or (show h / 2 ^ s < 18446744073709551616 by omega) (show 1 < 18446744073709551616 by omega))
  clear hq hw hle hd
  go_wp2_with fail
  go_ret
  exact ⟨ret_int (by rw [HR.out, ← HO.out]; simp), 0, rfl⟩
end Go.Proofs.YtgdohmaljbggjaaGreatDoor
namespace Go.Proofs.YtgdohmaljbggjaaGreatDoor
open Go.RowKit
theorem skewed_any (x : Int) (w : World) (h1 : -3000 ≤ x) (h2 : x ≤ 3000) : Calls Tryz.prog 208 #[.int .i64 x] w fun e w' => e = .returned (.int .i64 ((x * 631305 - 261663) / 2097152)) ∧ w = w' := by
  go_enter Tryz.func208, Tryz.ntmps208
  go_wp2
  go_ret
  exact ⟨rfl, rfl⟩
theorem log10Pow2_any (x : Int) (w : World) (h1 : -3000 ≤ x) (h2 : x ≤ 3000) : Calls Tryz.prog 174 #[.int .i64 x] w fun e w' => e = .returned (.int .i64 (x * 78913 / 262144)) ∧ w = w' := by
  go_enter Tryz.func174, Tryz.ntmps174
  go_wp2
  go_ret
  exact ⟨rfl, rfl⟩
theorem ceil_any (u : Nat) (w : World) (h : u < 18446744073709551600) : Calls Tryz.prog 213 #[.int .u64 u] w fun e w' => e = .returned (.int .u64 ((u + 3) / 4 : Nat)) ∧ w = w' := by
  go_enter Tryz.func213, Tryz.ntmps213
  go_wp2
  go_ret
  exact ⟨ret_int (by simp), rfl⟩
theorem floor_any (u : Nat) (w : World) (h : u < 18446744073709551600) : Calls Tryz.prog 214 #[.int .u64 u] w fun e w' => e = .returned (.int .u64 (u / 4 : Nat)) ∧ w = w' := by
  go_enter Tryz.func214, Tryz.ntmps214
  go_wp2
  go_ret
  exact ⟨ret_int (by simp), rfl⟩
theorem bits_and1 {a : Nat} (ha : a < 18446744073709551616) : bits .and .u64 (a : Int) 1 = ((a % 2 : Nat) : Int) := by
  have h64 : (2 : Nat) ^ IntKind.u64.bits = 18446744073709551616 := rfl
  have e : (1 : Int) = ((1 : Nat) : Int) := rfl
  rw [e]
  simp only [bits, BitVec.ofInt_natCast, BitVec.toNat_and, BitVec.toNat_ofNat, h64]
  rw [Nat.mod_eq_of_lt ha, Nat.mod_eq_of_lt (show 1 < 18446744073709551616 by decide), Nat.and_one_is_mod, wrap_nat (by omega)]
theorem round_any (u : Nat) (w : World) (h : u < 18446744073709551600) : Calls Tryz.prog 215 #[.int .u64 u] w fun e w' => e = .returned (.int .u64 ((u + 1 + u / 4 % 2) / 4 : Nat)) ∧ w = w' := by
  have hand : bits .and .u64 ((u : Int) / 4) 1 = ((u / 4 % 2 : Nat) : Int) := bits_and1 (show u / 4 < 18446744073709551616 by omega)
  generalize hd : u / 4 % 2 = d at hand ⊢
  have hd2 : d < 2 := by omega
  clear hd
  go_enter Tryz.func215, Tryz.ntmps215
  go_wp2
  go_ret
  exact ⟨ret_int (by simp), rfl⟩
theorem nudge_any (u r : Nat) (d : Int) (w : World) (h : u < 18446744073709551600) (hd : d = -1 ∨ d = 0 ∨ d = 1) (hr : (u : Int) + d = r) : Calls Tryz.prog 212 #[.int .u64 u, .int .i64 d] w fun e w' => e = .returned (.int .u64 r) ∧ w = w' := by
  have HR := Lib.hid hr
  rcases hd with rfl | rfl | rfl
  · have hu : 1 ≤ u := by omega
    have hw : IntKind.u64.wrap ((u : Int) + 18446744073709551615) = (r : Int) := by rw [IntKind.wrap_u64]; omega
    clear hr
    go_enter Tryz.func212, Tryz.ntmps212
    go_wp2
    go_ret
    exact ⟨ret_int hw, rfl⟩
  · clear hr
    go_enter Tryz.func212, Tryz.ntmps212
    go_wp2
    go_ret
    exact ⟨ret_int (by have := HR.out; omega), rfl⟩
  · clear hr
    go_enter Tryz.func212, Tryz.ntmps212
    go_wp2
    go_ret
    exact ⟨ret_int (by have := HR.out; omega), rfl⟩
theorem prescale_any (e p lp : Int) (b hi lo : Nat) (w : World) (he : -2000 ≤ e ∧ e ≤ 2000) (hp : -348 ≤ p ∧ p ≤ 347) (hl : -2000 ≤ lp ∧ lp ≤ 2000)
    (t0 : w.cell? ⟨13, (p + 348).toNat * 2, none⟩ = some (.int .u64 hi)) (t1 : w.cell? ⟨13, (p + 348).toNat * 2 + 1, none⟩ = some (.int .u64 lo))
    {v0 v1 v2 : Value} (c0 : w.cell? ⟨b, 0, none⟩ = some v0) (c1 : w.cell? ⟨b, 1, none⟩ = some v1) (c2 : w.cell? ⟨b, 2, none⟩ = some v2)
    (f0 : w.frozen? ⟨b, 0, none⟩ = false) (f1 : w.frozen? ⟨b, 1, none⟩ = false) (f2 : w.frozen? ⟨b, 2, none⟩ = false) (_hb : b ≠ 13) :
    Calls Tryz.prog 209 #[.pointer (some ⟨b, 0, none⟩), .int .i64 e, .int .i64 p, .int .i64 lp] w fun en w' => en = .returned (.tuple #[]) ∧ w' = ((w.setCell ⟨b, 0, none⟩ (.int .u64 hi)).setCell ⟨b, 1, none⟩ (.int .u64 lo)).setCell ⟨b, 2, none⟩ (.int .i64 (-(e + lp + 3))) := by
  go_enter Tryz.func209, Tryz.ntmps209
  go_wp2
  exact bodyPost_end (v := .tuple #[]) (by simp [results, Tryz.results209, go_sem]) rfl ⟨rfl, rfl⟩
end Go.Proofs.YtgdohmaljbggjaaGreatDoor
namespace Go.Proofs.YtgdohmaljbggjaaGreatDoor
open Go.RowKit
namespace Pl
def pw (p : Int) : Nat × Nat := (Pinned.pow10Rows[(p + 348).toNat]?).getD (0, 0)
def sh (e p : Int) : Nat := (-(e + p * 108853 / 32768 + 3)).toNat
/-- The number x times 2 to the e times 10 to the p, unrounded. -/
def scal (x : Nat) (e p : Int) : Nat := uscale x (pw p).1 (pw p).2 (sh e p)
theorem rows_ok : (Pinned.pow10Rows.length == 696 && Pinned.pow10Rows.all fun x => decide (9223372036854775808 ≤ x.1 ∧ x.1 < 18446744073709551616 ∧ x.2 < 18446744073709551616)) = true := by decide +kernel
theorem rows_len : Pinned.pow10Rows.length = 696 := by
  have := rows_ok; simp only [Bool.and_eq_true, beq_iff_eq] at this; exact this.1
theorem pw_some {p : Int} (h1 : -348 ≤ p) (h2 : p ≤ 347) : Pinned.pow10Rows[(p + 348).toNat]? = some (pw p) := by
  unfold pw
  have hl : (p + 348).toNat < Pinned.pow10Rows.length := by rw [rows_len]; omega
  rw [List.getElem?_eq_getElem hl]; rfl
theorem pw_ok {p : Int} (h1 : -348 ≤ p) (h2 : p ≤ 347) : 9223372036854775808 ≤ (pw p).1 ∧ (pw p).1 < 18446744073709551616 ∧ (pw p).2 < 18446744073709551616 := by
  have h := rows_ok
  simp only [Bool.and_eq_true, List.all_eq_true, decide_eq_true_eq] at h
  exact h.2 _ (List.mem_of_getElem? (pw_some h1 h2))
theorem uscale_lt {x hi lo s : Nat} (hs : 1 ≤ s) (hx : x < 18446744073709551616) (hhi : hi < 18446744073709551616) : uscale x hi lo s < 9223372036854775808 := by
  have hh : x * hi / 18446744073709551616 < 18446744073709551616 := Nat.div_lt_of_lt_mul (Nat.mul_lt_mul_of_lt_of_lt hx hhi)
  have key : ∀ a : Nat, a < 18446744073709551616 → a / 2 ^ s < 2 ^ 63 := by
    intro a ha
    have : 2 ≤ 2 ^ s := by
      have := Nat.pow_le_pow_right (show 0 < 2 by decide) hs
      simpa using this
    exact Nat.lt_of_le_of_lt (Nat.div_le_div_left this (by decide)) (by omega)
  have e63 : (9223372036854775808 : Nat) = 2 ^ 63 := by decide
  unfold uscale
  rw [e63]
  split
  · refine Nat.or_lt_two_pow (key _ (Nat.mod_lt _ (by decide))) ?_
    split <;> decide
  · exact Nat.or_lt_two_pow (key _ hh) (by decide)
theorem uscale_ge {x hi lo s : Nat} (hs : s ≤ 58) (hx : 4611686018427387904 ≤ x) (hx2 : x < 18446744073709551616) (hhi : 9223372036854775808 ≤ hi) (hhi2 : hi < 18446744073709551616) : 2 ≤ uscale x hi lo s := by
  have hh : x * hi / 18446744073709551616 < 18446744073709551616 := Nat.div_lt_of_lt_mul (Nat.mul_lt_mul_of_lt_of_lt hx2 hhi2)
  have hl : 4611686018427387904 * 9223372036854775808 ≤ x * hi := Nat.mul_le_mul hx hhi
  have hg : 2305843009213693952 ≤ x * hi / 18446744073709551616 := by
    rw [Nat.le_div_iff_mul_le (by decide)]; exact Nat.le_trans (by decide) hl
  have hp : 2 ^ s ≤ 288230376151711744 := by
    have := Nat.pow_le_pow_right (show 0 < 2 by decide) hs
    exact Nat.le_trans this (by decide)
  have hp0 : 0 < 2 ^ s := Nat.pow_pos (by decide)
  have key : ∀ a : Nat, 2305843009213693951 ≤ a → 2 ≤ a / 2 ^ s := by
    intro a ha
    rw [Nat.le_div_iff_mul_le hp0]; omega
  unfold uscale
  generalize x * hi / 18446744073709551616 = h at hh hg ⊢
  generalize x * hi % 18446744073709551616 = g
  generalize x * lo / 18446744073709551616 = k
  split
  · refine Nat.le_trans (key _ ?_) Nat.left_le_or
    split <;> omega
  · exact Nat.le_trans (key _ (by omega)) Nat.left_le_or
theorem scal_lt {x : Nat} {e p : Int} (h1 : -348 ≤ p) (h2 : p ≤ 347) (hs : 1 ≤ sh e p) (hx : x < 18446744073709551616) : scal x e p < 9223372036854775808 := uscale_lt hs hx (pw_ok h1 h2).2.1
theorem scal_ge {x : Nat} {e p : Int} (h1 : -348 ≤ p) (h2 : p ≤ 347) (hs : sh e p ≤ 58) (hx : 4611686018427387904 ≤ x) (hx2 : x < 18446744073709551616) : 2 ≤ scal x e p := uscale_ge hs hx hx2 (pw_ok h1 h2).1 (pw_ok h1 h2).2.1
/-- The tail of shortFloat: what is answered of the two bounds. -/
def sfTail (m mn mx odd : Nat) (e p : Int) : Nat × Int :=
  if (scal mn e p + odd + 3) / 4 ≤ (scal mx e p - odd) / 4 / 10 * 10 then ((scal mx e p - odd) / 4 / 10, -(p - 1))
  else if (scal mn e p + odd + 3) / 4 < (scal mx e p - odd) / 4 then ((scal m e p + 1 + scal m e p / 4 % 2) / 4, -p)
  else ((scal mn e p + odd + 3) / 4, -p)
def shortF (m : Nat) (e : Int) : Nat × Int :=
  if m = 9223372036854775808 ∧ -1085 < e then sfTail m (m - 512) (m + 1024) (m / 2048 % 2) e (-(((e + 11) * 631305 - 261663) / 2097152))
  else if -1085 ≤ e then sfTail m (m - 1024) (m + 1024) (m / 2048 % 2) e (-((e + 11) * 78913 / 262144))
  else sfTail m (m - 2 ^ (-1075 - e).toNat) (m + 2 ^ (-1075 - e).toNat) (m / 2 ^ (-1074 - e).toNat % 2) e 324
end Pl
/-- The table of powers of ten lies in memory. -/
def Tab (w : World) : Prop := ∀ (i hi lo : Nat), Pinned.pow10Rows[i]? = some (hi, lo) → w.cell? ⟨13, i * 2, none⟩ = some (.int .u64 hi) ∧ w.cell? ⟨13, i * 2 + 1, none⟩ = some (.int .u64 lo)
theorem Tab.at {w : World} (h : Tab w) {p : Int} (h1 : -348 ≤ p) (h2 : p ≤ 347) : w.cell? ⟨13, (p + 348).toNat * 2, none⟩ = some (.int .u64 (Pl.pw p).1) ∧ w.cell? ⟨13, (p + 348).toNat * 2 + 1, none⟩ = some (.int .u64 (Pl.pw p).2) := h _ _ _ (Pl.pw_some h1 h2)
theorem Tab.below {w w' : World} {B : Nat} (h : Tab w) (hb : Below B w w') (hB : 13 < B) : Tab w' := by
  intro i hi lo hr
  obtain ⟨a, b⟩ := h i hi lo hr
  exact ⟨by rw [hb.cell (p := ⟨13, i * 2, none⟩) hB]; exact a, by rw [hb.cell (p := ⟨13, i * 2 + 1, none⟩) hB]; exact b⟩
/-- A scaler lies in block b. -/
def Scaler (w : World) (b : Nat) (e p : Int) : Prop := w.cell? ⟨b, 0, none⟩ = some (.int .u64 (Pl.pw p).1) ∧ w.cell? ⟨b, 1, none⟩ = some (.int .u64 (Pl.pw p).2) ∧ w.cell? ⟨b, 2, none⟩ = some (.int .i64 (-(e + p * 108853 / 32768 + 3)))
theorem Scaler.drewN {w : World} {b : Nat} {e p : Int} (h : Scaler w b e p) (n : Nat) : Scaler (w.drewN n) b e p := by
  unfold Scaler at h ⊢; simpa using h
theorem prescale_tab (e p : Int) (b : Nat) (w : World) (he : -2000 ≤ e ∧ e ≤ 2000) (hp : -348 ≤ p ∧ p ≤ 347) (ht : Tab w)
    {v0 v1 v2 : Value} {T : TypeId} (c : w.heap[b]? = some (.cells #[v0, v1, v2] T (0, 0))) (hb : 13 < b) :
    Calls Tryz.prog 209 #[.pointer (some ⟨b, 0, none⟩), .int .i64 e, .int .i64 p, .int .i64 (p * 108853 / 32768)] w fun en w' => en = .returned (.tuple #[]) ∧ Scaler w' b e p ∧ Below b w w' ∧ w'.heap.size = w.heap.size := by
  have t := ht.at hp.1 hp.2
  have c0 : w.cell? ⟨b, 0, none⟩ = some v0 := by simp [World.cell?, c]
  have c1 : w.cell? ⟨b, 1, none⟩ = some v1 := by simp [World.cell?, c]
  have c2 : w.cell? ⟨b, 2, none⟩ = some v2 := by simp [World.cell?, c]
  refine (prescale_any e p _ b _ _ w he hp ⟨by omega, by omega⟩ t.1 t.2 c0 c1 c2 (by simp [World.frozen?, c]) (by simp [World.frozen?, c]) (by simp [World.frozen?, c]) (by omega)).mono ?_
  rintro en w' ⟨rfl, rfl⟩
  have n01 : (⟨b, 0, none⟩ : Addr) ≠ ⟨b, 1, none⟩ := by simp
  have n02 : (⟨b, 0, none⟩ : Addr) ≠ ⟨b, 2, none⟩ := by simp
  have n12 : (⟨b, 1, none⟩ : Addr) ≠ ⟨b, 2, none⟩ := by simp
  refine ⟨rfl, ⟨?_, ?_, ?_⟩, Below.setCell (Below.setCell (Below.setCell (Below.refl b w) (p := ⟨b, 0, none⟩) (Nat.le_refl b) _) (p := ⟨b, 1, none⟩) (Nat.le_refl b) _) (p := ⟨b, 2, none⟩) (Nat.le_refl b) _, by simp⟩
  · rw [World.cell?_setCell_other _ _ _ _ n02.symm, World.cell?_setCell_other _ _ _ _ n01.symm]
    exact World.cell?_setCell_same _ _ _ c0
  · rw [World.cell?_setCell_other _ _ _ _ n12.symm]
    exact World.cell?_setCell_same _ _ _ (u := v1) (by rw [World.cell?_setCell_other _ _ _ _ n01]; exact c1)
  · exact World.cell?_setCell_same _ _ _ (u := v2) (by rw [World.cell?_setCell_other _ _ _ _ n12, World.cell?_setCell_other _ _ _ _ n02]; exact c2)
theorem uscale_tab (x b : Nat) (e p : Int) (w : World) (hx : x < 18446744073709551616) (hp : -348 ≤ p ∧ p ≤ 347) (hs : 0 ≤ -(e + p * 108853 / 32768 + 3)) (hs2 : -(e + p * 108853 / 32768 + 3) < 64) (hc : Scaler w b e p) :
    Calls Tryz.prog 211 #[.int .u64 x, .pointer (some ⟨b, 0, none⟩)] w fun en w' => en = .returned (.int .u64 (Pl.scal x e p)) ∧ ∃ n, w' = w.drewN n := by
  have hk := Pl.pw_ok hp.1 hp.2
  refine uscale_any x _ _ (Pl.sh e p) b w hx hk.2.1 hk.2.2 (by unfold Pl.sh; omega) hc.1 hc.2.1 ?_
  rw [hc.2.2]; unfold Pl.sh
  rw [Int.toNat_of_nonneg hs]
end Go.Proofs.YtgdohmaljbggjaaGreatDoor
namespace Go.Proofs.YtgdohmaljbggjaaGreatDoor
open Go.RowKit
/-- The exact powers of ten, by their bits. -/
def Pl.f10 : List Nat := [4607182418800017408, 4621819117588971520, 4636737291354636288, 4652007308841189376, 4666723172467343360, 4681608360884174848, 4696837146684686336, 4711630319722168320, 4726483295884279808, 4741671816366391296, 4756540486875873280, 4771362005757984768, 4786511204640096256, 4801453603149578240, 4816244402031689728, 4831355200913801216, 4846369599423283200, 4861130398305394688, 4876203697187506176, 4891288408196988160, 4906019910204099648, 4921056587992461136, 4936209963552724370]
/-- The variables of the library's own that are read. -/
structure Env (w : World) : Prop where
  size : 17 ≤ w.heap.size
  tab : Tab w
  p10 : Lib.TabIs Tryz.prog w "internal/strconv.uint64pow10" .u64 Lib.pow10Tab
  mlen : ∃ m : Int, w.cell? ⟨4, 0, none⟩ = some (.int .i64 m)
  opt : w.cell? ⟨3, 0, none⟩ = some (.bool true)
  info : w.cell? ⟨8, 0, none⟩ = some (.int .u64 52)
  f10 : ∃ (a : Addr) (cap : Nat), w.cell? ⟨12, 0, none⟩ = some (.slice (some a) 23 cap) ∧ a.block < w.heap.size ∧ ∀ i x, Pl.f10[i]? = some x → w.cell? (a.add i) = some (.float .f64 x)
  err : ∃ v, w.cell? ⟨2, 0, none⟩ = some v ∧ (v = .nilIface ∨ ∃ te pe, v = .iface te pe)
theorem add_block (a : Addr) (i : Nat) : (a.add i).block = a.block := by
  unfold Addr.add; split <;> rfl
theorem Env.below {w w' : World} (h : Env w) (hb : Below w.heap.size w w') : Env w' := by
  have hs := h.size
  have hc : ∀ g o, g < 17 → w'.cell? ⟨g, o, none⟩ = w.cell? ⟨g, o, none⟩ := fun g o hg => hb.cell (p := ⟨g, o, none⟩) (by show g < _; omega)
  refine ⟨Nat.le_trans hs hb.size, h.tab.below hb (by omega), Joins.tab_stays (g := 9) (by kernel_rfl) h.p10 hb (Nat.le_refl _), ?_, ?_, ?_, ?_, ?_⟩
  · obtain ⟨m, hm⟩ := h.mlen; exact ⟨m, by rw [hc _ _ (by omega)]; exact hm⟩
  · rw [hc _ _ (by omega)]; exact h.opt
  · rw [hc _ _ (by omega)]; exact h.info
  · obtain ⟨a, cap, h1, h2, h3⟩ := h.f10
    exact ⟨a, cap, by rw [hc _ _ (by omega)]; exact h1, Nat.lt_of_lt_of_le h2 hb.size, fun i x hx => by rw [hb.cell (by rw [add_block]; exact h2)]; exact h3 i x hx⟩
  · obtain ⟨v, h1, h2⟩ := h.err; exact ⟨v, by rw [hc _ _ (by omega)]; exact h1, h2⟩
end Go.Proofs.YtgdohmaljbggjaaGreatDoor
