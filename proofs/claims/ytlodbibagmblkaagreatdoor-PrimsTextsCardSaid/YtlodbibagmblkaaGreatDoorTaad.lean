/- The shortest digits of a float: the contract of shortFloat. The shortest digits of a small float: the contract of shortFloat where the power is the least. The digits of a number laid into a row: the contract of setDigits. Rows that a call owns, whatever mark their block bears behind its cells: nothing of a program. -/
import Derived.Test.YtlodbibagmblkaaGreatDoorTaab
import Derived.Lib.ItoaMem
import Derived.LoopTactic
import Derived.WalkKit
import Derived.Lib.AppendStr
import Derived.Lib.ConvBytes
import Derived.Laws.BytesString
import Derived.Laws.CopyRow
import Derived.Below
namespace Go.Proofs.YtlodbibagmblkaaGreatDoor
open Go.RowKit
theorem bits_and1i {a : Nat} (ha : a < 9223372036854775808) : bits .and .i64 (a : Int) 1 = ((a % 2 : Nat) : Int) := by
  have h64 : (2 : Nat) ^ IntKind.i64.bits = 18446744073709551616 := rfl
  have e : (1 : Int) = ((1 : Nat) : Int) := rfl
  rw [e]
  simp only [bits, BitVec.ofInt_natCast, BitVec.toNat_and, BitVec.toNat_ofNat, h64]
  rw [Nat.mod_eq_of_lt (by omega), Nat.mod_eq_of_lt (show 1 < 18446744073709551616 by decide), Nat.and_one_is_mod, IntWalk.i64_in _ (by omega)]
theorem heap_alloc_at (w : World) (o : Obj) : (w.alloc o).heap[w.heap.size]? = some o := by
  show (w.heap.push o)[w.heap.size]? = some o
  simp
theorem ret2i {k k' : IntKind} {a b c d : Int} (h1 : a = c) (h2 : b = d) : Ending.returned (.tuple #[.int k a, .int k' b]) = .returned (.tuple #[.int k c, .int k' d]) := by rw [h1, h2]
namespace Pl
theorem mid_bounds {e : Int} (h1 : -1085 ≤ e) (h2 : e ≤ 960) : -348 ≤ -((e + 11) * 78913 / 262144) ∧ -((e + 11) * 78913 / 262144) ≤ 347 ∧ 1 ≤ -(e + -((e + 11) * 78913 / 262144) * 108853 / 32768 + 3) ∧ -(e + -((e + 11) * 78913 / 262144) * 108853 / 32768 + 3) ≤ 20 := by omega
theorem skew_bounds {e : Int} (h1 : -1085 ≤ e) (h2 : e ≤ 960) : -348 ≤ -(((e + 11) * 631305 - 261663) / 2097152) ∧ -(((e + 11) * 631305 - 261663) / 2097152) ≤ 347 ∧ 1 ≤ -(e + -(((e + 11) * 631305 - 261663) / 2097152) * 108853 / 32768 + 3) ∧ -(e + -(((e + 11) * 631305 - 261663) / 2097152) * 108853 / 32768 + 3) ≤ 20 := by omega
end Pl

set_option maxHeartbeats 2000000 in
set_option maxRecDepth 100000 in
theorem short_mid (m : Nat) (e : Int) (w : World) (h1 : 9223372036854775808 < m) (h2 : m ≤ 18446744073709549568) (he1 : -1085 ≤ e) (he2 : e ≤ 960) (ht : Tab w) (hsz : 11 < w.heap.size) :
    Calls Tryz.prog 238 #[.int .u64 m, .int .i64 e] w fun en w' => en = .returned (.tuple #[.int .u64 (Pl.shortF m e).1, .int .i64 (Pl.shortF m e).2]) ∧ Below w.heap.size w w' := by
  have hm : ((m : Int) == 9223372036854775808) = false := by rw [beq_eq_false_iff_ne]; omega
  go_enter Tryz.func238, Tryz.ntmps238
  go_wp2_with fail
  refine (log10Pow2_any _ _ (by omega) (by omega)).mono ?_
  rintro en w' ⟨rfl, rfl⟩
  have hand : bits .and .i64 ((m : Int) / 2048) 1 = ((m / 2048 % 2 : Nat) : Int) := bits_and1i (show m / 2048 < 9223372036854775808 by omega)
  go_wp2_with fail
  obtain ⟨b1, b2, b3, b4⟩ := Pl.mid_bounds he1 he2
  generalize hp : -((e + 11) * 78913 / 262144) = p at b1 b2 b3 b4 ⊢
  obtain ⟨mn, hmn⟩ : ∃ mn : Nat, (m : Int) - 1024 = mn := ⟨m - 1024, by omega⟩
  obtain ⟨mx, hmx⟩ : ∃ mx : Nat, (m : Int) + 1024 = mx := ⟨m + 1024, by omega⟩
  obtain ⟨odd, hodd⟩ : ∃ odd : Nat, (m : Int) / 2048 % 2 = odd := ⟨m / 2048 % 2, by omega⟩
  rw [hmn, hmx, hodd]
  have HM := Lib.hid (show m - 1024 = mn ∧ m + 1024 = mx ∧ m / 2048 % 2 = odd ∧ -((e + 11) * 78913 / 262144) = p from ⟨by omega, by omega, by omega, hp⟩)
  have hod : odd < 2 := by omega
  have hmn1 : 4611686018427387904 ≤ mn := by omega
  have hmn2 : mn < 18446744073709551616 := by omega
  have hmx1 : 4611686018427387904 ≤ mx := by omega
  have hmx2 : mx < 18446744073709551616 := by omega
  clear hmn hmx hodd hp hand
  have HF := Lib.hid (show Pl.shortF m e = Pl.sfTail m mn mx odd e p by obtain ⟨e1, e2, e3, e4⟩ := HM.out; unfold Pl.shortF; rw [if_neg (by omega), if_pos he1]; rw [e1, e2, e3, e4])
  clear HM
  refine (log2Pow10_any _ _ (by omega) (by omega)).mono ?_
  rintro en w' ⟨rfl, rfl⟩
  go_wp2_with fail
  refine (prescale_tab e p w.heap.size _ (v0 := .int .u64 0) (v1 := .int .u64 0) (v2 := .int .i64 0) (T := 246) ⟨by omega, by omega⟩ ⟨b1, b2⟩ (ht.below (B := w.heap.size) ((Below.refl _ _).alloc (Nat.le_refl _) _) hsz) (heap_alloc_at _ _) hsz).mono ?_
  rintro en w1 ⟨rfl, hsc, hb1, hz1⟩
  have hB : Below w.heap.size w w1 := ((Below.refl _ _).alloc (Nat.le_refl _) _).trans hb1
  clear hb1 hz1
  have hs1 : 1 ≤ Pl.sh e p := by unfold Pl.sh; omega
  have hs2 : Pl.sh e p ≤ 58 := by unfold Pl.sh; omega
  go_wp2_with fail
  refine (uscale_tab mn w.heap.size e p _ hmn2 ⟨b1, b2⟩ (by omega) (by omega) hsc).mono ?_
  rintro en w2 ⟨rfl, n2, rfl⟩
  have hu1 := Pl.scal_lt b1 b2 hs1 hmn2
  have hu2 := Pl.scal_ge b1 b2 hs2 hmn1 hmn2
  generalize hun : Pl.scal mn e p = un at hu1 hu2 ⊢
  have HUN := Lib.hid hun
  clear hun
  go_wp2_with fail
  refine (nudge_any un (un + odd) odd _ (by omega) (by omega) (by omega)).mono ?_
  rintro en w' ⟨rfl, rfl⟩
  go_wp2_with fail
  refine (ceil_any _ _ (by omega)).mono ?_
  rintro en w' ⟨rfl, rfl⟩
  generalize hdn : (un + odd + 3) / 4 = dn
  have hdn1 : dn ≤ 9223372036854775808 := by omega
  have HDN := Lib.hid hdn
  clear hdn
  go_wp2_with fail
  refine (uscale_tab mx w.heap.size e p _ hmx2 ⟨b1, b2⟩ (by omega) (by omega) (hsc.drewN _)).mono ?_
  rintro en w2 ⟨rfl, n3, rfl⟩
  have hv1 := Pl.scal_lt b1 b2 hs1 hmx2
  have hv2 := Pl.scal_ge b1 b2 hs2 hmx1 hmx2
  generalize hux : Pl.scal mx e p = ux at hv1 hv2 ⊢
  have HUX := Lib.hid hux
  clear hux
  go_wp2_with fail
  refine (nudge_any ux (ux - odd) _ _ (by omega) (by omega) (by omega)).mono ?_
  rintro en w' ⟨rfl, rfl⟩
  go_wp2_with fail
  refine (floor_any _ _ (by omega)).mono ?_
  rintro en w' ⟨rfl, rfl⟩
  generalize hdx : (ux - odd) / 4 = dx
  have hdx1 : dx ≤ 9223372036854775808 := by omega
  have HDX := Lib.hid hdx
  clear hdx
  have HG := Lib.hid (show Pl.sfTail m mn mx odd e p = if dn ≤ dx / 10 * 10 then (dx / 10, -(p - 1)) else if dn < dx then ((Pl.scal m e p + 1 + Pl.scal m e p / 4 % 2) / 4, -p) else (dn, -p) by unfold Pl.sfTail; rw [HUN.out, HUX.out, HDN.out, HDX.out])
  clear HUN HUX HDN HDX
  by_cases c1 : dn ≤ dx / 10 * 10
  · have HZ := Lib.hid (show Pl.shortF m e = (dx / 10, -(p - 1)) by rw [HF.out, HG.out, if_pos c1])
    clear HF HG
    go_wp2_with fail
    go_ret2
    exact ⟨by rw [HZ.out]; exact ret2i (by simp) (by simp), below_drewN hB _⟩
  · by_cases c2 : dn < dx
    · have HZ := Lib.hid (show Pl.shortF m e = ((Pl.scal m e p + 1 + Pl.scal m e p / 4 % 2) / 4, -p) by rw [HF.out, HG.out, if_neg c1, if_pos c2])
      clear HF HG
      go_wp2_with fail
      refine (uscale_tab m w.heap.size e p _ (by omega) ⟨b1, b2⟩ (by omega) (by omega) (hsc.drewN _)).mono ?_
      rintro en w2 ⟨rfl, n4, rfl⟩
      have hx1 := Pl.scal_lt b1 b2 hs1 (show m < 18446744073709551616 by omega)
      generalize Pl.scal m e p = um at hx1 HZ ⊢
      go_wp2_with fail
      refine (round_any _ _ (by omega)).mono ?_
      rintro en w' ⟨rfl, rfl⟩
      go_wp2_with fail
      go_ret2
      exact ⟨by rw [HZ.out]; exact ret2i (by simp) rfl, below_drewN hB _⟩
    · have HZ := Lib.hid (show Pl.shortF m e = (dn, -p) by rw [HF.out, HG.out, if_neg c1, if_neg c2])
      clear HF HG
      go_wp2_with fail
      go_ret2
      exact ⟨by rw [HZ.out]; exact ret2i (by simp) rfl, below_drewN hB _⟩

set_option maxHeartbeats 2000000 in
set_option maxRecDepth 100000 in
theorem short_skew (m : Nat) (e : Int) (w : World) (h1 : 9223372036854775808 ≤ m) (h2 : m ≤ 9223372036854775808) (he1 : -1085 < e) (he2 : e ≤ 960) (ht : Tab w) (hsz : 11 < w.heap.size) :
    Calls Tryz.prog 238 #[.int .u64 m, .int .i64 e] w fun en w' => en = .returned (.tuple #[.int .u64 (Pl.shortF m e).1, .int .i64 (Pl.shortF m e).2]) ∧ Below w.heap.size w w' := by
  have hm : ((m : Int) == 9223372036854775808) = true := by rw [beq_iff_eq]; omega
  go_enter Tryz.func238, Tryz.ntmps238
  go_wp2_with fail
  refine (skewed_any _ _ (by omega) (by omega)).mono ?_
  rintro en w' ⟨rfl, rfl⟩
  have hand : bits .and .i64 ((m : Int) / 2048) 1 = ((m / 2048 % 2 : Nat) : Int) := bits_and1i (show m / 2048 < 9223372036854775808 by omega)
  go_wp2_with fail
  obtain ⟨b1, b2, b3, b4⟩ := Pl.skew_bounds (show -1085 ≤ e by omega) he2
  generalize hp : -(((e + 11) * 631305 - 261663) / 2097152) = p at b1 b2 b3 b4 ⊢
  obtain ⟨mn, hmn⟩ : ∃ mn : Nat, (m : Int) - 512 = mn := ⟨m - 512, by omega⟩
  obtain ⟨mx, hmx⟩ : ∃ mx : Nat, (m : Int) + 1024 = mx := ⟨m + 1024, by omega⟩
  obtain ⟨odd, hodd⟩ : ∃ odd : Nat, (m : Int) / 2048 % 2 = odd := ⟨m / 2048 % 2, by omega⟩
  rw [hmn, hmx, hodd]
  have HM := Lib.hid (show m - 512 = mn ∧ m + 1024 = mx ∧ m / 2048 % 2 = odd ∧ -(((e + 11) * 631305 - 261663) / 2097152) = p from ⟨by omega, by omega, by omega, hp⟩)
  have hod : odd < 2 := by omega
  have hmn1 : 4611686018427387904 ≤ mn := by omega
  have hmn2 : mn < 18446744073709551616 := by omega
  have hmx1 : 4611686018427387904 ≤ mx := by omega
  have hmx2 : mx < 18446744073709551616 := by omega
  clear hmn hmx hodd hp hand
  have HF := Lib.hid (show Pl.shortF m e = Pl.sfTail m mn mx odd e p by obtain ⟨e1, e2, e3, e4⟩ := HM.out; unfold Pl.shortF; rw [if_pos (by omega)]; rw [e1, e2, e3, e4])
  clear HM
  refine (log2Pow10_any _ _ (by omega) (by omega)).mono ?_
  rintro en w' ⟨rfl, rfl⟩
  go_wp2_with fail
  refine (prescale_tab e p w.heap.size _ (v0 := .int .u64 0) (v1 := .int .u64 0) (v2 := .int .i64 0) (T := 246) ⟨by omega, by omega⟩ ⟨b1, b2⟩ (ht.below (B := w.heap.size) ((Below.refl _ _).alloc (Nat.le_refl _) _) hsz) (heap_alloc_at _ _) hsz).mono ?_
  rintro en w1 ⟨rfl, hsc, hb1, hz1⟩
  have hB : Below w.heap.size w w1 := ((Below.refl _ _).alloc (Nat.le_refl _) _).trans hb1
  clear hb1 hz1
  have hs1 : 1 ≤ Pl.sh e p := by unfold Pl.sh; omega
  have hs2 : Pl.sh e p ≤ 58 := by unfold Pl.sh; omega
  go_wp2_with fail
  refine (uscale_tab mn w.heap.size e p _ hmn2 ⟨b1, b2⟩ (by omega) (by omega) hsc).mono ?_
  rintro en w2 ⟨rfl, n2, rfl⟩
  have hu1 := Pl.scal_lt b1 b2 hs1 hmn2
  have hu2 := Pl.scal_ge b1 b2 hs2 hmn1 hmn2
  generalize hun : Pl.scal mn e p = un at hu1 hu2 ⊢
  have HUN := Lib.hid hun
  clear hun
  go_wp2_with fail
  refine (nudge_any un (un + odd) odd _ (by omega) (by omega) (by omega)).mono ?_
  rintro en w' ⟨rfl, rfl⟩
  go_wp2_with fail
  refine (ceil_any _ _ (by omega)).mono ?_
  rintro en w' ⟨rfl, rfl⟩
  generalize hdn : (un + odd + 3) / 4 = dn
  have hdn1 : dn ≤ 9223372036854775808 := by omega
  have HDN := Lib.hid hdn
  clear hdn
  go_wp2_with fail
  refine (uscale_tab mx w.heap.size e p _ hmx2 ⟨b1, b2⟩ (by omega) (by omega) (hsc.drewN _)).mono ?_
  rintro en w2 ⟨rfl, n3, rfl⟩
  have hv1 := Pl.scal_lt b1 b2 hs1 hmx2
  have hv2 := Pl.scal_ge b1 b2 hs2 hmx1 hmx2
  generalize hux : Pl.scal mx e p = ux at hv1 hv2 ⊢
  have HUX := Lib.hid hux
  clear hux
  go_wp2_with fail
  refine (nudge_any ux (ux - odd) _ _ (by omega) (by omega) (by omega)).mono ?_
  rintro en w' ⟨rfl, rfl⟩
  go_wp2_with fail
  refine (floor_any _ _ (by omega)).mono ?_
  rintro en w' ⟨rfl, rfl⟩
  generalize hdx : (ux - odd) / 4 = dx
  have hdx1 : dx ≤ 9223372036854775808 := by omega
  have HDX := Lib.hid hdx
  clear hdx
  have HG := Lib.hid (show Pl.sfTail m mn mx odd e p = if dn ≤ dx / 10 * 10 then (dx / 10, -(p - 1)) else if dn < dx then ((Pl.scal m e p + 1 + Pl.scal m e p / 4 % 2) / 4, -p) else (dn, -p) by unfold Pl.sfTail; rw [HUN.out, HUX.out, HDN.out, HDX.out])
  clear HUN HUX HDN HDX
  by_cases c1 : dn ≤ dx / 10 * 10
  · have HZ := Lib.hid (show Pl.shortF m e = (dx / 10, -(p - 1)) by rw [HF.out, HG.out, if_pos c1])
    clear HF HG
    go_wp2_with fail
    go_ret2
    exact ⟨by rw [HZ.out]; exact ret2i (by simp) (by simp), below_drewN hB _⟩
  · by_cases c2 : dn < dx
    · have HZ := Lib.hid (show Pl.shortF m e = ((Pl.scal m e p + 1 + Pl.scal m e p / 4 % 2) / 4, -p) by rw [HF.out, HG.out, if_neg c1, if_pos c2])
      clear HF HG
      go_wp2_with fail
      refine (uscale_tab m w.heap.size e p _ (by omega) ⟨b1, b2⟩ (by omega) (by omega) (hsc.drewN _)).mono ?_
      rintro en w2 ⟨rfl, n4, rfl⟩
      have hx1 := Pl.scal_lt b1 b2 hs1 (show m < 18446744073709551616 by omega)
      generalize Pl.scal m e p = um at hx1 HZ ⊢
      go_wp2_with fail
      refine (round_any _ _ (by omega)).mono ?_
      rintro en w' ⟨rfl, rfl⟩
      go_wp2_with fail
      go_ret2
      exact ⟨by rw [HZ.out]; exact ret2i (by simp) rfl, below_drewN hB _⟩
    · have HZ := Lib.hid (show Pl.shortF m e = (dn, -p) by rw [HF.out, HG.out, if_neg c1, if_neg c2])
      clear HF HG
      go_wp2_with fail
      go_ret2
      exact ⟨by rw [HZ.out]; exact ret2i (by simp) rfl, below_drewN hB _⟩

set_option maxHeartbeats 2000000 in
set_option maxRecDepth 100000 in
theorem short_edge (m : Nat) (e : Int) (w : World) (h1 : 9223372036854775808 ≤ m) (h2 : m ≤ 9223372036854775808) (he1 : -1085 ≤ e) (he2 : e ≤ -1085) (ht : Tab w) (hsz : 11 < w.heap.size) :
    Calls Tryz.prog 238 #[.int .u64 m, .int .i64 e] w fun en w' => en = .returned (.tuple #[.int .u64 (Pl.shortF m e).1, .int .i64 (Pl.shortF m e).2]) ∧ Below w.heap.size w w' := by
  have hm : ((m : Int) == 9223372036854775808) = true := by rw [beq_iff_eq]; omega
  go_enter Tryz.func238, Tryz.ntmps238
  go_wp2_with fail
  refine (log10Pow2_any _ _ (by omega) (by omega)).mono ?_
  rintro en w' ⟨rfl, rfl⟩
  have hand : bits .and .i64 ((m : Int) / 2048) 1 = ((m / 2048 % 2 : Nat) : Int) := bits_and1i (show m / 2048 < 9223372036854775808 by omega)
  go_wp2_with fail
  obtain ⟨b1, b2, b3, b4⟩ := Pl.mid_bounds he1 (show e ≤ 960 by omega)
  generalize hp : -((e + 11) * 78913 / 262144) = p at b1 b2 b3 b4 ⊢
  obtain ⟨mn, hmn⟩ : ∃ mn : Nat, (m : Int) - 1024 = mn := ⟨m - 1024, by omega⟩
  obtain ⟨mx, hmx⟩ : ∃ mx : Nat, (m : Int) + 1024 = mx := ⟨m + 1024, by omega⟩
  obtain ⟨odd, hodd⟩ : ∃ odd : Nat, (m : Int) / 2048 % 2 = odd := ⟨m / 2048 % 2, by omega⟩
  rw [hmn, hmx, hodd]
  have HM := Lib.hid (show m - 1024 = mn ∧ m + 1024 = mx ∧ m / 2048 % 2 = odd ∧ -((e + 11) * 78913 / 262144) = p from ⟨by omega, by omega, by omega, hp⟩)
  have hod : odd < 2 := by omega
  have hmn1 : 4611686018427387904 ≤ mn := by omega
  have hmn2 : mn < 18446744073709551616 := by omega
  have hmx1 : 4611686018427387904 ≤ mx := by omega
  have hmx2 : mx < 18446744073709551616 := by omega
  clear hmn hmx hodd hp hand
  have HF := Lib.hid (show Pl.shortF m e = Pl.sfTail m mn mx odd e p by obtain ⟨e1, e2, e3, e4⟩ := HM.out; unfold Pl.shortF; rw [if_neg (by omega), if_pos he1]; rw [e1, e2, e3, e4])
  clear HM
  refine (log2Pow10_any _ _ (by omega) (by omega)).mono ?_
  rintro en w' ⟨rfl, rfl⟩
  go_wp2_with fail
  refine (prescale_tab e p w.heap.size _ (v0 := .int .u64 0) (v1 := .int .u64 0) (v2 := .int .i64 0) (T := 246) ⟨by omega, by omega⟩ ⟨b1, b2⟩ (ht.below (B := w.heap.size) ((Below.refl _ _).alloc (Nat.le_refl _) _) hsz) (heap_alloc_at _ _) hsz).mono ?_
  rintro en w1 ⟨rfl, hsc, hb1, hz1⟩
  have hB : Below w.heap.size w w1 := ((Below.refl _ _).alloc (Nat.le_refl _) _).trans hb1
  clear hb1 hz1
  have hs1 : 1 ≤ Pl.sh e p := by unfold Pl.sh; omega
  have hs2 : Pl.sh e p ≤ 58 := by unfold Pl.sh; omega
  go_wp2_with fail
  refine (uscale_tab mn w.heap.size e p _ hmn2 ⟨b1, b2⟩ (by omega) (by omega) hsc).mono ?_
  rintro en w2 ⟨rfl, n2, rfl⟩
  have hu1 := Pl.scal_lt b1 b2 hs1 hmn2
  have hu2 := Pl.scal_ge b1 b2 hs2 hmn1 hmn2
  generalize hun : Pl.scal mn e p = un at hu1 hu2 ⊢
  have HUN := Lib.hid hun
  clear hun
  go_wp2_with fail
  refine (nudge_any un (un + odd) odd _ (by omega) (by omega) (by omega)).mono ?_
  rintro en w' ⟨rfl, rfl⟩
  go_wp2_with fail
  refine (ceil_any _ _ (by omega)).mono ?_
  rintro en w' ⟨rfl, rfl⟩
  generalize hdn : (un + odd + 3) / 4 = dn
  have hdn1 : dn ≤ 9223372036854775808 := by omega
  have HDN := Lib.hid hdn
  clear hdn
  go_wp2_with fail
  refine (uscale_tab mx w.heap.size e p _ hmx2 ⟨b1, b2⟩ (by omega) (by omega) (hsc.drewN _)).mono ?_
  rintro en w2 ⟨rfl, n3, rfl⟩
  have hv1 := Pl.scal_lt b1 b2 hs1 hmx2
  have hv2 := Pl.scal_ge b1 b2 hs2 hmx1 hmx2
  generalize hux : Pl.scal mx e p = ux at hv1 hv2 ⊢
  have HUX := Lib.hid hux
  clear hux
  go_wp2_with fail
  refine (nudge_any ux (ux - odd) _ _ (by omega) (by omega) (by omega)).mono ?_
  rintro en w' ⟨rfl, rfl⟩
  go_wp2_with fail
  refine (floor_any _ _ (by omega)).mono ?_
  rintro en w' ⟨rfl, rfl⟩
  generalize hdx : (ux - odd) / 4 = dx
  have hdx1 : dx ≤ 9223372036854775808 := by omega
  have HDX := Lib.hid hdx
  clear hdx
  have HG := Lib.hid (show Pl.sfTail m mn mx odd e p = if dn ≤ dx / 10 * 10 then (dx / 10, -(p - 1)) else if dn < dx then ((Pl.scal m e p + 1 + Pl.scal m e p / 4 % 2) / 4, -p) else (dn, -p) by unfold Pl.sfTail; rw [HUN.out, HUX.out, HDN.out, HDX.out])
  clear HUN HUX HDN HDX
  by_cases c1 : dn ≤ dx / 10 * 10
  · have HZ := Lib.hid (show Pl.shortF m e = (dx / 10, -(p - 1)) by rw [HF.out, HG.out, if_pos c1])
    clear HF HG
    go_wp2_with fail
    go_ret2
    exact ⟨by rw [HZ.out]; exact ret2i (by simp) (by simp), below_drewN hB _⟩
  · by_cases c2 : dn < dx
    · have HZ := Lib.hid (show Pl.shortF m e = ((Pl.scal m e p + 1 + Pl.scal m e p / 4 % 2) / 4, -p) by rw [HF.out, HG.out, if_neg c1, if_pos c2])
      clear HF HG
      go_wp2_with fail
      refine (uscale_tab m w.heap.size e p _ (by omega) ⟨b1, b2⟩ (by omega) (by omega) (hsc.drewN _)).mono ?_
      rintro en w2 ⟨rfl, n4, rfl⟩
      have hx1 := Pl.scal_lt b1 b2 hs1 (show m < 18446744073709551616 by omega)
      generalize Pl.scal m e p = um at hx1 HZ ⊢
      go_wp2_with fail
      refine (round_any _ _ (by omega)).mono ?_
      rintro en w' ⟨rfl, rfl⟩
      go_wp2_with fail
      go_ret2
      exact ⟨by rw [HZ.out]; exact ret2i (by simp) rfl, below_drewN hB _⟩
    · have HZ := Lib.hid (show Pl.shortF m e = (dn, -p) by rw [HF.out, HG.out, if_neg c1, if_neg c2])
      clear HF HG
      go_wp2_with fail
      go_ret2
      exact ⟨by rw [HZ.out]; exact ret2i (by simp) rfl, below_drewN hB _⟩
end Go.Proofs.YtlodbibagmblkaaGreatDoor
namespace Go.Proofs.YtlodbibagmblkaaGreatDoor
open Go.RowKit
theorem Pl.den_parts (m k : Nat) (e : Int) (h1 : 9223372036854775808 ≤ m) (h2 : m < 18446744073709551616) (hk1 : 12 ≤ k) (hk2 : k ≤ 63) (he : e = -1074 - k) (hmk : m % 2 ^ k = 0) :
    ∃ mn mx odd : Nat, IntKind.u64.wrap ((m : Int) - IntKind.u64.wrap (2 ^ ((11 + (-1085 - e)).toNat - 1))) = mn ∧ IntKind.u64.wrap ((m : Int) + IntKind.u64.wrap (2 ^ ((11 + (-1085 - e)).toNat - 1))) = mx ∧ bits BinOp.and IntKind.i64 (wrap64 ((m : Int) / 2 ^ (11 + (-1085 - e)).toNat)) 1 = odd ∧ odd < 2 ∧ 4611686018427387904 ≤ mn ∧ mn < 18446744073709551616 ∧ 4611686018427387904 ≤ mx ∧ mx < 18446744073709551616 ∧ Pl.shortF m e = Pl.sfTail m mn mx odd e 324 := by
  have hz : (11 + (-1085 - e)).toNat = k := by omega
  have hz2 : (-1074 - e).toNat = k := by omega
  have hz3 : (-1075 - e).toNat = k - 1 := by omega
  have hp : 2 ^ k = 2 * 2 ^ (k - 1) := by
    have : k = k - 1 + 1 := by omega
    rw [this, Nat.pow_succ]; simp; omega
  have hk0 : 2 ^ (k - 1) ≤ 2 ^ 62 := Nat.pow_le_pow_right (by decide) (by omega)
  have hk3 : 2 ^ k * 2 ^ (64 - k) = 18446744073709551616 := by
    rw [← Nat.pow_add, show k + (64 - k) = 64 by omega]
  have hq : m / 2 ^ k < 2 ^ (64 - k) := by
    rw [Nat.div_lt_iff_lt_mul (Nat.pow_pos (by decide)), Nat.mul_comm, hk3]; exact h2
  have hq2 : 2 ^ k * (m / 2 ^ k + 1) ≤ 2 ^ k * 2 ^ (64 - k) := Nat.mul_le_mul_left _ hq
  have hm : 2 ^ k * (m / 2 ^ k) = m := Nat.mul_div_cancel' (Nat.dvd_of_mod_eq_zero hmk)
  have hq3 : m / 2 ^ k < 9223372036854775808 := by
    have : 2 ^ 12 ≤ 2 ^ k := Nat.pow_le_pow_right (by decide) hk1
    rw [Nat.div_lt_iff_lt_mul (Nat.pow_pos (by decide))]; omega
  rw [Nat.mul_add, hm, hk3] at hq2
  have hS : Pl.shortF m e = Pl.sfTail m (m - 2 ^ (k - 1)) (m + 2 ^ (k - 1)) (m / 2 ^ k % 2) e 324 := by
    unfold Pl.shortF
    rw [if_neg (by omega), if_neg (by omega), hz2, hz3]
  have hc : ((2 ^ k : Nat) : Int) = (2 : Int) ^ k := by simp
  have hc' : ((2 ^ (k - 1) : Nat) : Int) = (2 : Int) ^ (k - 1) := by simp
  have hdv : (m : Int) / 2 ^ k = ((m / 2 ^ k : Nat) : Int) := by rw [← hc]; simp
  rw [hz, ← hc', hdv]
  generalize 2 ^ (k - 1) = P at *
  generalize m / 2 ^ k = q at *
  rw [wrap_nat (show P < 18446744073709551616 by omega)]
  refine ⟨m - P, m + P, q % 2, ?_, ?_, ?_, by omega, by omega, by omega, by omega, by omega, hS⟩
  · rw [show (m : Int) - (P : Int) = ((m - P : Nat) : Int) by omega, wrap_nat (by omega)]
  · rw [show (m : Int) + (P : Int) = ((m + P : Nat) : Int) by omega, wrap_nat (by omega)]
  · rw [show wrap64 (q : Int) = (q : Int) from IntWalk.wrap64_in _ (by omega)]
    exact bits_and1i hq3
set_option maxHeartbeats 2000000 in
set_option maxRecDepth 100000 in
theorem short_den (m k : Nat) (e : Int) (w : World) (h1 : 9223372036854775808 ≤ m) (h2 : m < 18446744073709551616) (hk1 : 12 ≤ k) (hk2 : k ≤ 63) (he : Hid (e = -1074 - k)) (hmk : m % 2 ^ k = 0) (ht : Tab w) (hsz : 11 < w.heap.size) :
    Calls Tryz.prog 238 #[.int .u64 m, .int .i64 e] w fun en w' => en = .returned (.tuple #[.int .u64 (Pl.shortF m e).1, .int .i64 (Pl.shortF m e).2]) ∧ Below w.heap.size w w' := by
  have HD := Lib.hid (Pl.den_parts m k e h1 h2 hk1 hk2 he.out hmk)
  have hl : e < -1085 := by have := he.out; omega
  have hl2 : -1138 < e := by have := he.out; omega
  clear hmk
  obtain ⟨bb, hm⟩ : ∃ bb : Bool, ((m : Int) == 9223372036854775808) = bb := ⟨_, rfl⟩
  cases bb
  all_goals
    go_enter Tryz.func238, Tryz.ntmps238
    go_wp2_with fail
    rw [show (e + (11 + (-1085 - e)) : Int) = -1074 by omega]
    refine (log10Pow2_any _ _ (by omega) (by omega)).mono ?_
    rintro en w' ⟨rfl, rfl⟩
    go_wp2_with fail
    obtain ⟨mn, mx, odd, hmn, hmx, hodd, hod, hmn1, hmn2, hmx1, hmx2, hS⟩ := HD.out
    rw [hmn, hmx, hodd]
    have HF := Lib.hid hS
    clear hmn hmx hodd hS
    generalize hp : (324 : Int) = p at HF ⊢
    have b1 : -348 ≤ p := by omega
    have b2 : p ≤ 347 := by omega
    have b3 : 1 ≤ -(e + p * 108853 / 32768 + 3) := by omega
    have b4 : -(e + p * 108853 / 32768 + 3) ≤ 58 := by omega
    clear hp
    refine (log2Pow10_any _ _ (by omega) (by omega)).mono ?_
    rintro en w' ⟨rfl, rfl⟩
    go_wp2_with fail
    refine (prescale_tab e p w.heap.size _ (v0 := .int .u64 0) (v1 := .int .u64 0) (v2 := .int .i64 0) (T := 246) ⟨by omega, by omega⟩ ⟨b1, b2⟩ (ht.below (B := w.heap.size) ((Below.refl _ _).alloc (Nat.le_refl _) _) hsz) (heap_alloc_at _ _) hsz).mono ?_
    rintro en w1 ⟨rfl, hsc, hb1, hz1⟩
    have hB : Below w.heap.size w w1 := ((Below.refl _ _).alloc (Nat.le_refl _) _).trans hb1
    clear hb1 hz1
    have hs1 : 1 ≤ Pl.sh e p := by unfold Pl.sh; omega
    have hs2 : Pl.sh e p ≤ 58 := by unfold Pl.sh; omega
    go_wp2_with fail
    refine (uscale_tab mn w.heap.size e p _ hmn2 ⟨b1, b2⟩ (by omega) (by omega) hsc).mono ?_
    rintro en w2 ⟨rfl, n2, rfl⟩
    have hu1 := Pl.scal_lt b1 b2 hs1 hmn2
    have hu2 := Pl.scal_ge b1 b2 hs2 hmn1 hmn2
    generalize hun : Pl.scal mn e p = un at hu1 hu2 ⊢
    have HUN := Lib.hid hun
    clear hun
    go_wp2_with fail
    refine (nudge_any un (un + odd) odd _ (by omega) (by omega) (by omega)).mono ?_
    rintro en w' ⟨rfl, rfl⟩
    go_wp2_with fail
    refine (ceil_any _ _ (by omega)).mono ?_
    rintro en w' ⟨rfl, rfl⟩
    generalize hdn : (un + odd + 3) / 4 = dn
    have hdn1 : dn ≤ 9223372036854775808 := by omega
    have HDN := Lib.hid hdn
    clear hdn
    go_wp2_with fail
    refine (uscale_tab mx w.heap.size e p _ hmx2 ⟨b1, b2⟩ (by omega) (by omega) (hsc.drewN _)).mono ?_
    rintro en w2 ⟨rfl, n3, rfl⟩
    have hv1 := Pl.scal_lt b1 b2 hs1 hmx2
    have hv2 := Pl.scal_ge b1 b2 hs2 hmx1 hmx2
    generalize hux : Pl.scal mx e p = ux at hv1 hv2 ⊢
    have HUX := Lib.hid hux
    clear hux
    go_wp2_with fail
    refine (nudge_any ux (ux - odd) _ _ (by omega) (by omega) (by omega)).mono ?_
    rintro en w' ⟨rfl, rfl⟩
    go_wp2_with fail
    refine (floor_any _ _ (by omega)).mono ?_
    rintro en w' ⟨rfl, rfl⟩
    generalize hdx : (ux - odd) / 4 = dx
    have hdx1 : dx ≤ 9223372036854775808 := by omega
    have HDX := Lib.hid hdx
    clear hdx
    have HG := Lib.hid (show Pl.sfTail m mn mx odd e p = if dn ≤ dx / 10 * 10 then (dx / 10, -(p - 1)) else if dn < dx then ((Pl.scal m e p + 1 + Pl.scal m e p / 4 % 2) / 4, -p) else (dn, -p) by unfold Pl.sfTail; rw [HUN.out, HUX.out, HDN.out, HDX.out])
    clear HUN HUX HDN HDX
    by_cases c1 : dn ≤ dx / 10 * 10
    · have HZ := Lib.hid (show Pl.shortF m e = (dx / 10, -(p - 1)) by rw [HF.out, HG.out, if_pos c1])
      clear HF HG
      go_wp2_with fail
      go_ret2
      exact ⟨by rw [HZ.out]; exact ret2i (by simp) (by simp), below_drewN hB _⟩
    · by_cases c2 : dn < dx
      · have HZ := Lib.hid (show Pl.shortF m e = ((Pl.scal m e p + 1 + Pl.scal m e p / 4 % 2) / 4, -p) by rw [HF.out, HG.out, if_neg c1, if_pos c2])
        clear HF HG
        go_wp2_with fail
        refine (uscale_tab m w.heap.size e p _ (by omega) ⟨b1, b2⟩ (by omega) (by omega) (hsc.drewN _)).mono ?_
        rintro en w2 ⟨rfl, n4, rfl⟩
        have hx1 := Pl.scal_lt b1 b2 hs1 (show m < 18446744073709551616 by omega)
        generalize Pl.scal m e p = um at hx1 HZ ⊢
        go_wp2_with fail
        refine (round_any _ _ (by omega)).mono ?_
        rintro en w' ⟨rfl, rfl⟩
        go_wp2_with fail
        go_ret2
        exact ⟨by rw [HZ.out]; exact ret2i (by simp) rfl, below_drewN hB _⟩
      · have HZ := Lib.hid (show Pl.shortF m e = (dn, -p) by rw [HF.out, HG.out, if_neg c1, if_neg c2])
        clear HF HG
        go_wp2_with fail
        go_ret2
        exact ⟨by rw [HZ.out]; exact ret2i (by simp) rfl, below_drewN hB _⟩
end Go.Proofs.YtlodbibagmblkaaGreatDoor
namespace Go.Proofs.YtlodbibagmblkaaGreatDoor
open Go.RowKit Go.Lib Go.Sort
namespace Pl
/-- Without noughts at the end. -/
def trimZ (l : List UInt8) : List UInt8 := (l.reverse.dropWhile (· == 48)).reverse
theorem trimZ_snoc_zero (l : List UInt8) : trimZ (l ++ [48]) = trimZ l := by simp [trimZ]
theorem trimZ_snoc {l : List UInt8} {c : UInt8} (h : c ≠ 48) : trimZ (l ++ [c]) = l ++ [c] := by simp [trimZ, h]
theorem take_snoc {l : List UInt8} {k : Nat} (h : k < l.length) : l.take (k + 1) = l.take k ++ [l[k]] := List.take_succ_eq_append_getElem h
/-- The digits of a number without noughts at the end. -/
def sig (d : Nat) : List UInt8 := trimZ (decDigits d)
end Pl
abbrev enc8 (b : UInt8) : Value := .int .u8 (b.toNat : Int)
theorem below_putRow (w : World) (b off : Nat) (d : Array UInt8) : Below b w (putRow enc8 w b off d) ∧ (putRow enc8 w b off d).heap.size = w.heap.size := by
  have hs : (putRow enc8 w b off d).heap.size = w.heap.size := by simp [putRow, mapBlock]
  refine ⟨⟨rfl, rfl, rfl, by rw [hs]; exact Nat.le_refl _, fun k hk => ?_⟩, hs⟩
  simp only [putRow, mapBlock, Array.getElem?_modify]
  rw [if_neg (by omega)]
def SetOk (b d : Nat) (p : Int) (w : World) (e : Ending) (w' : World) : Prop :=
  e = .returned (.tuple #[.int .i64 (nDigits d + p), .int .i64 (Pl.sig d).length]) ∧ (∀ j (h : j < (decDigits d).length), w'.cell? ⟨b, j, none⟩ = some (enc8 (decDigits d)[j])) ∧ Below b w w' ∧ w'.heap.size = w.heap.size
set_option maxHeartbeats 1000000 in
theorem setDigits_any (b d : Nat) (p : Int) (w : World) (hH : Holds enc8 w b 0 (Array.replicate 32 0)) (hd : d < 18446744073709551616) (hn : nDigits d ≤ 20) (hp : -1000 ≤ p ∧ p ≤ 1000) :
    Calls Tryz.prog 231 #[.slice (some ⟨b, 0, none⟩) 32 32, .int .u64 d, .int .i64 p, .int .i64 (nDigits d)] w (SetOk b d p w) := by
  have HD := Lib.hid (lt_pow_nDigits d)
  have HL := Lib.hid (decDigits_length d)
  have hH2 : Holds enc8 w b 0 (Array.replicate (nDigits d) 0) := by
    intro j hj
    have hj' : j < nDigits d := by simpa using hj
    have h := hH j (by simp; omega)
    rw [getElem!_pos _ j (by simp; omega)] at h
    rw [getElem!_pos _ j hj]
    simpa using h
  clear hH
  have HH := Lib.hid hH2
  have HF := Lib.hid (fun (w : World) (h : Holds enc8 w b 0 (Array.replicate (nDigits d) 0)) => Tryz.internal_strconv_formatBase10 b 0 32 d (Array.replicate (nDigits d) 0) w h (by simpa using HD.out) hd (by simp; omega))
  clear hH2
  go_enter Tryz.func231, Tryz.ntmps231
  go_wp2_with fail
  have hc := HF.out w HH.out
  simp only [Array.size_replicate] at hc
  refine hc.mono ?_
  rintro e w1 ⟨rfl, n1, v1, dk, rfl, hinv⟩
  have hcell : ∀ j (h : j < (decDigits d).length), (putRow enc8 w b 0 dk).cell? ⟨b, j, none⟩ = some (enc8 (decDigits d)[j]) := by
    intro j hj
    have hz := hinv.size
    have hj' : j < nDigits d := by rw [← HL.out]; exact hj
    have h := cell?_putRow enc8 w b 0 _ dk HH.out (by rw [hz]; simp) j (by omega)
    rw [Nat.zero_add] at h
    rw [h, row_is_numeral hinv j hj]
  have hB := below_putRow w b 0 dk
  obtain ⟨w1, hW⟩ : ∃ w1, putRow enc8 w b 0 dk = w1 := ⟨_, rfl⟩
  have hW' : putRow (fun (b : UInt8) => Value.int .u8 (b.toNat : Int)) w b 0 dk = w1 := hW
  rw [hW']
  rw [hW] at hcell hB
  clear hW hW'
  have HC := Lib.hid hcell
  clear hcell hinv hc HF HH HD
  go_wp2_with fail
  go_loop [3] (fun n => ∃ k : Nat, k ≤ nDigits d ∧ n = .int .i64 k ∧ Pl.trimZ ((decDigits d).take k) = Pl.sig d) (fun n => (RowKit.intOf n).toNat)
  case atStart => exact ⟨nDigits d, Nat.le_refl _, rfl, by rw [List.take_of_length_le (by rw [HL.out]; exact Nat.le_refl _)]; rfl⟩
  case round =>
    obtain ⟨k, hk, rfl, hz⟩ := hrel
    have HZ := Lib.hid hz
    clear hz
    cases k with
    | zero =>
      go_wp2_with fail
      go_ret2
      refine ⟨ret2i rfl ?_, fun j h => by rw [World.cell?_drewN]; exact HC.out j h, below_drewN hB.1 _, hB.2⟩
      rw [← HZ.out]; simp [Pl.trimZ]
    | succ k =>
      have hk2 : k < (decDigits d).length := by rw [HL.out]; omega
      have hc : w1.cell? ⟨b, k, none⟩ = some (.int .u8 ((decDigits d)[k].toNat : Int)) := HC.out k hk2
      have HT := Lib.hid (Pl.take_snoc hk2)
      generalize (decDigits d)[k] = c at hc HT
      have hcb : c.toNat < 256 := c.toNat_lt
      by_cases h0 : c = 48
      · have h48 : ((c.toNat : Int) == 48) = true := by rw [h0]; rfl
        have HN := Lib.hid (show Pl.trimZ ((decDigits d).take k) = Pl.sig d by rw [← HZ.out, HT.out, h0, Pl.trimZ_snoc_zero])
        clear h0 HT HZ
        go_wp2_with fail
        go_round
        case rel => exact ⟨k, by omega, by go_num, HN.out⟩
        case measure => simp [RowKit.intOf]
      · have h48 : ((c.toNat : Int) == 48) = false := by
          rw [beq_eq_false_iff_ne]; intro h; apply h0; apply UInt8.toNat_inj.1; rw [show (48 : UInt8).toNat = 48 from rfl]; omega
        have HN := Lib.hid (show (Pl.sig d).length = k + 1 by rw [← HZ.out, HT.out, Pl.trimZ_snoc h0]; simp; omega)
        clear h0 HT HZ
        go_wp2_with fail
        go_ret2
        exact ⟨ret2i rfl (by rw [HN.out]; simp), fun j h => by rw [World.cell?_drewN]; exact HC.out j h, below_drewN hB.1 _, hB.2⟩
end Go.Proofs.YtlodbibagmblkaaGreatDoor
namespace Go.Proofs.YtlodbibagmblkaaGreatDoor
open Go Go.RowKit Go.Lib

/-- The slice value 'v', of 'n' elements of 'size' cells each, owns the cells 'xs'; no cell up to its capacity is frozen. -/
def Owns (w : World) (base : Nat) (e : TypeId) (size : Nat) (v : Value) (n : Nat) (xs : List Value) : Prop :=
  xs.length = n * size ∧
  ((v = .slice none 0 0 ∧ n = 0) ∨
   ∃ g cap cur fz, v = .slice (some ⟨g, 0, none⟩) n cap ∧ base ≤ g ∧ w.heap[g]? = some (.cells cur e fz) ∧ (fz.2 ≤ fz.1 ∨ cap * size ≤ fz.1) ∧ n ≤ cap ∧ cap ≤ maxLen ∧ cur.size = cap * size ∧ cur.toList.take (n * size) = xs)

/-- From (w, v) to (w', v'): new blocks, and writes to v's own block alone; v' lies in v's block or in a new one. -/
def Grow (w : World) (v : Value) (w' : World) (v' : Value) : Prop :=
  w.grownBy w' v.ownBlock ∧ (v'.ownBlock = v.ownBlock ∨ ∀ k, v'.ownBlock = some k → w.heap.size ≤ k)

section
variable {w : World} {base : Nat} {e : TypeId} {size : Nat} {v : Value} {n : Nat} {xs : List Value}

theorem Grow.refl (w : World) (v : Value) : Grow w v w v := ⟨⟨rfl, rfl, rfl, Nat.le_refl _, fun _ _ _ => rfl⟩, .inl rfl⟩
theorem Grow.trans {w w1 w2 : World} {v v1 v2 : Value} (h : Grow w v w1 v1) (k : Grow w1 v1 w2 v2) : Grow w v w2 v2 := by
  obtain ⟨h1, h2⟩ := h
  obtain ⟨k1, k2⟩ := k
  have hs := h1.size
  refine ⟨⟨k1.os.trans h1.os, k1.tape.trans h1.tape, k1.output.trans h1.output, Nat.le_trans h1.size k1.size, fun j hj hne => ?_⟩, ?_⟩
  · refine (k1.block j (by omega) ?_).trans (h1.block j hj hne)
    rcases h2 with h2 | h2
    · rw [h2]; exact hne
    · intro e; have := h2 j e.symm; omega
  · rcases k2 with k2 | k2
    · rw [k2]; exact h2
    · exact .inr fun j hj => by have := k2 j hj; omega
theorem Grow.alloc (w : World) (v : Value) (o : Obj) : Grow w v (w.alloc o) v :=
  ⟨World.grownBy_alloc w o _, .inl rfl⟩
theorem Grow.drew (w : World) (v : Value) : Grow w v w.drew v := ⟨⟨rfl, rfl, rfl, Nat.le_refl _, fun _ _ _ => rfl⟩, .inl rfl⟩
theorem Grow.below {w0 w w' : World} {v v' : Value} {B : Nat} (h : Grow w v w' v') (hb : Below B w0 w) (hB : B ≤ w.heap.size) (hv : ∀ k, v.ownBlock = some k → B ≤ k) : Below B w0 w' :=
  hb.grown h.1 hB hv

theorem Owns.nil (w : World) (base : Nat) (e : TypeId) (size : Nat) : Owns w base e size (.slice none 0 0) 0 [] := ⟨by simp, .inl ⟨rfl, rfl⟩⟩
theorem Owns.lt (h : Owns w base e size v n xs) : ∀ k, v.ownBlock = some k → base ≤ k ∧ k < w.heap.size := by
  intro k hk
  rcases h.2 with ⟨rfl, _⟩ | ⟨g, cap, cur, fz, rfl, hb, hg, _⟩
  · simp [Value.ownBlock] at hk
  · simp [Value.ownBlock] at hk
    subst hk
    exact ⟨hb, (Array.getElem?_eq_some_iff.1 hg).1⟩
theorem Owns.kept {w' : World} {row : Option Nat} (h : Owns w base e size v n xs) (hg : w.grownBy w' row) (hne : v.ownBlock = none ∨ v.ownBlock ≠ row) : Owns w' base e size v n xs := by
  refine ⟨h.1, ?_⟩
  rcases h.2 with hn | ⟨g, cap, cur, fz, rfl, hb, hgg, rest⟩
  · exact .inl hn
  · refine .inr ⟨g, cap, cur, fz, rfl, hb, ?_, rest⟩
    rw [hg.block g (Array.getElem?_eq_some_iff.1 hgg).1 (by simpa [Value.ownBlock] using hne)]
    exact hgg
theorem Owns.alloc (h : Owns w base e size v n xs) (o : Obj) : Owns (w.alloc o) base e size v n xs :=
  h.kept (World.grownBy_alloc w o none) (by cases v.ownBlock <;> simp)
theorem Owns.drew (h : Owns w base e size v n xs) : Owns w.drew base e size v n xs := h
theorem Owns.below {w' : World} {B : Nat} (h : Owns w base e size v n xs) (hb : Below B w w') (hB : ∀ k, v.ownBlock = some k → k < B) : Owns w' base e size v n xs := by
  refine ⟨h.1, ?_⟩
  rcases h.2 with hn | ⟨g, cap, cur, fz, rfl, hb1, hgg, rest⟩
  · exact .inl hn
  · exact .inr ⟨g, cap, cur, fz, rfl, hb1, (hb.block g (hB g rfl)).trans hgg, rest⟩
theorem Owns.cells (h : Owns w base e size v n xs) {g : Nat} (hg : v.ownBlock = some g) : ∀ j u, xs[j]? = some u → w.cell? ((⟨g, 0, none⟩ : Addr).add j) = some u := by
  intro j u hu
  rcases h.2 with ⟨rfl, _⟩ | ⟨g', cap, cur, fz, rfl, _, hgg, _, _, _, _, htake⟩
  · simp [Value.ownBlock] at hg
  · simp [Value.ownBlock] at hg
    subst hg
    have hadd : (⟨g', 0, none⟩ : Addr).add j = ⟨g', j, none⟩ := by unfold Addr.add; split <;> simp_all
    rw [hadd, cell_of_row w g' j cur e fz hgg]
    rw [← htake, List.getElem?_take] at hu
    split at hu
    · simpa using hu
    · cases hu
theorem Owns.of_row (h : w.ownsRow base e size v n xs) : Owns w base e size v n xs := by
  refine ⟨h.1, ?_⟩
  rcases h.2 with hn | ⟨g, cap, cur, hv, hb, hg, rest⟩
  · exact .inl hn
  · exact .inr ⟨g, cap, cur, (0, 0), hv, hb, hg, .inl (Nat.le_refl _), rest⟩
/-- The form of an owner. -/
theorem Owns.form (h : Owns w base e size v n xs) : ∃ a c, v = .slice a n c := by
  rcases h.2 with ⟨rfl, rfl⟩ | ⟨g, cap, cur, fz, rfl, _⟩
  · exact ⟨_, _, rfl⟩
  · exact ⟨_, _, rfl⟩
end

/-- Cells stored where nothing is frozen. -/
theorem run_storeCells_free (P : Program) (g o : Nat) (t : TypeId) (fz : Nat × Nat) : ∀ (vs : List Value) (i : Nat) (cur : Array Value) (w : World), w.heap[g]? = some (.cells cur t fz) → (fz.2 ≤ fz.1 ∨ o + i + vs.length ≤ fz.1) → o + i + vs.length ≤ cur.size → (∀ v ∈ vs, v.oneCell' = true) →
    (storeCells ⟨g, o, none⟩ vs i).run P w = .ok () (w.setRow g (cur.toList.take (o + i) ++ vs ++ cur.toList.drop (o + i + vs.length)).toArray)
  | [], i, cur, w, hg, _, _, _ => by
    simp only [storeCells, List.append_nil, List.length_nil, Nat.add_zero, List.take_append_drop, Array.toArray_toList]
    rw [setRow_self w g cur t fz hg]
    rfl
  | v :: rest, i, cur, w, hg, hfz, hl, h1 => by
    have hi : o + i < cur.size := by simp at hl; omega
    have hadd : (⟨g, o, none⟩ : Addr).add i = ⟨g, o + i, none⟩ := by unfold Addr.add; split <;> simp_all
    have hcell : w.cell? ⟨g, o + i, none⟩ = some cur[o + i] := by simp [World.cell?, hg, hi]
    have hfro : w.frozen? ⟨g, o + i, none⟩ = false := by
      obtain ⟨lo, hi'⟩ := fz
      simp only [World.frozen?, hg, Bool.and_eq_false_iff, decide_eq_false_iff_not]
      simp only [List.length_cons] at hfz
      omega
    have hst : (store ((⟨g, o, none⟩ : Addr).add i) v).run P w = .ok () (w.setRow g (cur.setIfInBounds (o + i) v)) := by
      rw [hadd, run_store P w _ v _ (h1 v (by simp)), hcell]
      simp [hfro, setCell_eq_setRow w g (o + i) cur t fz v hg]
    have ih := run_storeCells_free P g o t fz rest (i + 1) (cur.setIfInBounds (o + i) v) (w.setRow g (cur.setIfInBounds (o + i) v)) (setRow_heap w g cur _ t _ hg) (by simp at hfz; omega) (by simp at hl ⊢; omega) (fun x hx => h1 x (by simp [hx]))
    simp only [storeCells, Sem.run_bind, hst, Result.andThen_ok, ih, setRow_setRow]
    congr 3
    have e := list_seg_step cur.toList (o + i) v rest (by simp at hl ⊢; omega)
    simpa [Array.toList_setIfInBounds, Nat.add_assoc] using e

section
variable {P : Program} {w : World} {base : Nat} {e : TypeId} {size : Nat} {v : Value} {n : Nat} {xs : List Value}

/-- What a new row of the elements and zeros owns. -/
theorem Owns.grown (z : Value) (hzs : z.cells.size = size) (xs : List Value) (n old : Nat) (hlen : xs.length = n * size) (h63 : n ≤ maxLen) (hbase : base ≤ w.heap.size) (u : Value) :
    Owns (w.drew.alloc (.cells (xs.toArray ++ Builtin.zeroCells z.cells (grownCap w n old e - n)) e)) base e size (.slice (some ⟨w.heap.size, 0, none⟩) n (grownCap w n old e)) n xs ∧
    Grow w u (w.drew.alloc (.cells (xs.toArray ++ Builtin.zeroCells z.cells (grownCap w n old e - n)) e)) (.slice (some ⟨w.heap.size, 0, none⟩) n (grownCap w n old e)) := by
  have hge := grownCap_ge w n old e
  have hcm : grownCap w n old e ≤ maxLen := grownCap_le_maxLen w n old e h63
  refine ⟨⟨hlen, .inr ⟨w.heap.size, _, _, (0, 0), rfl, hbase, heap_alloc_new w.drew _, .inl (Nat.le_refl _), hge, hcm, ?_, ?_⟩⟩, ⟨⟨rfl, rfl, rfl, by simp, fun k hk _ => Below.heap_alloc w.drew _ k hk⟩, .inr fun k hk => ?_⟩⟩
  · simp only [Array.size_append, List.size_toArray, size_zeroCells, hzs, hlen, ← Nat.add_mul]
    congr 1
    omega
  · simp only [Array.toList_append]
    rw [← hlen]
    exact List.take_left
  · simp [Value.ownBlock] at hk; omega

/-- Writing behind the elements, within the capacity. -/
theorem Owns.room {g cap : Nat} {cur : Array Value} {fz : Nat × Nat} {news : List Value} {m : Nat} (hxs : cur.toList.take (n * size) = xs) (hxl : xs.length = n * size) (hl : news.length = m * size) (hbg : base ≤ g)
    (hg : w.heap[g]? = some (.cells cur e fz)) (hfz : fz.2 ≤ fz.1 ∨ cap * size ≤ fz.1) (hcm : cap ≤ maxLen) (hcs : cur.size = cap * size) (hroom : n + m ≤ cap) :
    Owns (w.setRow g (cur.toList.take (n * size) ++ news ++ cur.toList.drop (n * size + news.length)).toArray) base e size (.slice (some ⟨g, 0, none⟩) (n + m) cap) (n + m) (xs ++ news) ∧
    Grow w (.slice (some ⟨g, 0, none⟩) n cap) (w.setRow g (cur.toList.take (n * size) ++ news ++ cur.toList.drop (n * size + news.length)).toArray) (.slice (some ⟨g, 0, none⟩) (n + m) cap) := by
  have hlen : (xs ++ news).length = (n + m) * size := by rw [List.length_append, hxl, hl, Nat.add_mul]
  have hle : (n + m) * size ≤ cap * size := Nat.mul_le_mul_right _ hroom
  have ha : n * size + m * size = (n + m) * size := (Nat.add_mul n m size).symm
  refine ⟨⟨hlen, .inr ⟨g, cap, _, fz, rfl, hbg, setRow_heap w g cur _ e _ hg, hfz, hroom, hcm, ?_, ?_⟩⟩, ⟨⟨rfl, rfl, rfl, by simp, fun k _ hk => setRow_other w g k _ (fun e => hk (by simp [Value.ownBlock, e]))⟩, .inl rfl⟩⟩
  · simp only [List.size_toArray, List.length_append, List.length_take, List.length_drop, Array.length_toList]
    omega
  · rw [hxs, ← hlen]
    exact List.take_left

theorem run_append_owns (t ty : TypeId) (i : TypeInfo) (z : Value) (bytes : Nat) (ht : P.underlying t = some (.slice e)) (hi : P.info? e = some i) (hz : i.zero = some z)
    (hsize : i.size = size) (hby : i.bytes = bytes) (hzs : z.cells.size = size) (hown : Owns w base e size v n xs)
    (a : Addr) (m c : Nat) (news : List Value) (hl : news.length = m * size) (hnews : ∀ j u, news[j]? = some u → w.cell? (a.add j) = some u) (h1 : ∀ u ∈ news, u.oneCell' = true)
    (h63 : n + m ≤ maxLen) (hbytes : (n + m) * bytes ≤ 140737488355328) (hbase : base ≤ w.heap.size) :
    ∃ v' w', (Builtin.append_ #[t, t] ty #[v, .slice (some a) m c]).run P w = .ok v' w' ∧ Owns w' base e size v' (n + m) (xs ++ news) ∧ Grow w v w' v' := by
  subst hsize
  subst hby
  have hsmall : n + m ≤ 9223372036854775807 := by simp only [maxLen] at h63; omega
  have hlen : (xs ++ news).length = (n + m) * i.size := by rw [List.length_append, hown.1, hl, Nat.add_mul]
  rcases hown.2 with ⟨rfl, rfl⟩ | ⟨g, cap, cur, fz, rfl, hbg, hg, hfz, hnc, hcm, hcs, htake⟩
  · have hx : xs = [] := List.eq_nil_of_length_eq_zero (by simpa using hown.1)
    subst hx
    by_cases hm : m = 0
    · subst hm
      have hn : news = [] := List.eq_nil_of_length_eq_zero (by simpa using hl)
      subst hn
      refine ⟨.slice none 0 0, w, ?_, Owns.nil w base e i.size, Grow.refl _ _⟩
      simp [Builtin.append_, run_underlying ht, sizeOf, typeInfo, hi, Builtin.lenOf, Builtin.firstCells, loadCells, loadCellsFrom]
    · have hr := run_append_nil (P := P) w t ty e i z ht hi hz a m c news hl hnews (by omega) (by omega) (by have hb := hbytes; simp only [Nat.zero_add] at hb; omega)
      obtain ⟨o1, o2⟩ := Owns.grown (w := w) (base := base) (e := e) z hzs news m 0 hl (by omega) hbase (.slice none 0 0)
      simp only [Nat.zero_add, List.nil_append]
      exact ⟨_, _, hr, o1, o2⟩
  · by_cases hroom : n + m ≤ cap
    · have hle : (n + m) * i.size ≤ cap * i.size := Nat.mul_le_mul_right _ hroom
      have ha : n * i.size + m * i.size = (n + m) * i.size := (Nat.add_mul n m i.size).symm
      have hf := run_firstCells_some (P := P) w i.size m a m c news hl hnews
      have hst := run_storeCells_free P g (n * i.size) e fz news 0 cur w hg (by omega) (by omega) h1
      simp only [Nat.add_zero] at hst
      obtain ⟨o1, o2⟩ := Owns.room (w := w) (base := base) (e := e) htake hown.1 hl hbg hg hfz hcm hcs hroom
      refine ⟨_, _, ?_, o1, o2⟩
      simp [Builtin.append_, run_underlying ht, sizeOf, typeInfo, hi, Builtin.lenOf, hroom, hf, Addr.add_lit, hst]
    · have holds : ∀ j u, xs[j]? = some u → w.cell? ((⟨g, 0, none⟩ : Addr).add j) = some u := hown.cells (g := g) rfl
      have hr := run_append_grow (P := P) w t ty e i z ht hi hz ⟨g, 0, none⟩ n cap xs hown.1 holds a m c news hl hnews (by omega) (by omega) (growslice_fits (by omega) hbytes)
      obtain ⟨o1, o2⟩ := Owns.grown (w := w) (base := base) (e := e) z hzs (xs ++ news) (n + m) cap hlen h63 hbase (.slice (some ⟨g, 0, none⟩) n cap)
      rw [show xs.toArray ++ news.toArray = (xs ++ news).toArray from by simp] at hr
      exact ⟨_, _, hr, o1, o2⟩

variable {ops : Array Oper} {rest : List Oper} {o : Oper} {a : Act} {Q : Exit → Act → World → Prop}

theorem wpList_append_owns (hgd : o.guard = none) (s x : Operand) (t : TypeId)
    (ho : o.op = .call { callee := .builtin .append, args := #[s, x], argTypes := #[t, t] })
    (base : Nat) (e : TypeId) (i : TypeInfo) (z : Value) (size bytes : Nat) (ht : P.underlying t = some (.slice e)) (hi : P.info? e = some i) (hz : i.zero = some z)
    (hsize : i.size = size) (hby : i.bytes = bytes) (hzs : z.cells.size = size)
    (v : Value) (n : Nat) (xs : List Value) (hs : a.eval s = v) (hown : Owns w base e size v n xs)
    (ad : Addr) (m c : Nat) (news : List Value) (hx : a.eval x = .slice (some ad) m c) (hl : news.length = m * size) (hnews : ∀ j u, news[j]? = some u → w.cell? (ad.add j) = some u) (h1 : ∀ u ∈ news, u.oneCell' = true)
    (h63 : n + m ≤ maxLen) (hbytes : (n + m) * bytes ≤ 140737488355328) (hbase : base ≤ w.heap.size)
    (h : ∀ v' w', Owns w' base e size v' (n + m) (xs ++ news) → Grow w v w' v' → wpList P ops Q rest (a.put o.dst v') w') : wpList P ops Q (o :: rest) a w := by
  refine wpList_plain hgd fun K hK => ?_
  obtain ⟨v', w', hr, h2, h3⟩ := run_append_owns (P := P) t o.type i z bytes ht hi hz hsize hby hzs hown ad m c news hl hnews h1 h63 hbytes hbase
  unfold Oper.wp execOp
  simp only [ho, resolve, invoke, builtin, Sem.run_bind, Sem.run_pure, Result.andThen_ok, List.map_toArray, List.map_cons, List.map_nil, hs, hx, hr]
  exact hK _ _ (h v' w' h2 h3)

/-- '[]byte(s)': a new row that is owned. -/
theorem Owns.ofString (w : World) (base : Nat) (e : TypeId) (s : ByteArray) (hs : s.size ≤ maxLen) (hb : base ≤ w.heap.size) :
    Owns (bytesWorld w e s) base e 1 (.slice (some ⟨w.heap.size, 0, none⟩) s.size (grownCap w s.size 0 e)) s.size (strCells s) := by
  have hge := grownCap_ge w s.size 0 e
  have hcm : grownCap w s.size 0 e ≤ maxLen := grownCap_le_maxLen w s.size 0 e hs
  have hz : (bytesCells w e s).size = grownCap w s.size 0 e := by
    have : s.data.size = s.size := rfl
    simp [bytesCells]; omega
  refine ⟨by rw [strCells_length, Nat.mul_one], .inr ⟨w.heap.size, _, bytesCells w e s, _, rfl, hb, bytesWorld_at_new w e s, ?_, hge, hcm, by rw [hz, Nat.mul_one], ?_⟩⟩
  · right; simp only; rw [hz, Nat.mul_one]; exact Nat.le_refl _
  · have hl : (strCells s).length = s.size * 1 := by rw [strCells_length, Nat.mul_one]
    have e1 : (bytesCells w e s).toList = strCells s ++ List.replicate (grownCap w s.size 0 e - s.size) (.int .u8 0) := by
      simp [bytesCells, strCells]
    rw [e1, ← hl]; exact List.take_left
theorem bytesWorld_below (w : World) (e : TypeId) (s : ByteArray) : Below w.heap.size w (bytesWorld w e s) :=
  ⟨rfl, rfl, rfl, by rw [bytesWorld_size]; omega, fun k hk => bytesWorld_at_old w e s k hk⟩
theorem foldl_push : ∀ (l : List UInt8) (s : ByteArray), ((l.map fun b => (b.toNat : Int)).foldl (fun r n => r.push (UInt8.ofNat n.toNat)) s) = ⟨s.data ++ l.toArray⟩
  | [], s => by simp
  | b :: r, s => by
    simp only [List.map_cons, List.foldl_cons]
    rw [foldl_push r]
    simp [ByteArray.push]
/-- 'string(b)' of an owned row. -/
theorem run_string_of_owns {P : Program} {w : World} (src dst : TypeId) (hs : P.underlying src = some (.slice e)) (he : P.underlying e = some (.int .u8)) (hd : P.underlying dst = some .string)
    {l : List UInt8} (hown : Owns w base e 1 v n (l.map fun b => Value.int .u8 b.toNat)) : (convert src dst v).run P w = .ok (.string ⟨l.toArray⟩) w := by
  rcases hown.2 with ⟨rfl, rfl⟩ | ⟨g, cap, cur, fz, rfl, hbg, hg, hfz, hnc, hcm, hcs, htake⟩
  · have hx : l = [] := List.eq_nil_of_length_eq_zero (by simpa using hown.1)
    subst hx
    rw [run_convert_bytes_string w src dst e none 0 0 hs he hd]
    simp [Conv.bytesToString, Sem.run_pure]
    rfl
  · rw [run_convert_bytes_string w src dst e _ n cap hs he hd]
    have hn : l.length = n := by simpa using hown.1
    have hc := hown.cells (g := g) rfl
    have hload : (loadCells ⟨g, 0, none⟩ n).run P w = .ok ((l.map fun b => (b.toNat : Int)).map (Value.int .u8)).toArray w := by
      have h2 := run_loadCells_list (P := P) w ⟨g, 0, none⟩ (l.map fun b => Value.int .u8 b.toNat) hc
      rw [List.length_map, hn] at h2
      rw [h2, List.map_map]
      rfl
    rw [run_bytesToString w ⟨g, 0, none⟩ n cap _ hload, foldl_push]
    simp
end
end Go.Proofs.YtlodbibagmblkaaGreatDoor
