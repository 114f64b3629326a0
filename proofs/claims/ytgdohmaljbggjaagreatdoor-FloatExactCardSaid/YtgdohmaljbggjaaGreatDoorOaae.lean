/- The shortest digits of a float: the contract of shortFloat. The shortest digits of a small float: the contract of shortFloat where the power is the least. The digits of a number laid into a row: the contract of setDigits. -/
import Derived.Test.YtgdohmaljbggjaaGreatDoorOaac
import Derived.Lib.ItoaMem
import Derived.LoopTactic
namespace Go.Proofs.YtgdohmaljbggjaaGreatDoor
open Go.RowKit
theorem bits_and1i {a : Nat} (ha : a < 9223372036854775808) : bits .and .i64 (a : Int) 1 = ((a % 2 : Nat) : Int) := by
  have h64 : (2 : Nat) ^ IntKind.i64.bits = 18446744073709551616 := rfl
  have e : (1 : Int) = ((1 : Nat) : Int) := rfl
  rw [e]
  simp only [bits, BitVec.ofInt_natCast, BitVec.toNat_and, BitVec.toNat_ofNat, h64]
  rw [Nat.mod_eq_of_lt (by omega), Nat.mod_eq_of_lt (show 1 < 18446744073709551616 by decide), Nat.and_one_is_mod, IntWalk.i64_in _ (by omega)]
theorem heap_alloc_at (w : World) (o : Obj) : (w.alloc o).heap[w.heap.size]? = some o := by
  show (w.heap.push o)[w.heap.size]? = some o
  simp
theorem ret2i {k k' : IntKind} {a b c d : Int} (h1 : a = c) (h2 : b = d) : Ending.returned (.tuple #[.int k a, .int k' b]) = .returned (.tuple #[.int k c, .int k' d]) := by rw [h1, h2]
namespace Pl
theorem mid_bounds {e : Int} (h1 : -1085 ≤ e) (h2 : e ≤ 960) : -348 ≤ -((e + 11) * 78913 / 262144) ∧ -((e + 11) * 78913 / 262144) ≤ 347 ∧ 1 ≤ -(e + -((e + 11) * 78913 / 262144) * 108853 / 32768 + 3) ∧ -(e + -((e + 11) * 78913 / 262144) * 108853 / 32768 + 3) ≤ 20 := by omega
theorem skew_bounds {e : Int} (h1 : -1085 ≤ e) (h2 : e ≤ 960) : -348 ≤ -(((e + 11) * 631305 - 261663) / 2097152) ∧ -(((e + 11) * 631305 - 261663) / 2097152) ≤ 347 ∧ 1 ≤ -(e + -(((e + 11) * 631305 - 261663) / 2097152) * 108853 / 32768 + 3) ∧ -(e + -(((e + 11) * 631305 - 261663) / 2097152) * 108853 / 32768 + 3) ≤ 20 := by omega
end Pl

set_option maxHeartbeats 2000000 in
set_option maxRecDepth 100000 in
theorem short_mid (m : Nat) (e : Int) (w : World) (h1 : 9223372036854775808 < m) (h2 : m ≤ 18446744073709549568) (he1 : -1085 ≤ e) (he2 : e ≤ 960) (ht : Tab w) (hsz : 13 < w.heap.size) :
    Calls Tryz.prog 179 #[.int .u64 m, .int .i64 e] w fun en w' => en = .returned (.tuple #[.int .u64 (Pl.shortF m e).1, .int .i64 (Pl.shortF m e).2]) ∧ Below w.heap.size w w' := by
  have hm : ((m : Int) == 9223372036854775808) = false := by rw [beq_eq_false_iff_ne]; omega
  go_enter Tryz.func179, Tryz.ntmps179
  go_wp2_with fail
  refine (log10Pow2_any _ _ (by omega) (by omega)).mono ?_
  rintro en w' ⟨rfl, rfl⟩
  have hand : bits .and .i64 ((m : Int) / 2048) 1 = ((m / 2048 % 2 : Nat) : Int) := bits_and1i (show m / 2048 < 9223372036854775808 by omega)
  go_wp2_with fail
  obtain ⟨b1, b2, b3, b4⟩ := Pl.mid_bounds he1 he2
  generalize hp : -((e + 11) * 78913 / 262144) = p at b1 b2 b3 b4 ⊢
  obtain ⟨mn, hmn⟩ : ∃ mn : Nat, (m : Int) - 1024 = mn := ⟨m - 1024, by omega⟩
  obtain ⟨mx, hmx⟩ : ∃ mx : Nat, (m : Int) + 1024 = mx := ⟨m + 1024, by omega⟩
  obtain ⟨odd, hodd⟩ : ∃ odd : Nat, (m : Int) / 2048 % 2 = odd := ⟨m / 2048 % 2, by omega⟩
  rw [hmn, hmx, hodd]
  have HM := Lib.hid (show m - 1024 = mn ∧ m + 1024 = mx ∧ m / 2048 % 2 = odd ∧ -((e + 11) * 78913 / 262144) = p from ⟨by omega, by omega, by omega, hp⟩)
  have hod : odd < 2 := by omega
  have hmn1 : 4611686018427387904 ≤ mn := by omega
  have hmn2 : mn < 18446744073709551616 := by omega
  have hmx1 : 4611686018427387904 ≤ mx := by omega
  have hmx2 : mx < 18446744073709551616 := by omega
  clear hmn hmx hodd hp hand
  have HF := Lib.hid (show Pl.shortF m e = Pl.sfTail m mn mx odd e p by obtain ⟨e1, e2, e3, e4⟩ := HM.out; unfold Pl.shortF; rw [if_neg (by omega), if_pos he1]; rw [e1, e2, e3, e4])
  clear HM
  refine (log2Pow10_any _ _ (by omega) (by omega)).mono ?_
  rintro en w' ⟨rfl, rfl⟩
  go_wp2_with fail
  refine (prescale_tab e p w.heap.size _ (v0 := .int .u64 0) (v1 := .int .u64 0) (v2 := .int .i64 0) (T := 225) ⟨by omega, by omega⟩ ⟨b1, b2⟩ (ht.below (B := w.heap.size) ((Below.refl _ _).alloc (Nat.le_refl _) _) hsz) (heap_alloc_at _ _) hsz).mono ?_
  rintro en w1 ⟨rfl, hsc, hb1, hz1⟩
  have hB : Below w.heap.size w w1 := ((Below.refl _ _).alloc (Nat.le_refl _) _).trans hb1
  clear hb1 hz1
  have hs1 : 1 ≤ Pl.sh e p := by unfold Pl.sh; omega
  have hs2 : Pl.sh e p ≤ 58 := by unfold Pl.sh; omega
  go_wp2_with fail
  refine (uscale_tab mn w.heap.size e p _ hmn2 ⟨b1, b2⟩ (by omega) (by omega) hsc).mono ?_
  rintro en w2 ⟨rfl, n2, rfl⟩
  have hu1 := Pl.scal_lt b1 b2 hs1 hmn2
  have hu2 := Pl.scal_ge b1 b2 hs2 hmn1 hmn2
  generalize hun : Pl.scal mn e p = un at hu1 hu2 ⊢
  have HUN := Lib.hid hun
  clear hun
  go_wp2_with fail
  refine (nudge_any un (un + odd) odd _ (by omega) (by omega) (by omega)).mono ?_
  rintro en w' ⟨rfl, rfl⟩
  go_wp2_with fail
  refine (ceil_any _ _ (by omega)).mono ?_
  rintro en w' ⟨rfl, rfl⟩
  generalize hdn : (un + odd + 3) / 4 = dn
  have hdn1 : dn ≤ 9223372036854775808 := by omega
  have HDN := Lib.hid hdn
  clear hdn
  go_wp2_with fail
  refine (uscale_tab mx w.heap.size e p _ hmx2 ⟨b1, b2⟩ (by omega) (by omega) (hsc.drewN _)).mono ?_
  rintro en w2 ⟨rfl, n3, rfl⟩
  have hv1 := Pl.scal_lt b1 b2 hs1 hmx2
  have hv2 := Pl.scal_ge b1 b2 hs2 hmx1 hmx2
  generalize hux : Pl.scal mx e p = ux at hv1 hv2 ⊢
  have HUX := Lib.hid hux
  clear hux
  go_wp2_with fail
  refine (nudge_any ux (ux - odd) _ _ (by omega) (by omega) (by omega)).mono ?_
  rintro en w' ⟨rfl, rfl⟩
  go_wp2_with fail
  refine (floor_any _ _ (by omega)).mono ?_
  rintro en w' ⟨rfl, rfl⟩
  generalize hdx : (ux - odd) / 4 = dx
  have hdx1 : dx ≤ 9223372036854775808 := by omega
  have HDX := Lib.hid hdx
  clear hdx
  have HG := Lib.hid (show Pl.sfTail m mn mx odd e p = if dn ≤ dx / 10 * 10 then (dx / 10, -(p - 1)) else if dn < dx then ((Pl.scal m e p + 1 + Pl.scal m e p / 4 % 2) / 4, -p) else (dn, -p) by unfold Pl.sfTail; rw [HUN.out, HUX.out, HDN.out, HDX.out])
  clear HUN HUX HDN HDX
  by_cases c1 : dn ≤ dx / 10 * 10
  · have HZ := Lib.hid (show Pl.shortF m e = (dx / 10, -(p - 1)) by rw [HF.out, HG.out, if_pos c1])
    clear HF HG
    go_wp2_with fail
    go_ret2
    exact ⟨by rw [HZ.out]; exact ret2i (by simp) (by simp), below_drewN hB _⟩
  · by_cases c2 : dn < dx
    · have HZ := Lib.hid (show Pl.shortF m e = ((Pl.scal m e p + 1 + Pl.scal m e p / 4 % 2) / 4, -p) by rw [HF.out, HG.out, if_neg c1, if_pos c2])
      clear HF HG
      go_wp2_with fail
      refine (uscale_tab m w.heap.size e p _ (by omega) ⟨b1, b2⟩ (by omega) (by omega) (hsc.drewN _)).mono ?_
      rintro en w2 ⟨rfl, n4, rfl⟩
      have hx1 := Pl.scal_lt b1 b2 hs1 (show m < 18446744073709551616 by omega)
      generalize Pl.scal m e p = um at hx1 HZ ⊢
      go_wp2_with fail
      refine (round_any _ _ (by omega)).mono ?_
      rintro en w' ⟨rfl, rfl⟩
      go_wp2_with fail
      go_ret2
      exact ⟨by rw [HZ.out]; exact ret2i (by simp) rfl, below_drewN hB _⟩
    · have HZ := Lib.hid (show Pl.shortF m e = (dn, -p) by rw [HF.out, HG.out, if_neg c1, if_neg c2])
      clear HF HG
      go_wp2_with fail
      go_ret2
      exact ⟨by rw [HZ.out]; exact ret2i (by simp) rfl, below_drewN hB _⟩

set_option maxHeartbeats 2000000 in
set_option maxRecDepth 100000 in
theorem short_skew (m : Nat) (e : Int) (w : World) (h1 : 9223372036854775808 ≤ m) (h2 : m ≤ 9223372036854775808) (he1 : -1085 < e) (he2 : e ≤ 960) (ht : Tab w) (hsz : 13 < w.heap.size) :
    Calls Tryz.prog 179 #[.int .u64 m, .int .i64 e] w fun en w' => en = .returned (.tuple #[.int .u64 (Pl.shortF m e).1, .int .i64 (Pl.shortF m e).2]) ∧ Below w.heap.size w w' := by
  have hm : ((m : Int) == 9223372036854775808) = true := by rw [beq_iff_eq]; omega
  go_enter Tryz.func179, Tryz.ntmps179
  go_wp2_with fail
  refine (skewed_any _ _ (by omega) (by omega)).mono ?_
  rintro en w' ⟨rfl, rfl⟩
  have hand : bits .and .i64 ((m : Int) / 2048) 1 = ((m / 2048 % 2 : Nat) : Int) := bits_and1i (show m / 2048 < 9223372036854775808 by omega)
  go_wp2_with fail
  obtain ⟨b1, b2, b3, b4⟩ := Pl.skew_bounds (show -1085 ≤ e by omega) he2
  generalize hp : -(((e + 11) * 631305 - 261663) / 2097152) = p at b1 b2 b3 b4 ⊢
  obtain ⟨mn, hmn⟩ : ∃ mn : Nat, (m : Int) - 512 = mn := ⟨m - 512, by omega⟩
  obtain ⟨mx, hmx⟩ : ∃ mx : Nat, (m : Int) + 1024 = mx := ⟨m + 1024, by omega⟩
  obtain ⟨odd, hodd⟩ : ∃ odd : Nat, (m : Int) / 2048 % 2 = odd := ⟨m / 2048 % 2, by omega⟩
  rw [hmn, hmx, hodd]
  have HM := Lib.hid (show m - 512 = mn ∧ m + 1024 = mx ∧ m / 2048 % 2 = odd ∧ -(((e + 11) * 631305 - 261663) / 2097152) = p from ⟨by omega, by omega, by omega, hp⟩)
  have hod : odd < 2 := by omega
  have hmn1 : 4611686018427387904 ≤ mn := by omega
  have hmn2 : mn < 18446744073709551616 := by omega
  have hmx1 : 4611686018427387904 ≤ mx := by omega
  have hmx2 : mx < 18446744073709551616 := by omega
  clear hmn hmx hodd hp hand
  have HF := Lib.hid (show Pl.shortF m e = Pl.sfTail m mn mx odd e p by obtain ⟨e1, e2, e3, e4⟩ := HM.out; unfold Pl.shortF; rw [if_pos (by omega)]; rw [e1, e2, e3, e4])
  clear HM
  refine (log2Pow10_any _ _ (by omega) (by omega)).mono ?_
  rintro en w' ⟨rfl, rfl⟩
  go_wp2_with fail
  refine (prescale_tab e p w.heap.size _ (v0 := .int .u64 0) (v1 := .int .u64 0) (v2 := .int .i64 0) (T := 225) ⟨by omega, by omega⟩ ⟨b1, b2⟩ (ht.below (B := w.heap.size) ((Below.refl _ _).alloc (Nat.le_refl _) _) hsz) (heap_alloc_at _ _) hsz).mono ?_
  rintro en w1 ⟨rfl, hsc, hb1, hz1⟩
  have hB : Below w.heap.size w w1 := ((Below.refl _ _).alloc (Nat.le_refl _) _).trans hb1
  clear hb1 hz1
  have hs1 : 1 ≤ Pl.sh e p := by unfold Pl.sh; omega
  have hs2 : Pl.sh e p ≤ 58 := by unfold Pl.sh; omega
  go_wp2_with fail
  refine (uscale_tab mn w.heap.size e p _ hmn2 ⟨b1, b2⟩ (by omega) (by omega) hsc).mono ?_
  rintro en w2 ⟨rfl, n2, rfl⟩
  have hu1 := Pl.scal_lt b1 b2 hs1 hmn2
  have hu2 := Pl.scal_ge b1 b2 hs2 hmn1 hmn2
  generalize hun : Pl.scal mn e p = un at hu1 hu2 ⊢
  have HUN := Lib.hid hun
  clear hun
  go_wp2_with fail
  refine (nudge_any un (un + odd) odd _ (by omega) (by omega) (by omega)).mono ?_
  rintro en w' ⟨rfl, rfl⟩
  go_wp2_with fail
  refine (ceil_any _ _ (by omega)).mono ?_
  rintro en w' ⟨rfl, rfl⟩
  generalize hdn : (un + odd + 3) / 4 = dn
  have hdn1 : dn ≤ 9223372036854775808 := by omega
  have HDN := Lib.hid hdn
  clear hdn
  go_wp2_with fail
  refine (uscale_tab mx w.heap.size e p _ hmx2 ⟨b1, b2⟩ (by omega) (by omega) (hsc.drewN _)).mono ?_
  rintro en w2 ⟨rfl, n3, rfl⟩
  have hv1 := Pl.scal_lt b1 b2 hs1 hmx2
  have hv2 := Pl.scal_ge b1 b2 hs2 hmx1 hmx2
  generalize hux : Pl.scal mx e p = ux at hv1 hv2 ⊢
  have HUX := Lib.hid hux
  clear hux
  go_wp2_with fail
  refine (nudge_any ux (ux - odd) _ _ (by omega) (by omega) (by omega)).mono ?_
  rintro en w' ⟨rfl, rfl⟩
  go_wp2_with fail
  refine (floor_any _ _ (by omega)).mono ?_
  rintro en w' ⟨rfl, rfl⟩
  generalize hdx : (ux - odd) / 4 = dx
  have hdx1 : dx ≤ 9223372036854775808 := by omega
  have HDX := Lib.hid hdx
  clear hdx
  have HG := Lib.hid (show Pl.sfTail m mn mx odd e p = if dn ≤ dx / 10 * 10 then (dx / 10, -(p - 1)) else if dn < dx then ((Pl.scal m e p + 1 + Pl.scal m e p / 4 % 2) / 4, -p) else (dn, -p) by unfold Pl.sfTail; rw [HUN.out, HUX.out, HDN.out, HDX.out])
  clear HUN HUX HDN HDX
  by_cases c1 : dn ≤ dx / 10 * 10
  · have HZ := Lib.hid (show Pl.shortF m e = (dx / 10, -(p - 1)) by rw [HF.out, HG.out, if_pos c1])
    clear HF HG
    go_wp2_with fail
    go_ret2
    exact ⟨by rw [HZ.out]; exact ret2i (by simp) (by simp), below_drewN hB _⟩
  · by_cases c2 : dn < dx
    · have HZ := Lib.hid (show Pl.shortF m e = ((Pl.scal m e p + 1 + Pl.scal m e p / 4 % 2) / 4, -p) by rw [HF.out, HG.out, if_neg c1, if_pos c2])
      clear HF HG
      go_wp2_with fail
      refine (uscale_tab m w.heap.size e p _ (by omega) ⟨b1, b2⟩ (by omega) (by omega) (hsc.drewN _)).mono ?_
      rintro en w2 ⟨rfl, n4, rfl⟩
      have hx1 := Pl.scal_lt b1 b2 hs1 (show m < 18446744073709551616 by omega)
      generalize Pl.scal m e p = um at hx1 HZ ⊢
      go_wp2_with fail
      refine (round_any _ _ (by omega)).mono ?_
      rintro en w' ⟨rfl, rfl⟩
      go_wp2_with fail
      go_ret2
      exact ⟨by rw [HZ.out]; exact ret2i (by simp) rfl, below_drewN hB _⟩
    · have HZ := Lib.hid (show Pl.shortF m e = (dn, -p) by rw [HF.out, HG.out, if_neg c1, if_neg c2])
      clear HF HG
      go_wp2_with fail
      go_ret2
      exact ⟨by rw [HZ.out]; exact ret2i (by simp) rfl, below_drewN hB _⟩

set_option maxHeartbeats 2000000 in
set_option maxRecDepth 100000 in
theorem short_edge (m : Nat) (e : Int) (w : World) (h1 : 9223372036854775808 ≤ m) (h2 : m ≤ 9223372036854775808) (he1 : -1085 ≤ e) (he2 : e ≤ -1085) (ht : Tab w) (hsz : 13 < w.heap.size) :
    Calls Tryz.prog 179 #[.int .u64 m, .int .i64 e] w fun en w' => en = .returned (.tuple #[.int .u64 (Pl.shortF m e).1, .int .i64 (Pl.shortF m e).2]) ∧ Below w.heap.size w w' := by
  have hm : ((m : Int) == 9223372036854775808) = true := by rw [beq_iff_eq]; omega
  go_enter Tryz.func179, Tryz.ntmps179
  go_wp2_with fail
  refine (log10Pow2_any _ _ (by omega) (by omega)).mono ?_
  rintro en w' ⟨rfl, rfl⟩
  have hand : bits .and .i64 ((m : Int) / 2048) 1 = ((m / 2048 % 2 : Nat) : Int) := bits_and1i (show m / 2048 < 9223372036854775808 by omega)
  go_wp2_with fail
  obtain ⟨b1, b2, b3, b4⟩ := Pl.mid_bounds he1 (show e ≤ 960 by omega)
  generalize hp : -((e + 11) * 78913 / 262144) = p at b1 b2 b3 b4 ⊢
  obtain ⟨mn, hmn⟩ : ∃ mn : Nat, (m : Int) - 1024 = mn := ⟨m - 1024, by omega⟩
  obtain ⟨mx, hmx⟩ : ∃ mx : Nat, (m : Int) + 1024 = mx := ⟨m + 1024, by omega⟩
  obtain ⟨odd, hodd⟩ : ∃ odd : Nat, (m : Int) / 2048 % 2 = odd := ⟨m / 2048 % 2, by omega⟩
  rw [hmn, hmx, hodd]
  have HM := Lib.hid (show m - 1024 = mn ∧ m + 1024 = mx ∧ m / 2048 % 2 = odd ∧ -((e + 11) * 78913 / 262144) = p from ⟨by omega, by omega, by omega, hp⟩)
  have hod : odd < 2 := by omega
  have hmn1 : 4611686018427387904 ≤ mn := by omega
  have hmn2 : mn < 18446744073709551616 := by omega
  have hmx1 : 4611686018427387904 ≤ mx := by omega
  have hmx2 : mx < 18446744073709551616 := by omega
  clear hmn hmx hodd hp hand
  have HF := Lib.hid (show Pl.shortF m e = Pl.sfTail m mn mx odd e p by obtain ⟨e1, e2, e3, e4⟩ := HM.out; unfold Pl.shortF; rw [if_neg (by omega), if_pos he1]; rw [e1, e2, e3, e4])
  clear HM
  refine (log2Pow10_any _ _ (by omega) (by omega)).mono ?_
  rintro en w' ⟨rfl, rfl⟩
  go_wp2_with fail
  refine (prescale_tab e p w.heap.size _ (v0 := .int .u64 0) (v1 := .int .u64 0) (v2 := .int .i64 0) (T := 225) ⟨by omega, by omega⟩ ⟨b1, b2⟩ (ht.below (B := w.heap.size) ((Below.refl _ _).alloc (Nat.le_refl _) _) hsz) (heap_alloc_at _ _) hsz).mono ?_
  rintro en w1 ⟨rfl, hsc, hb1, hz1⟩
  have hB : Below w.heap.size w w1 := ((Below.refl _ _).alloc (Nat.le_refl _) _).trans hb1
  clear hb1 hz1
  have hs1 : 1 ≤ Pl.sh e p := by unfold Pl.sh; omega
  have hs2 : Pl.sh e p ≤ 58 := by unfold Pl.sh; omega
  go_wp2_with fail
  refine (uscale_tab mn w.heap.size e p _ hmn2 ⟨b1, b2⟩ (by omega) (by omega) hsc).mono ?_
  rintro en w2 ⟨rfl, n2, rfl⟩
  have hu1 := Pl.scal_lt b1 b2 hs1 hmn2
  have hu2 := Pl.scal_ge b1 b2 hs2 hmn1 hmn2
  generalize hun : Pl.scal mn e p = un at hu1 hu2 ⊢
  have HUN := Lib.hid hun
  clear hun
  go_wp2_with fail
  refine (nudge_any un (un + odd) odd _ (by omega) (by omega) (by omega)).mono ?_
  rintro en w' ⟨rfl, rfl⟩
  go_wp2_with fail
  refine (ceil_any _ _ (by omega)).mono ?_
  rintro en w' ⟨rfl, rfl⟩
  generalize hdn : (un + odd + 3) / 4 = dn
  have hdn1 : dn ≤ 9223372036854775808 := by omega
  have HDN := Lib.hid hdn
  clear hdn
  go_wp2_with fail
  refine (uscale_tab mx w.heap.size e p _ hmx2 ⟨b1, b2⟩ (by omega) (by omega) (hsc.drewN _)).mono ?_
  rintro en w2 ⟨rfl, n3, rfl⟩
  have hv1 := Pl.scal_lt b1 b2 hs1 hmx2
  have hv2 := Pl.scal_ge b1 b2 hs2 hmx1 hmx2
  generalize hux : Pl.scal mx e p = ux at hv1 hv2 ⊢
  have HUX := Lib.hid hux
  clear hux
  go_wp2_with fail
  refine (nudge_any ux (ux - odd) _ _ (by omega) (by omega) (by omega)).mono ?_
  rintro en w' ⟨rfl, rfl⟩
  go_wp2_with fail
  refine (floor_any _ _ (by omega)).mono ?_
  rintro en w' ⟨rfl, rfl⟩
  generalize hdx : (ux - odd) / 4 = dx
  have hdx1 : dx ≤ 9223372036854775808 := by omega
  have HDX := Lib.hid hdx
  clear hdx
  have HG := Lib.hid (show Pl.sfTail m mn mx odd e p = if dn ≤ dx / 10 * 10 then (dx / 10, -(p - 1)) else if dn < dx then ((Pl.scal m e p + 1 + Pl.scal m e p / 4 % 2) / 4, -p) else (dn, -p) by unfold Pl.sfTail; rw [HUN.out, HUX.out, HDN.out, HDX.out])
  clear HUN HUX HDN HDX
  by_cases c1 : dn ≤ dx / 10 * 10
  · have HZ := Lib.hid (show Pl.shortF m e = (dx / 10, -(p - 1)) by rw [HF.out, HG.out, if_pos c1])
    clear HF HG
    go_wp2_with fail
    go_ret2
    exact ⟨by rw [HZ.out]; exact ret2i (by simp) (by simp), below_drewN hB _⟩
  · by_cases c2 : dn < dx
    · have HZ := Lib.hid (show Pl.shortF m e = ((Pl.scal m e p + 1 + Pl.scal m e p / 4 % 2) / 4, -p) by rw [HF.out, HG.out, if_neg c1, if_pos c2])
      clear HF HG
      go_wp2_with fail
      refine (uscale_tab m w.heap.size e p _ (by omega) ⟨b1, b2⟩ (by omega) (by omega) (hsc.drewN _)).mono ?_
      rintro en w2 ⟨rfl, n4, rfl⟩
      have hx1 := Pl.scal_lt b1 b2 hs1 (show m < 18446744073709551616 by omega)
      generalize Pl.scal m e p = um at hx1 HZ ⊢
      go_wp2_with fail
      refine (round_any _ _ (by omega)).mono ?_
      rintro en w' ⟨rfl, rfl⟩
      go_wp2_with fail
      go_ret2
      exact ⟨by rw [HZ.out]; exact ret2i (by simp) rfl, below_drewN hB _⟩
    · have HZ := Lib.hid (show Pl.shortF m e = (dn, -p) by rw [HF.out, HG.out, if_neg c1, if_neg c2])
      clear HF HG
      go_wp2_with fail
      go_ret2
      exact ⟨by rw [HZ.out]; exact ret2i (by simp) rfl, below_drewN hB _⟩
end Go.Proofs.YtgdohmaljbggjaaGreatDoor
namespace Go.Proofs.YtgdohmaljbggjaaGreatDoor
open Go.RowKit
theorem Pl.den_parts (m k : Nat) (e : Int) (h1 : 9223372036854775808 ≤ m) (h2 : m < 18446744073709551616) (hk1 : 12 ≤ k) (hk2 : k ≤ 63) (he : e = -1074 - k) (hmk : m % 2 ^ k = 0) :
    ∃ mn mx odd : Nat, IntKind.u64.wrap ((m : Int) - IntKind.u64.wrap (2 ^ ((11 + (-1085 - e)).toNat - 1))) = mn ∧ IntKind.u64.wrap ((m : Int) + IntKind.u64.wrap (2 ^ ((11 + (-1085 - e)).toNat - 1))) = mx ∧ bits BinOp.and IntKind.i64 (wrap64 ((m : Int) / 2 ^ (11 + (-1085 - e)).toNat)) 1 = odd ∧ odd < 2 ∧ 4611686018427387904 ≤ mn ∧ mn < 18446744073709551616 ∧ 4611686018427387904 ≤ mx ∧ mx < 18446744073709551616 ∧ Pl.shortF m e = Pl.sfTail m mn mx odd e 324 := by
  have hz : (11 + (-1085 - e)).toNat = k := by omega
  have hz2 : (-1074 - e).toNat = k := by omega
  have hz3 : (-1075 - e).toNat = k - 1 := by omega
  have hp : 2 ^ k = 2 * 2 ^ (k - 1) := by
    have : k = k - 1 + 1 := by omega
    rw [this, Nat.pow_succ]; simp; omega
  have hk0 : 2 ^ (k - 1) ≤ 2 ^ 62 := Nat.pow_le_pow_right (by decide) (by omega)
  have hk3 : 2 ^ k * 2 ^ (64 - k) = 18446744073709551616 := by
    rw [← Nat.pow_add, show k + (64 - k) = 64 by omega]
  have hq : m / 2 ^ k < 2 ^ (64 - k) := by
    rw [Nat.div_lt_iff_lt_mul (Nat.pow_pos (by decide)), Nat.mul_comm, hk3]; exact h2
  have hq2 : 2 ^ k * (m / 2 ^ k + 1) ≤ 2 ^ k * 2 ^ (64 - k) := Nat.mul_le_mul_left _ hq
  have hm : 2 ^ k * (m / 2 ^ k) = m := Nat.mul_div_cancel' (Nat.dvd_of_mod_eq_zero hmk)
  have hq3 : m / 2 ^ k < 9223372036854775808 := by
    have : 2 ^ 12 ≤ 2 ^ k := Nat.pow_le_pow_right (by decide) hk1
    rw [Nat.div_lt_iff_lt_mul (Nat.pow_pos (by decide))]; omega
  rw [Nat.mul_add, hm, hk3] at hq2
  have hS : Pl.shortF m e = Pl.sfTail m (m - 2 ^ (k - 1)) (m + 2 ^ (k - 1)) (m / 2 ^ k % 2) e 324 := by
    unfold Pl.shortF
    rw [if_neg (by omega), if_neg (by omega), hz2, hz3]
  have hc : ((2 ^ k : Nat) : Int) = (2 : Int) ^ k := by simp
  have hc' : ((2 ^ (k - 1) : Nat) : Int) = (2 : Int) ^ (k - 1) := by simp
  have hdv : (m : Int) / 2 ^ k = ((m / 2 ^ k : Nat) : Int) := by rw [← hc]; simp
  rw [hz, ← hc', hdv]
  generalize 2 ^ (k - 1) = P at *
  generalize m / 2 ^ k = q at *
  rw [wrap_nat (show P < 18446744073709551616 by omega)]
  refine ⟨m - P, m + P, q % 2, ?_, ?_, ?_, by omega, by omega, by omega, by omega, by omega, hS⟩
  · rw [show (m : Int) - (P : Int) = ((m - P : Nat) : Int) by omega, wrap_nat (by omega)]
  · rw [show (m : Int) + (P : Int) = ((m + P : Nat) : Int) by omega, wrap_nat (by omega)]
  · rw [show wrap64 (q : Int) = (q : Int) from IntWalk.wrap64_in _ (by omega)]
    exact bits_and1i hq3
set_option maxHeartbeats 2000000 in
set_option maxRecDepth 100000 in
theorem short_den (m k : Nat) (e : Int) (w : World) (h1 : 9223372036854775808 ≤ m) (h2 : m < 18446744073709551616) (hk1 : 12 ≤ k) (hk2 : k ≤ 63) (he : Hid (e = -1074 - k)) (hmk : m % 2 ^ k = 0) (ht : Tab w) (hsz : 13 < w.heap.size) :
    Calls Tryz.prog 179 #[.int .u64 m, .int .i64 e] w fun en w' => en = .returned (.tuple #[.int .u64 (Pl.shortF m e).1, .int .i64 (Pl.shortF m e).2]) ∧ Below w.heap.size w w' := by
  have HD := Lib.hid (Pl.den_parts m k e h1 h2 hk1 hk2 he.out hmk)
  have hl : e < -1085 := by have := he.out; omega
  have hl2 : -1138 < e := by have := he.out; omega
  clear hmk
  obtain ⟨bb, hm⟩ : ∃ bb : Bool, ((m : Int) == 9223372036854775808) = bb := ⟨_, rfl⟩
  cases bb
  all_goals
    go_enter Tryz.func179, Tryz.ntmps179
    go_wp2_with fail
    rw [show (e + (11 + (-1085 - e)) : Int) = -1074 by omega]
    refine (log10Pow2_any _ _ (by omega) (by omega)).mono ?_
    rintro en w' ⟨rfl, rfl⟩
    go_wp2_with fail
    obtain ⟨mn, mx, odd, hmn, hmx, hodd, hod, hmn1, hmn2, hmx1, hmx2, hS⟩ := HD.out
    rw [hmn, hmx, hodd]
    have HF := Lib.hid hS
    clear hmn hmx hodd hS
    generalize hp : (324 : Int) = p at HF ⊢
    have b1 : -348 ≤ p := by omega
    have b2 : p ≤ 347 := by omega
    have b3 : 1 ≤ -(e + p * 108853 / 32768 + 3) := by omega
    have b4 : -(e + p * 108853 / 32768 + 3) ≤ 58 := by omega
    clear hp
    refine (log2Pow10_any _ _ (by omega) (by omega)).mono ?_
    rintro en w' ⟨rfl, rfl⟩
    go_wp2_with fail
    refine (prescale_tab e p w.heap.size _ (v0 := .int .u64 0) (v1 := .int .u64 0) (v2 := .int .i64 0) (T := 225) ⟨by omega, by omega⟩ ⟨b1, b2⟩ (ht.below (B := w.heap.size) ((Below.refl _ _).alloc (Nat.le_refl _) _) hsz) (heap_alloc_at _ _) hsz).mono ?_
    rintro en w1 ⟨rfl, hsc, hb1, hz1⟩
    have hB : Below w.heap.size w w1 := ((Below.refl _ _).alloc (Nat.le_refl _) _).trans hb1
    clear hb1 hz1
    have hs1 : 1 ≤ Pl.sh e p := by unfold Pl.sh; omega
    have hs2 : Pl.sh e p ≤ 58 := by unfold Pl.sh; omega
    go_wp2_with fail
    refine (uscale_tab mn w.heap.size e p _ hmn2 ⟨b1, b2⟩ (by omega) (by omega) hsc).mono ?_
    rintro en w2 ⟨rfl, n2, rfl⟩
    have hu1 := Pl.scal_lt b1 b2 hs1 hmn2
    have hu2 := Pl.scal_ge b1 b2 hs2 hmn1 hmn2
    generalize hun : Pl.scal mn e p = un at hu1 hu2 ⊢
    have HUN := Lib.hid hun
    clear hun
    go_wp2_with fail
    refine (nudge_any un (un + odd) odd _ (by omega) (by omega) (by omega)).mono ?_
    rintro en w' ⟨rfl, rfl⟩
    go_wp2_with fail
    refine (ceil_any _ _ (by omega)).mono ?_
    rintro en w' ⟨rfl, rfl⟩
    generalize hdn : (un + odd + 3) / 4 = dn
    have hdn1 : dn ≤ 9223372036854775808 := by omega
    have HDN := Lib.hid hdn
    clear hdn
    go_wp2_with fail
    refine (uscale_tab mx w.heap.size e p _ hmx2 ⟨b1, b2⟩ (by omega) (by omega) (hsc.drewN _)).mono ?_
    rintro en w2 ⟨rfl, n3, rfl⟩
    have hv1 := Pl.scal_lt b1 b2 hs1 hmx2
    have hv2 := Pl.scal_ge b1 b2 hs2 hmx1 hmx2
    generalize hux : Pl.scal mx e p = ux at hv1 hv2 ⊢
    have HUX := Lib.hid hux
    clear hux
    go_wp2_with fail
    refine (nudge_any ux (ux - odd) _ _ (by omega) (by omega) (by omega)).mono ?_
    rintro en w' ⟨rfl, rfl⟩
    go_wp2_with fail
    refine (floor_any _ _ (by omega)).mono ?_
    rintro en w' ⟨rfl, rfl⟩
    generalize hdx : (ux - odd) / 4 = dx
    have hdx1 : dx ≤ 9223372036854775808 := by omega
    have HDX := Lib.hid hdx
    clear hdx
    have HG := Lib.hid (show Pl.sfTail m mn mx odd e p = if dn ≤ dx / 10 * 10 then (dx / 10, -(p - 1)) else if dn < dx then ((Pl.scal m e p + 1 + Pl.scal m e p / 4 % 2) / 4, -p) else (dn, -p) by unfold Pl.sfTail; rw [HUN.out, HUX.out, HDN.out, HDX.out])
    clear HUN HUX HDN HDX
    by_cases c1 : dn ≤ dx / 10 * 10
    · have HZ := Lib.hid (show Pl.shortF m e = (dx / 10, -(p - 1)) by rw [HF.out, HG.out, if_pos c1])
      clear HF HG
      go_wp2_with fail
      go_ret2
      exact ⟨by rw [HZ.out]; exact ret2i (by simp) (by simp), below_drewN hB _⟩
    · by_cases c2 : dn < dx
      · have HZ := Lib.hid (show Pl.shortF m e = ((Pl.scal m e p + 1 + Pl.scal m e p / 4 % 2) / 4, -p) by rw [HF.out, HG.out, if_neg c1, if_pos c2])
        clear HF HG
        go_wp2_with fail
        refine (uscale_tab m w.heap.size e p _ (by omega) ⟨b1, b2⟩ (by omega) (by omega) (hsc.drewN _)).mono ?_
        rintro en w2 ⟨rfl, n4, rfl⟩
        have hx1 := Pl.scal_lt b1 b2 hs1 (show m < 18446744073709551616 by omega)
        generalize Pl.scal m e p = um at hx1 HZ ⊢
        go_wp2_with fail
        refine (round_any _ _ (by omega)).mono ?_
        rintro en w' ⟨rfl, rfl⟩
        go_wp2_with fail
        go_ret2
        exact ⟨by rw [HZ.out]; exact ret2i (by simp) rfl, below_drewN hB _⟩
      · have HZ := Lib.hid (show Pl.shortF m e = (dn, -p) by rw [HF.out, HG.out, if_neg c1, if_neg c2])
        clear HF HG
        go_wp2_with fail
        go_ret2
        exact ⟨by rw [HZ.out]; exact ret2i (by simp) rfl, below_drewN hB _⟩
end Go.Proofs.YtgdohmaljbggjaaGreatDoor
namespace Go.Proofs.YtgdohmaljbggjaaGreatDoor
open Go.RowKit Go.Lib Go.Sort
namespace Pl
/-- Without noughts at the end. -/
def trimZ (l : List UInt8) : List UInt8 := (l.reverse.dropWhile (· == 48)).reverse
theorem trimZ_snoc_zero (l : List UInt8) : trimZ (l ++ [48]) = trimZ l := by simp [trimZ]
theorem trimZ_snoc {l : List UInt8} {c : UInt8} (h : c ≠ 48) : trimZ (l ++ [c]) = l ++ [c] := by simp [trimZ, h]
theorem take_snoc {l : List UInt8} {k : Nat} (h : k < l.length) : l.take (k + 1) = l.take k ++ [l[k]] := List.take_succ_eq_append_getElem h
/-- The digits of a number without noughts at the end. -/
def sig (d : Nat) : List UInt8 := trimZ (decDigits d)
end Pl
abbrev enc8 (b : UInt8) : Value := .int .u8 (b.toNat : Int)
theorem below_putRow (w : World) (b off : Nat) (d : Array UInt8) : Below b w (putRow enc8 w b off d) ∧ (putRow enc8 w b off d).heap.size = w.heap.size := by
  have hs : (putRow enc8 w b off d).heap.size = w.heap.size := by simp [putRow, mapBlock]
  refine ⟨⟨rfl, rfl, rfl, by rw [hs]; exact Nat.le_refl _, fun k hk => ?_⟩, hs⟩
  simp only [putRow, mapBlock, Array.getElem?_modify]
  rw [if_neg (by omega)]
def SetOk (b d : Nat) (p : Int) (w : World) (e : Ending) (w' : World) : Prop :=
  e = .returned (.tuple #[.int .i64 (nDigits d + p), .int .i64 (Pl.sig d).length]) ∧ (∀ j (h : j < (decDigits d).length), w'.cell? ⟨b, j, none⟩ = some (enc8 (decDigits d)[j])) ∧ Below b w w' ∧ w'.heap.size = w.heap.size
set_option maxHeartbeats 1000000 in
theorem setDigits_any (b d : Nat) (p : Int) (w : World) (hH : Holds enc8 w b 0 (Array.replicate 32 0)) (hd : d < 18446744073709551616) (hn : nDigits d ≤ 20) (hp : -1000 ≤ p ∧ p ≤ 1000) :
    Calls Tryz.prog 172 #[.slice (some ⟨b, 0, none⟩) 32 32, .int .u64 d, .int .i64 p, .int .i64 (nDigits d)] w (SetOk b d p w) := by
  have HD := Lib.hid (lt_pow_nDigits d)
  have HL := Lib.hid (decDigits_length d)
  have hH2 : Holds enc8 w b 0 (Array.replicate (nDigits d) 0) := by
    intro j hj
    have hj' : j < nDigits d := by simpa using hj
    have h := hH j (by simp; omega)
    rw [getElem!_pos _ j (by simp; omega)] at h
    rw [getElem!_pos _ j hj]
    simpa using h
  clear hH
  have HH := Lib.hid hH2
  have HF := Lib.hid (fun (w : World) (h : Holds enc8 w b 0 (Array.replicate (nDigits d) 0)) => Tryz.internal_strconv_formatBase10 b 0 32 d (Array.replicate (nDigits d) 0) w h (by simpa using HD.out) hd (by simp; omega))
  clear hH2
  go_enter Tryz.func172, Tryz.ntmps172
  go_wp2_with fail
  have hc := HF.out w HH.out
  simp only [Array.size_replicate] at hc
  refine hc.mono ?_
  rintro e w1 ⟨rfl, n1, v1, dk, rfl, hinv⟩
  have hcell : ∀ j (h : j < (decDigits d).length), (putRow enc8 w b 0 dk).cell? ⟨b, j, none⟩ = some (enc8 (decDigits d)[j]) := by
    intro j hj
    have hz := hinv.size
    have hj' : j < nDigits d := by rw [← HL.out]; exact hj
    have h := cell?_putRow enc8 w b 0 _ dk HH.out (by rw [hz]; simp) j (by omega)
    rw [Nat.zero_add] at h
    rw [h, row_is_numeral hinv j hj]
  have hB := below_putRow w b 0 dk
  obtain ⟨w1, hW⟩ : ∃ w1, putRow enc8 w b 0 dk = w1 := ⟨_, rfl⟩
  have hW' : putRow (fun (b : UInt8) => Value.int .u8 (b.toNat : Int)) w b 0 dk = w1 := hW
  rw [hW']
  rw [hW] at hcell hB
  clear hW hW'
  have HC := Lib.hid hcell
  clear hcell hinv hc HF HH HD
  go_wp2_with fail
  go_loop [3] (fun n => ∃ k : Nat, k ≤ nDigits d ∧ n = .int .i64 k ∧ Pl.trimZ ((decDigits d).take k) = Pl.sig d) (fun n => (RowKit.intOf n).toNat)
  case atStart => exact ⟨nDigits d, Nat.le_refl _, rfl, by rw [List.take_of_length_le (by rw [HL.out]; exact Nat.le_refl _)]; rfl⟩
  case round =>
    obtain ⟨k, hk, rfl, hz⟩ := hrel
    have HZ := Lib.hid hz
    clear hz
    cases k with
    | zero =>
      go_wp2_with fail
      go_ret2
      refine ⟨ret2i rfl ?_, fun j h => by rw [World.cell?_drewN]; exact HC.out j h, below_drewN hB.1 _, hB.2⟩
      rw [← HZ.out]; simp [Pl.trimZ]
    | succ k =>
      have hk2 : k < (decDigits d).length := by rw [HL.out]; omega
      have hc : w1.cell? ⟨b, k, none⟩ = some (.int .u8 ((decDigits d)[k].toNat : Int)) := HC.out k hk2
      have HT := Lib.hid (Pl.take_snoc hk2)
      generalize (decDigits d)[k] = c at hc HT
      have hcb : c.toNat < 256 := c.toNat_lt
      by_cases h0 : c = 48
      · have h48 : ((c.toNat : Int) == 48) = true := by rw [h0]; rfl
        have HN := Lib.hid (show Pl.trimZ ((decDigits d).take k) = Pl.sig d by rw [← HZ.out, HT.out, h0, Pl.trimZ_snoc_zero])
        clear h0 HT HZ
        go_wp2_with fail
        go_round
        case rel => exact ⟨k, by omega, by go_num, HN.out⟩
        case measure => simp [RowKit.intOf]
      · have h48 : ((c.toNat : Int) == 48) = false := by
          rw [beq_eq_false_iff_ne]; intro h; apply h0; apply UInt8.toNat_inj.1; rw [show (48 : UInt8).toNat = 48 from rfl]; omega
        have HN := Lib.hid (show (Pl.sig d).length = k + 1 by rw [← HZ.out, HT.out, Pl.trimZ_snoc h0]; simp; omega)
        clear h0 HT HZ
        go_wp2_with fail
        go_ret2
        exact ⟨ret2i rfl (by rw [HN.out]; simp), fun j h => by rw [World.cell?_drewN]; exact HC.out j h, below_drewN hB.1 _, hB.2⟩
end Go.Proofs.YtgdohmaljbggjaaGreatDoor
