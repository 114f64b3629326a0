/- code.stands, class 1. (Printed by gen_std.py.) -/
import Derived.Test.YtoklnpoacckbfaaGreatDoorKaan
import Derived.Test.YtoklnpoacckbfaaGreatDoorKabe
import Derived.Deep.CutRange
import Derived.BigQuiet
namespace Go.Proofs.YtoklnpoacckbfaaGreatDoor
open Go.RowKit
set_option maxRecDepth 100000 in
set_option maxHeartbeats 8000000 in
theorem stands1_sym {B : Nat} {c : Pl.Cod} {L U : Value} (w : World) (h : CodAt B w c L U) (i : Nat) (y : Pl.Unt) (hy : c.units[i]? = some y) (hf : Pl.UntForm y) (hnl : c.lits.length ≤ 255)
    (n : Nat) (a b : Int) (hx : Pl.InsW ⟨n, a, b⟩) (hn : n = 5 ∨ n = 6 ∨ n = 8 ∨ n = 9 ∨ n = 10 ∨ n = 12 ∨ n = 13 ∨ n = 18 ∨ n = 19 ∨ n = 20 ∨ n = 23 ∨ n = 24) (hb : b = 0)
    (k : Nat) (z : Pl.Lit) (hk : a = k) (hz : c.lits[k]? = some z) (hzk : z.kind = 9) :
    Calls Tryz.prog 28 #[codV c L U, .int .i64 i, insV ⟨n, a, b⟩] w fun e w' => e = .returned (.bool (Pl.standsB c.lits c.units i ⟨n, a, b⟩)) ∧ Below w.heap.size w w' := by
  obtain ⟨⟨fa0, fa1⟩, ⟨fc0, fc1⟩, ⟨fl0, fl1⟩, ff, _, fn0, fn1⟩ := hf
  obtain ⟨xk, xa0, xa1, xb0, xb1⟩ := hx
  simp only at xk xa0 xa1 xb0 xb1
  have hBw := h.b
  obtain ⟨Al, capl, Vl, rfl, hBl, hrowl, hwl, hrl⟩ := h.l.out
  obtain ⟨Au, capu, Vu, rfl, hBu, hrowu, hwu, hru⟩ := h.u
  have hlt : i < c.units.length := (List.getElem?_eq_some_iff.1 hy).1
  obtain ⟨bu, ou, rfl, hbb⟩ := hrowu.some_of hlt
  obtain ⟨Ay, capy, hVk, _, hrowy, _⟩ := hru i y hy
  have hul := hrowu.len
  have HUN := Lib.hid (show Pl.unt c.units i = y by unfold Pl.unt; rw [List.getD_eq_getElem?_getD, hy]; rfl)
  have HY := Lib.hid hy
  have HBU := Lib.hid hBu
  have HROW := Lib.hid hrowu
  have hltI : (i : Int) < (c.units.length : Int) := by omega
  have hkn : Pl.known n := by unfold Pl.known; omega
  have hF : ∃ F : Int, Pl.shFirst n = F ∧ (F == 0) = false := by
    refine ⟨_, rfl, ?_⟩
    unfold Pl.shFirst Pl.bytesA; rw [if_neg (by omega)]
    by_cases h18 : 18 ≤ n ∧ n ≤ 20
    · rw [if_pos h18]; rfl
    · rw [if_neg h18, if_neg (by omega)]; rfl
  obtain ⟨F, hF, hFI⟩ := hF
  have hT : Pl.two n = false := by unfold Pl.two; simp; omega
  subst hb
  subst hk
  have hltl : k < c.lits.length := (List.getElem?_eq_some_iff.1 hz).1
  obtain ⟨bl, ol, rfl, hbl⟩ := hrowl.some_of hltl
  have HI := Lib.hid (Pl.inB_true (n := (k : Int)) (lo := 0) (hi := (c.lits.length : Int) - 1) (by unfold Pl.in_; omega))
  have HS := Lib.hid ((Pl.symbol_at hz).trans (if_pos hzk))
  have hzt := (hwl z (List.mem_of_getElem? hz)).t
  have HZ := Lib.hid hz
  have HBL := Lib.hid hBl
  have HROL := Lib.hid hrowl
  have hltlI : (k : Int) < (c.lits.length : Int) := by omega
  have hk0 : (0 : Int) ≤ (k : Int) := by omega
  have hzI : ((z.kind : Int) == 9) = true := by simp; omega
  clear hz hzk
  unfold codV insV
  clear hy hBu hBl
  go_enter Tryz.func28, Tryz.ntmps28
  go_wp2_with fail
  refine (of_known n hkn _).mono ?_
  rintro e w2 ⟨rfl, hb2⟩
  have hz2 := hb2.size
  simp only [World.size_alloc] at hz2
  have hb02 : Below w.heap.size w w2 := (((Below.refl _ _).alloc (Nat.le_refl _) _).alloc (by simp) _).trans (hb2.mono (by simp; omega))
  have p2 : w2.cell? ⟨w.heap.size, 2, none⟩ = some (.slice (some ⟨bl, ol, none⟩) c.lits.length capl) := by rw [hb2.cell (p := ⟨w.heap.size, 2, none⟩) (by simp; omega)]; simp [go_sem]
  have p3 : w2.cell? ⟨w.heap.size, 3, none⟩ = some (.slice (some ⟨bu, ou, none⟩) c.units.length capu) := by rw [hb2.cell (p := ⟨w.heap.size, 3, none⟩) (by simp; omega)]; simp [go_sem]
  have x0 : w2.cell? ⟨w.heap.size + 1, 0, none⟩ = some (.int .u8 n) := by rw [hb2.cell (p := ⟨w.heap.size + 1, 0, none⟩) (by simp)]; simp [go_sem]
  have x1 : w2.cell? ⟨w.heap.size + 1, 1, none⟩ = some (.int .i64 k) := by rw [hb2.cell (p := ⟨w.heap.size + 1, 1, none⟩) (by simp)]; simp [go_sem]
  have x2 : w2.cell? ⟨w.heap.size + 1, 2, none⟩ = some (.int .i64 0) := by rw [hb2.cell (p := ⟨w.heap.size + 1, 2, none⟩) (by simp)]; simp [go_sem]
  obtain ⟨e0, e1, e2, e3, e4⟩ := (HROW.out.keep (hb02.mono hBw) HBU.out).unt HY.out
  rw [hVk] at e4
  have l0 : w.heap.size < w2.heap.size := by omega
  have l1 : w.heap.size + 1 < w2.heap.size := by omega
  have lb : bu < w2.heap.size := by omega
  have m0 : ¬ w.heap.size = w2.heap.size := by omega
  have m1 : ¬ w.heap.size + 1 = w2.heap.size := by omega
  have mb : ¬ bu = w2.heap.size := by omega
  obtain ⟨z0, z1, z2, z3, z4⟩ := (HROL.out.keep (hb02.mono hBw) HBL.out).lit HZ.out
  have ll : bl < w2.heap.size := by omega
  have ml : ¬ bl = w2.heap.size := by omega
  have HB02 := Lib.hid hb02
  have HROW3 := HROW
  unfold Pl.shapeV
  rw [hF, hT]
  clear hb2 hb02 hrowu HROW hT hF
  go_upto_region 7 with (fail)
  rcases hn with rfl | rfl | rfl | rfl | rfl | rfl | rfl | rfl | rfl | rfl | rfl | rfl
  · go_wp2_with first
      | (with_reducible refine (within_any (k : Int) 0 ((c.lits.length : Int) - 1) _).mono ?_; rintro e w3 ⟨rfl, rfl⟩; rw [HI.out])
      | (with_reducible refine (within_any _ _ _ _).mono ?_; rintro e w3 ⟨rfl, rfl⟩)
      | (with_reducible refine (name_any _ _ (by first | omega | decide)).mono ?_; rintro e w3 ⟨rfl, rfl⟩)
      | (with_reducible refine (taken_any _ _).mono ?_; rintro e w3 ⟨rfl, rfl⟩)
    all_goals
      go_ret
      refine ⟨ret_bool ?_, (HB02.out.alloc (by omega) _).alloc (by simp; omega) _⟩
      rw [Pl.standsB_lit, HI.out]; simp
  · go_wp2_with first
      | (with_reducible refine (within_any (k : Int) 0 ((c.lits.length : Int) - 1) _).mono ?_; rintro e w3 ⟨rfl, rfl⟩; rw [HI.out])
      | (with_reducible refine (within_any _ _ _ _).mono ?_; rintro e w3 ⟨rfl, rfl⟩)
      | (with_reducible refine (name_any _ _ (by first | omega | decide)).mono ?_; rintro e w3 ⟨rfl, rfl⟩)
      | (with_reducible refine (taken_any _ _).mono ?_; rintro e w3 ⟨rfl, rfl⟩)
    all_goals
      go_ret
      refine ⟨ret_bool ?_, (HB02.out.alloc (by omega) _).alloc (by simp; omega) _⟩
      rw [Pl.standsB_local _ _ _ _ _ (by omega), HUN.out]; simp [Pl.frameOf]
  · go_wp2_with first
      | (with_reducible refine (within_any (k : Int) 0 ((c.lits.length : Int) - 1) _).mono ?_; rintro e w3 ⟨rfl, rfl⟩; rw [HI.out])
      | (with_reducible refine (within_any _ _ _ _).mono ?_; rintro e w3 ⟨rfl, rfl⟩)
      | (with_reducible refine (name_any _ _ (by first | omega | decide)).mono ?_; rintro e w3 ⟨rfl, rfl⟩)
      | (with_reducible refine (taken_any _ _).mono ?_; rintro e w3 ⟨rfl, rfl⟩)
    all_goals
      go_ret
      refine ⟨ret_bool ?_, (HB02.out.alloc (by omega) _).alloc (by simp; omega) _⟩
      rw [Pl.standsB_field _ _ _ _ _ (by omega)]; simp
  · cases hnm : Pl.name z.text.data.toList
    all_goals go_wp2_with first
      | (with_reducible refine (name_any z.text _ (by omega)).mono ?_; rintro e w3 ⟨rfl, rfl⟩; rw [hnm])
      | (with_reducible refine (within_any (k : Int) 0 ((c.lits.length : Int) - 1) _).mono ?_; rintro e w3 ⟨rfl, rfl⟩; rw [HI.out])
      | (with_reducible refine (within_any _ _ _ _).mono ?_; rintro e w3 ⟨rfl, rfl⟩)
      | (with_reducible refine (name_any _ _ (by first | omega | decide)).mono ?_; rintro e w3 ⟨rfl, rfl⟩)
      | (with_reducible refine (taken_any _ _).mono ?_; rintro e w3 ⟨rfl, rfl⟩)
    all_goals
      go_ret
      refine ⟨ret_bool ?_, (HB02.out.alloc (by omega) _).alloc (by simp; omega) _⟩
      rw [Pl.standsB_global _ _ _ _ _ (by omega) z.text HS.out]; simp_all
  · go_wp2_with first
      | (with_reducible refine (within_any (k : Int) 0 ((c.lits.length : Int) - 1) _).mono ?_; rintro e w3 ⟨rfl, rfl⟩; rw [HI.out])
      | (with_reducible refine (within_any _ _ _ _).mono ?_; rintro e w3 ⟨rfl, rfl⟩)
      | (with_reducible refine (name_any _ _ (by first | omega | decide)).mono ?_; rintro e w3 ⟨rfl, rfl⟩)
      | (with_reducible refine (taken_any _ _).mono ?_; rintro e w3 ⟨rfl, rfl⟩)
    all_goals
      go_ret
      refine ⟨ret_bool ?_, (HB02.out.alloc (by omega) _).alloc (by simp; omega) _⟩
      rw [Pl.standsB_local _ _ _ _ _ (by omega), HUN.out]; simp [Pl.frameOf]
  · go_wp2_with first
      | (with_reducible refine (within_any (k : Int) 0 ((c.lits.length : Int) - 1) _).mono ?_; rintro e w3 ⟨rfl, rfl⟩; rw [HI.out])
      | (with_reducible refine (within_any _ _ _ _).mono ?_; rintro e w3 ⟨rfl, rfl⟩)
      | (with_reducible refine (name_any _ _ (by first | omega | decide)).mono ?_; rintro e w3 ⟨rfl, rfl⟩)
      | (with_reducible refine (taken_any _ _).mono ?_; rintro e w3 ⟨rfl, rfl⟩)
    all_goals
      go_ret
      refine ⟨ret_bool ?_, (HB02.out.alloc (by omega) _).alloc (by simp; omega) _⟩
      rw [Pl.standsB_field _ _ _ _ _ (by omega)]; simp
  · cases hnm : Pl.name z.text.data.toList
    all_goals go_wp2_with first
      | (with_reducible refine (name_any z.text _ (by omega)).mono ?_; rintro e w3 ⟨rfl, rfl⟩; rw [hnm])
      | (with_reducible refine (within_any (k : Int) 0 ((c.lits.length : Int) - 1) _).mono ?_; rintro e w3 ⟨rfl, rfl⟩; rw [HI.out])
      | (with_reducible refine (within_any _ _ _ _).mono ?_; rintro e w3 ⟨rfl, rfl⟩)
      | (with_reducible refine (name_any _ _ (by first | omega | decide)).mono ?_; rintro e w3 ⟨rfl, rfl⟩)
      | (with_reducible refine (taken_any _ _).mono ?_; rintro e w3 ⟨rfl, rfl⟩)
    all_goals
      go_ret
      refine ⟨ret_bool ?_, (HB02.out.alloc (by omega) _).alloc (by simp; omega) _⟩
      rw [Pl.standsB_global _ _ _ _ _ (by omega) z.text HS.out]; simp_all
  · go_wp2_with first
      | (with_reducible refine (within_any (k : Int) 0 ((c.lits.length : Int) - 1) _).mono ?_; rintro e w3 ⟨rfl, rfl⟩; rw [HI.out])
      | (with_reducible refine (within_any _ _ _ _).mono ?_; rintro e w3 ⟨rfl, rfl⟩)
      | (with_reducible refine (name_any _ _ (by first | omega | decide)).mono ?_; rintro e w3 ⟨rfl, rfl⟩)
      | (with_reducible refine (taken_any _ _).mono ?_; rintro e w3 ⟨rfl, rfl⟩)
    all_goals
      go_ret
      refine ⟨ret_bool ?_, (HB02.out.alloc (by omega) _).alloc (by simp; omega) _⟩
      rw [Pl.standsB_jump _ _ _ _ _ (by omega), HUN.out]; simp
  · go_wp2_with first
      | (with_reducible refine (within_any (k : Int) 0 ((c.lits.length : Int) - 1) _).mono ?_; rintro e w3 ⟨rfl, rfl⟩; rw [HI.out])
      | (with_reducible refine (within_any _ _ _ _).mono ?_; rintro e w3 ⟨rfl, rfl⟩)
      | (with_reducible refine (name_any _ _ (by first | omega | decide)).mono ?_; rintro e w3 ⟨rfl, rfl⟩)
      | (with_reducible refine (taken_any _ _).mono ?_; rintro e w3 ⟨rfl, rfl⟩)
    all_goals
      go_ret
      refine ⟨ret_bool ?_, (HB02.out.alloc (by omega) _).alloc (by simp; omega) _⟩
      rw [Pl.standsB_jump _ _ _ _ _ (by omega), HUN.out]; simp
  · go_wp2_with first
      | (with_reducible refine (within_any (k : Int) 0 ((c.lits.length : Int) - 1) _).mono ?_; rintro e w3 ⟨rfl, rfl⟩; rw [HI.out])
      | (with_reducible refine (within_any _ _ _ _).mono ?_; rintro e w3 ⟨rfl, rfl⟩)
      | (with_reducible refine (name_any _ _ (by first | omega | decide)).mono ?_; rintro e w3 ⟨rfl, rfl⟩)
      | (with_reducible refine (taken_any _ _).mono ?_; rintro e w3 ⟨rfl, rfl⟩)
    all_goals
      go_ret
      refine ⟨ret_bool ?_, (HB02.out.alloc (by omega) _).alloc (by simp; omega) _⟩
      rw [Pl.standsB_jump _ _ _ _ _ (by omega), HUN.out]; simp
  · go_wp2_with first
      | (with_reducible refine (within_any (k : Int) 0 ((c.lits.length : Int) - 1) _).mono ?_; rintro e w3 ⟨rfl, rfl⟩; rw [HI.out])
      | (with_reducible refine (within_any _ _ _ _).mono ?_; rintro e w3 ⟨rfl, rfl⟩)
      | (with_reducible refine (name_any _ _ (by first | omega | decide)).mono ?_; rintro e w3 ⟨rfl, rfl⟩)
      | (with_reducible refine (taken_any _ _).mono ?_; rintro e w3 ⟨rfl, rfl⟩)
    all_goals
      go_ret
      refine ⟨ret_bool ?_, (HB02.out.alloc (by omega) _).alloc (by simp; omega) _⟩
      rw [Pl.standsB_vector]; simp
  · go_wp2_with first
      | (with_reducible refine (within_any (k : Int) 0 ((c.lits.length : Int) - 1) _).mono ?_; rintro e w3 ⟨rfl, rfl⟩; rw [HI.out])
      | (with_reducible refine (within_any _ _ _ _).mono ?_; rintro e w3 ⟨rfl, rfl⟩)
      | (with_reducible refine (name_any _ _ (by first | omega | decide)).mono ?_; rintro e w3 ⟨rfl, rfl⟩)
      | (with_reducible refine (taken_any _ _).mono ?_; rintro e w3 ⟨rfl, rfl⟩)
    all_goals
      go_ret
      refine ⟨ret_bool ?_, (HB02.out.alloc (by omega) _).alloc (by simp; omega) _⟩
      rw [Pl.standsB_field _ _ _ _ _ (by omega)]; simp
set_option maxRecDepth 100000 in
set_option maxHeartbeats 8000000 in
theorem stands1_kin {B : Nat} {c : Pl.Cod} {L U : Value} (w : World) (h : CodAt B w c L U) (i : Nat) (y : Pl.Unt) (hy : c.units[i]? = some y) (hf : Pl.UntForm y) (hnl : c.lits.length ≤ 255)
    (n : Nat) (a b : Int) (hx : Pl.InsW ⟨n, a, b⟩) (hn : n = 5 ∨ n = 6 ∨ n = 8 ∨ n = 9 ∨ n = 10 ∨ n = 12 ∨ n = 13 ∨ n = 18 ∨ n = 19 ∨ n = 20 ∨ n = 23 ∨ n = 24) (hb : b = 0)
    (k : Nat) (z : Pl.Lit) (hk : a = k) (hz : c.lits[k]? = some z) (hzk : z.kind ≠ 9) :
    Calls Tryz.prog 28 #[codV c L U, .int .i64 i, insV ⟨n, a, b⟩] w fun e w' => e = .returned (.bool (Pl.standsB c.lits c.units i ⟨n, a, b⟩)) ∧ Below w.heap.size w w' := by
  obtain ⟨⟨fa0, fa1⟩, ⟨fc0, fc1⟩, ⟨fl0, fl1⟩, ff, _, fn0, fn1⟩ := hf
  obtain ⟨xk, xa0, xa1, xb0, xb1⟩ := hx
  simp only at xk xa0 xa1 xb0 xb1
  have hBw := h.b
  obtain ⟨Al, capl, Vl, rfl, hBl, hrowl, hwl, hrl⟩ := h.l.out
  obtain ⟨Au, capu, Vu, rfl, hBu, hrowu, hwu, hru⟩ := h.u
  have hlt : i < c.units.length := (List.getElem?_eq_some_iff.1 hy).1
  obtain ⟨bu, ou, rfl, hbb⟩ := hrowu.some_of hlt
  obtain ⟨Ay, capy, hVk, _, hrowy, _⟩ := hru i y hy
  have hul := hrowu.len
  have HUN := Lib.hid (show Pl.unt c.units i = y by unfold Pl.unt; rw [List.getD_eq_getElem?_getD, hy]; rfl)
  have HY := Lib.hid hy
  have HBU := Lib.hid hBu
  have HROW := Lib.hid hrowu
  have hltI : (i : Int) < (c.units.length : Int) := by omega
  have hkn : Pl.known n := by unfold Pl.known; omega
  have hF : ∃ F : Int, Pl.shFirst n = F ∧ (F == 0) = false := by
    refine ⟨_, rfl, ?_⟩
    unfold Pl.shFirst Pl.bytesA; rw [if_neg (by omega)]
    by_cases h18 : 18 ≤ n ∧ n ≤ 20
    · rw [if_pos h18]; rfl
    · rw [if_neg h18, if_neg (by omega)]; rfl
  obtain ⟨F, hF, hFI⟩ := hF
  have hT : Pl.two n = false := by unfold Pl.two; simp; omega
  subst hb
  subst hk
  have hltl : k < c.lits.length := (List.getElem?_eq_some_iff.1 hz).1
  obtain ⟨bl, ol, rfl, hbl⟩ := hrowl.some_of hltl
  have HI := Lib.hid (Pl.inB_true (n := (k : Int)) (lo := 0) (hi := (c.lits.length : Int) - 1) (by unfold Pl.in_; omega))
  have HS := Lib.hid ((Pl.symbol_at hz).trans (if_neg hzk))
  have hzt := (hwl z (List.mem_of_getElem? hz)).t
  have HZ := Lib.hid hz
  have HBL := Lib.hid hBl
  have HROL := Lib.hid hrowl
  have hltlI : (k : Int) < (c.lits.length : Int) := by omega
  have hk0 : (0 : Int) ≤ (k : Int) := by omega
  have hzI : ((z.kind : Int) == 9) = false := by simp; omega
  clear hz hzk
  unfold codV insV
  clear hy hBu hBl
  go_enter Tryz.func28, Tryz.ntmps28
  go_wp2_with fail
  refine (of_known n hkn _).mono ?_
  rintro e w2 ⟨rfl, hb2⟩
  have hz2 := hb2.size
  simp only [World.size_alloc] at hz2
  have hb02 : Below w.heap.size w w2 := (((Below.refl _ _).alloc (Nat.le_refl _) _).alloc (by simp) _).trans (hb2.mono (by simp; omega))
  have p2 : w2.cell? ⟨w.heap.size, 2, none⟩ = some (.slice (some ⟨bl, ol, none⟩) c.lits.length capl) := by rw [hb2.cell (p := ⟨w.heap.size, 2, none⟩) (by simp; omega)]; simp [go_sem]
  have p3 : w2.cell? ⟨w.heap.size, 3, none⟩ = some (.slice (some ⟨bu, ou, none⟩) c.units.length capu) := by rw [hb2.cell (p := ⟨w.heap.size, 3, none⟩) (by simp; omega)]; simp [go_sem]
  have x0 : w2.cell? ⟨w.heap.size + 1, 0, none⟩ = some (.int .u8 n) := by rw [hb2.cell (p := ⟨w.heap.size + 1, 0, none⟩) (by simp)]; simp [go_sem]
  have x1 : w2.cell? ⟨w.heap.size + 1, 1, none⟩ = some (.int .i64 k) := by rw [hb2.cell (p := ⟨w.heap.size + 1, 1, none⟩) (by simp)]; simp [go_sem]
  have x2 : w2.cell? ⟨w.heap.size + 1, 2, none⟩ = some (.int .i64 0) := by rw [hb2.cell (p := ⟨w.heap.size + 1, 2, none⟩) (by simp)]; simp [go_sem]
  obtain ⟨e0, e1, e2, e3, e4⟩ := (HROW.out.keep (hb02.mono hBw) HBU.out).unt HY.out
  rw [hVk] at e4
  have l0 : w.heap.size < w2.heap.size := by omega
  have l1 : w.heap.size + 1 < w2.heap.size := by omega
  have lb : bu < w2.heap.size := by omega
  have m0 : ¬ w.heap.size = w2.heap.size := by omega
  have m1 : ¬ w.heap.size + 1 = w2.heap.size := by omega
  have mb : ¬ bu = w2.heap.size := by omega
  obtain ⟨z0, z1, z2, z3, z4⟩ := (HROL.out.keep (hb02.mono hBw) HBL.out).lit HZ.out
  have ll : bl < w2.heap.size := by omega
  have ml : ¬ bl = w2.heap.size := by omega
  have HB02 := Lib.hid hb02
  have HROW3 := HROW
  unfold Pl.shapeV
  rw [hF, hT]
  clear hb2 hb02 hrowu HROW hT hF
  go_upto_region 7 with (fail)
  rcases hn with rfl | rfl | rfl | rfl | rfl | rfl | rfl | rfl | rfl | rfl | rfl | rfl
  · go_wp2_with first
      | (with_reducible refine (within_any (k : Int) 0 ((c.lits.length : Int) - 1) _).mono ?_; rintro e w3 ⟨rfl, rfl⟩; rw [HI.out])
      | (with_reducible refine (within_any _ _ _ _).mono ?_; rintro e w3 ⟨rfl, rfl⟩)
      | (with_reducible refine (name_any _ _ (by first | omega | decide)).mono ?_; rintro e w3 ⟨rfl, rfl⟩)
      | (with_reducible refine (taken_any _ _).mono ?_; rintro e w3 ⟨rfl, rfl⟩)
    all_goals
      go_ret
      refine ⟨ret_bool ?_, (HB02.out.alloc (by omega) _).alloc (by simp; omega) _⟩
      rw [Pl.standsB_lit, HI.out]; simp
  · go_wp2_with first
      | (with_reducible refine (within_any (k : Int) 0 ((c.lits.length : Int) - 1) _).mono ?_; rintro e w3 ⟨rfl, rfl⟩; rw [HI.out])
      | (with_reducible refine (within_any _ _ _ _).mono ?_; rintro e w3 ⟨rfl, rfl⟩)
      | (with_reducible refine (name_any _ _ (by first | omega | decide)).mono ?_; rintro e w3 ⟨rfl, rfl⟩)
      | (with_reducible refine (taken_any _ _).mono ?_; rintro e w3 ⟨rfl, rfl⟩)
    all_goals
      go_ret
      refine ⟨ret_bool ?_, (HB02.out.alloc (by omega) _).alloc (by simp; omega) _⟩
      rw [Pl.standsB_local _ _ _ _ _ (by omega), HUN.out]; simp [Pl.frameOf]
  · go_wp2_with first
      | (with_reducible refine (within_any (k : Int) 0 ((c.lits.length : Int) - 1) _).mono ?_; rintro e w3 ⟨rfl, rfl⟩; rw [HI.out])
      | (with_reducible refine (within_any _ _ _ _).mono ?_; rintro e w3 ⟨rfl, rfl⟩)
      | (with_reducible refine (name_any _ _ (by first | omega | decide)).mono ?_; rintro e w3 ⟨rfl, rfl⟩)
      | (with_reducible refine (taken_any _ _).mono ?_; rintro e w3 ⟨rfl, rfl⟩)
    all_goals
      go_ret
      refine ⟨ret_bool ?_, (HB02.out.alloc (by omega) _).alloc (by simp; omega) _⟩
      rw [Pl.standsB_field _ _ _ _ _ (by omega)]; simp
  · go_wp2_with first
      | (with_reducible refine (within_any (k : Int) 0 ((c.lits.length : Int) - 1) _).mono ?_; rintro e w3 ⟨rfl, rfl⟩; rw [HI.out])
      | (with_reducible refine (within_any _ _ _ _).mono ?_; rintro e w3 ⟨rfl, rfl⟩)
      | (with_reducible refine (name_any _ _ (by first | omega | decide)).mono ?_; rintro e w3 ⟨rfl, rfl⟩)
      | (with_reducible refine (taken_any _ _).mono ?_; rintro e w3 ⟨rfl, rfl⟩)
    all_goals
      go_ret
      refine ⟨ret_bool ?_, (HB02.out.alloc (by omega) _).alloc (by simp; omega) _⟩
      exact (Pl.standsB_global_no _ _ _ _ _ (by omega) HS.out).symm
  · go_wp2_with first
      | (with_reducible refine (within_any (k : Int) 0 ((c.lits.length : Int) - 1) _).mono ?_; rintro e w3 ⟨rfl, rfl⟩; rw [HI.out])
      | (with_reducible refine (within_any _ _ _ _).mono ?_; rintro e w3 ⟨rfl, rfl⟩)
      | (with_reducible refine (name_any _ _ (by first | omega | decide)).mono ?_; rintro e w3 ⟨rfl, rfl⟩)
      | (with_reducible refine (taken_any _ _).mono ?_; rintro e w3 ⟨rfl, rfl⟩)
    all_goals
      go_ret
      refine ⟨ret_bool ?_, (HB02.out.alloc (by omega) _).alloc (by simp; omega) _⟩
      rw [Pl.standsB_local _ _ _ _ _ (by omega), HUN.out]; simp [Pl.frameOf]
  · go_wp2_with first
      | (with_reducible refine (within_any (k : Int) 0 ((c.lits.length : Int) - 1) _).mono ?_; rintro e w3 ⟨rfl, rfl⟩; rw [HI.out])
      | (with_reducible refine (within_any _ _ _ _).mono ?_; rintro e w3 ⟨rfl, rfl⟩)
      | (with_reducible refine (name_any _ _ (by first | omega | decide)).mono ?_; rintro e w3 ⟨rfl, rfl⟩)
      | (with_reducible refine (taken_any _ _).mono ?_; rintro e w3 ⟨rfl, rfl⟩)
    all_goals
      go_ret
      refine ⟨ret_bool ?_, (HB02.out.alloc (by omega) _).alloc (by simp; omega) _⟩
      rw [Pl.standsB_field _ _ _ _ _ (by omega)]; simp
  · go_wp2_with first
      | (with_reducible refine (within_any (k : Int) 0 ((c.lits.length : Int) - 1) _).mono ?_; rintro e w3 ⟨rfl, rfl⟩; rw [HI.out])
      | (with_reducible refine (within_any _ _ _ _).mono ?_; rintro e w3 ⟨rfl, rfl⟩)
      | (with_reducible refine (name_any _ _ (by first | omega | decide)).mono ?_; rintro e w3 ⟨rfl, rfl⟩)
      | (with_reducible refine (taken_any _ _).mono ?_; rintro e w3 ⟨rfl, rfl⟩)
    all_goals
      go_ret
      refine ⟨ret_bool ?_, (HB02.out.alloc (by omega) _).alloc (by simp; omega) _⟩
      exact (Pl.standsB_global_no _ _ _ _ _ (by omega) HS.out).symm
  · go_wp2_with first
      | (with_reducible refine (within_any (k : Int) 0 ((c.lits.length : Int) - 1) _).mono ?_; rintro e w3 ⟨rfl, rfl⟩; rw [HI.out])
      | (with_reducible refine (within_any _ _ _ _).mono ?_; rintro e w3 ⟨rfl, rfl⟩)
      | (with_reducible refine (name_any _ _ (by first | omega | decide)).mono ?_; rintro e w3 ⟨rfl, rfl⟩)
      | (with_reducible refine (taken_any _ _).mono ?_; rintro e w3 ⟨rfl, rfl⟩)
    all_goals
      go_ret
      refine ⟨ret_bool ?_, (HB02.out.alloc (by omega) _).alloc (by simp; omega) _⟩
      rw [Pl.standsB_jump _ _ _ _ _ (by omega), HUN.out]; simp
  · go_wp2_with first
      | (with_reducible refine (within_any (k : Int) 0 ((c.lits.length : Int) - 1) _).mono ?_; rintro e w3 ⟨rfl, rfl⟩; rw [HI.out])
      | (with_reducible refine (within_any _ _ _ _).mono ?_; rintro e w3 ⟨rfl, rfl⟩)
      | (with_reducible refine (name_any _ _ (by first | omega | decide)).mono ?_; rintro e w3 ⟨rfl, rfl⟩)
      | (with_reducible refine (taken_any _ _).mono ?_; rintro e w3 ⟨rfl, rfl⟩)
    all_goals
      go_ret
      refine ⟨ret_bool ?_, (HB02.out.alloc (by omega) _).alloc (by simp; omega) _⟩
      rw [Pl.standsB_jump _ _ _ _ _ (by omega), HUN.out]; simp
  · go_wp2_with first
      | (with_reducible refine (within_any (k : Int) 0 ((c.lits.length : Int) - 1) _).mono ?_; rintro e w3 ⟨rfl, rfl⟩; rw [HI.out])
      | (with_reducible refine (within_any _ _ _ _).mono ?_; rintro e w3 ⟨rfl, rfl⟩)
      | (with_reducible refine (name_any _ _ (by first | omega | decide)).mono ?_; rintro e w3 ⟨rfl, rfl⟩)
      | (with_reducible refine (taken_any _ _).mono ?_; rintro e w3 ⟨rfl, rfl⟩)
    all_goals
      go_ret
      refine ⟨ret_bool ?_, (HB02.out.alloc (by omega) _).alloc (by simp; omega) _⟩
      rw [Pl.standsB_jump _ _ _ _ _ (by omega), HUN.out]; simp
  · go_wp2_with first
      | (with_reducible refine (within_any (k : Int) 0 ((c.lits.length : Int) - 1) _).mono ?_; rintro e w3 ⟨rfl, rfl⟩; rw [HI.out])
      | (with_reducible refine (within_any _ _ _ _).mono ?_; rintro e w3 ⟨rfl, rfl⟩)
      | (with_reducible refine (name_any _ _ (by first | omega | decide)).mono ?_; rintro e w3 ⟨rfl, rfl⟩)
      | (with_reducible refine (taken_any _ _).mono ?_; rintro e w3 ⟨rfl, rfl⟩)
    all_goals
      go_ret
      refine ⟨ret_bool ?_, (HB02.out.alloc (by omega) _).alloc (by simp; omega) _⟩
      rw [Pl.standsB_vector]; simp
  · go_wp2_with first
      | (with_reducible refine (within_any (k : Int) 0 ((c.lits.length : Int) - 1) _).mono ?_; rintro e w3 ⟨rfl, rfl⟩; rw [HI.out])
      | (with_reducible refine (within_any _ _ _ _).mono ?_; rintro e w3 ⟨rfl, rfl⟩)
      | (with_reducible refine (name_any _ _ (by first | omega | decide)).mono ?_; rintro e w3 ⟨rfl, rfl⟩)
      | (with_reducible refine (taken_any _ _).mono ?_; rintro e w3 ⟨rfl, rfl⟩)
    all_goals
      go_ret
      refine ⟨ret_bool ?_, (HB02.out.alloc (by omega) _).alloc (by simp; omega) _⟩
      rw [Pl.standsB_field _ _ _ _ _ (by omega)]; simp
set_option maxRecDepth 100000 in
set_option maxHeartbeats 8000000 in
theorem stands1_out {B : Nat} {c : Pl.Cod} {L U : Value} (w : World) (h : CodAt B w c L U) (i : Nat) (y : Pl.Unt) (hy : c.units[i]? = some y) (hf : Pl.UntForm y) (hnl : c.lits.length ≤ 255)
    (n : Nat) (a b : Int) (hx : Pl.InsW ⟨n, a, b⟩) (hn : n = 5 ∨ n = 6 ∨ n = 8 ∨ n = 9 ∨ n = 10 ∨ n = 12 ∨ n = 13 ∨ n = 18 ∨ n = 19 ∨ n = 20 ∨ n = 23 ∨ n = 24) (hb : b = 0)
    (hout : ¬ Pl.in_ a 0 ((c.lits.length : Int) - 1)) :
    Calls Tryz.prog 28 #[codV c L U, .int .i64 i, insV ⟨n, a, b⟩] w fun e w' => e = .returned (.bool (Pl.standsB c.lits c.units i ⟨n, a, b⟩)) ∧ Below w.heap.size w w' := by
  obtain ⟨⟨fa0, fa1⟩, ⟨fc0, fc1⟩, ⟨fl0, fl1⟩, ff, _, fn0, fn1⟩ := hf
  obtain ⟨xk, xa0, xa1, xb0, xb1⟩ := hx
  simp only at xk xa0 xa1 xb0 xb1
  have hBw := h.b
  obtain ⟨Al, capl, Vl, rfl, hBl, hrowl, hwl, hrl⟩ := h.l.out
  obtain ⟨Au, capu, Vu, rfl, hBu, hrowu, hwu, hru⟩ := h.u
  have hlt : i < c.units.length := (List.getElem?_eq_some_iff.1 hy).1
  obtain ⟨bu, ou, rfl, hbb⟩ := hrowu.some_of hlt
  obtain ⟨Ay, capy, hVk, _, hrowy, _⟩ := hru i y hy
  have hul := hrowu.len
  have HUN := Lib.hid (show Pl.unt c.units i = y by unfold Pl.unt; rw [List.getD_eq_getElem?_getD, hy]; rfl)
  have HY := Lib.hid hy
  have HBU := Lib.hid hBu
  have HROW := Lib.hid hrowu
  have hltI : (i : Int) < (c.units.length : Int) := by omega
  have hkn : Pl.known n := by unfold Pl.known; omega
  have hF : ∃ F : Int, Pl.shFirst n = F ∧ (F == 0) = false := by
    refine ⟨_, rfl, ?_⟩
    unfold Pl.shFirst Pl.bytesA; rw [if_neg (by omega)]
    by_cases h18 : 18 ≤ n ∧ n ≤ 20
    · rw [if_pos h18]; rfl
    · rw [if_neg h18, if_neg (by omega)]; rfl
  obtain ⟨F, hF, hFI⟩ := hF
  have hT : Pl.two n = false := by unfold Pl.two; simp; omega
  subst hb
  have HI := Lib.hid (Pl.inB_false hout)
  have HS := Lib.hid (Pl.symbol_out hout)
  clear hout
  unfold codV insV
  clear hy hBu hBl
  go_enter Tryz.func28, Tryz.ntmps28
  go_wp2_with fail
  refine (of_known n hkn _).mono ?_
  rintro e w2 ⟨rfl, hb2⟩
  have hz2 := hb2.size
  simp only [World.size_alloc] at hz2
  have hb02 : Below w.heap.size w w2 := (((Below.refl _ _).alloc (Nat.le_refl _) _).alloc (by simp) _).trans (hb2.mono (by simp; omega))
  have p2 : w2.cell? ⟨w.heap.size, 2, none⟩ = some (.slice Al c.lits.length capl) := by rw [hb2.cell (p := ⟨w.heap.size, 2, none⟩) (by simp; omega)]; simp [go_sem]
  have p3 : w2.cell? ⟨w.heap.size, 3, none⟩ = some (.slice (some ⟨bu, ou, none⟩) c.units.length capu) := by rw [hb2.cell (p := ⟨w.heap.size, 3, none⟩) (by simp; omega)]; simp [go_sem]
  have x0 : w2.cell? ⟨w.heap.size + 1, 0, none⟩ = some (.int .u8 n) := by rw [hb2.cell (p := ⟨w.heap.size + 1, 0, none⟩) (by simp)]; simp [go_sem]
  have x1 : w2.cell? ⟨w.heap.size + 1, 1, none⟩ = some (.int .i64 a) := by rw [hb2.cell (p := ⟨w.heap.size + 1, 1, none⟩) (by simp)]; simp [go_sem]
  have x2 : w2.cell? ⟨w.heap.size + 1, 2, none⟩ = some (.int .i64 0) := by rw [hb2.cell (p := ⟨w.heap.size + 1, 2, none⟩) (by simp)]; simp [go_sem]
  obtain ⟨e0, e1, e2, e3, e4⟩ := (HROW.out.keep (hb02.mono hBw) HBU.out).unt HY.out
  rw [hVk] at e4
  have l0 : w.heap.size < w2.heap.size := by omega
  have l1 : w.heap.size + 1 < w2.heap.size := by omega
  have lb : bu < w2.heap.size := by omega
  have m0 : ¬ w.heap.size = w2.heap.size := by omega
  have m1 : ¬ w.heap.size + 1 = w2.heap.size := by omega
  have mb : ¬ bu = w2.heap.size := by omega
  have HB02 := Lib.hid hb02
  have HROW3 := HROW
  unfold Pl.shapeV
  rw [hF, hT]
  clear hb2 hb02 hrowu HROW hT hF
  go_upto_region 7 with (fail)
  rcases hn with rfl | rfl | rfl | rfl | rfl | rfl | rfl | rfl | rfl | rfl | rfl | rfl
  · go_wp2_with first
      | (with_reducible refine (within_any a 0 ((c.lits.length : Int) - 1) _).mono ?_; rintro e w3 ⟨rfl, rfl⟩; rw [HI.out])
      | (with_reducible refine (within_any _ _ _ _).mono ?_; rintro e w3 ⟨rfl, rfl⟩)
      | (with_reducible refine (name_any _ _ (by first | omega | decide)).mono ?_; rintro e w3 ⟨rfl, rfl⟩)
      | (with_reducible refine (taken_any _ _).mono ?_; rintro e w3 ⟨rfl, rfl⟩)
    all_goals
      go_ret
      refine ⟨ret_bool ?_, (HB02.out.alloc (by omega) _).alloc (by simp; omega) _⟩
      rw [Pl.standsB_lit, HI.out]; simp
  · go_wp2_with first
      | (with_reducible refine (within_any a 0 ((c.lits.length : Int) - 1) _).mono ?_; rintro e w3 ⟨rfl, rfl⟩; rw [HI.out])
      | (with_reducible refine (within_any _ _ _ _).mono ?_; rintro e w3 ⟨rfl, rfl⟩)
      | (with_reducible refine (name_any _ _ (by first | omega | decide)).mono ?_; rintro e w3 ⟨rfl, rfl⟩)
      | (with_reducible refine (taken_any _ _).mono ?_; rintro e w3 ⟨rfl, rfl⟩)
    all_goals
      go_ret
      refine ⟨ret_bool ?_, (HB02.out.alloc (by omega) _).alloc (by simp; omega) _⟩
      rw [Pl.standsB_local _ _ _ _ _ (by omega), HUN.out]; simp [Pl.frameOf]
  · go_wp2_with first
      | (with_reducible refine (within_any a 0 ((c.lits.length : Int) - 1) _).mono ?_; rintro e w3 ⟨rfl, rfl⟩; rw [HI.out])
      | (with_reducible refine (within_any _ _ _ _).mono ?_; rintro e w3 ⟨rfl, rfl⟩)
      | (with_reducible refine (name_any _ _ (by first | omega | decide)).mono ?_; rintro e w3 ⟨rfl, rfl⟩)
      | (with_reducible refine (taken_any _ _).mono ?_; rintro e w3 ⟨rfl, rfl⟩)
    all_goals
      go_ret
      refine ⟨ret_bool ?_, (HB02.out.alloc (by omega) _).alloc (by simp; omega) _⟩
      rw [Pl.standsB_field _ _ _ _ _ (by omega)]; simp
  · go_wp2_with first
      | (with_reducible refine (within_any a 0 ((c.lits.length : Int) - 1) _).mono ?_; rintro e w3 ⟨rfl, rfl⟩; rw [HI.out])
      | (with_reducible refine (within_any _ _ _ _).mono ?_; rintro e w3 ⟨rfl, rfl⟩)
      | (with_reducible refine (name_any _ _ (by first | omega | decide)).mono ?_; rintro e w3 ⟨rfl, rfl⟩)
      | (with_reducible refine (taken_any _ _).mono ?_; rintro e w3 ⟨rfl, rfl⟩)
    all_goals
      go_ret
      refine ⟨ret_bool ?_, (HB02.out.alloc (by omega) _).alloc (by simp; omega) _⟩
      exact (Pl.standsB_global_no _ _ _ _ _ (by omega) HS.out).symm
  · go_wp2_with first
      | (with_reducible refine (within_any a 0 ((c.lits.length : Int) - 1) _).mono ?_; rintro e w3 ⟨rfl, rfl⟩; rw [HI.out])
      | (with_reducible refine (within_any _ _ _ _).mono ?_; rintro e w3 ⟨rfl, rfl⟩)
      | (with_reducible refine (name_any _ _ (by first | omega | decide)).mono ?_; rintro e w3 ⟨rfl, rfl⟩)
      | (with_reducible refine (taken_any _ _).mono ?_; rintro e w3 ⟨rfl, rfl⟩)
    all_goals
      go_ret
      refine ⟨ret_bool ?_, (HB02.out.alloc (by omega) _).alloc (by simp; omega) _⟩
      rw [Pl.standsB_local _ _ _ _ _ (by omega), HUN.out]; simp [Pl.frameOf]
  · go_wp2_with first
      | (with_reducible refine (within_any a 0 ((c.lits.length : Int) - 1) _).mono ?_; rintro e w3 ⟨rfl, rfl⟩; rw [HI.out])
      | (with_reducible refine (within_any _ _ _ _).mono ?_; rintro e w3 ⟨rfl, rfl⟩)
      | (with_reducible refine (name_any _ _ (by first | omega | decide)).mono ?_; rintro e w3 ⟨rfl, rfl⟩)
      | (with_reducible refine (taken_any _ _).mono ?_; rintro e w3 ⟨rfl, rfl⟩)
    all_goals
      go_ret
      refine ⟨ret_bool ?_, (HB02.out.alloc (by omega) _).alloc (by simp; omega) _⟩
      rw [Pl.standsB_field _ _ _ _ _ (by omega)]; simp
  · go_wp2_with first
      | (with_reducible refine (within_any a 0 ((c.lits.length : Int) - 1) _).mono ?_; rintro e w3 ⟨rfl, rfl⟩; rw [HI.out])
      | (with_reducible refine (within_any _ _ _ _).mono ?_; rintro e w3 ⟨rfl, rfl⟩)
      | (with_reducible refine (name_any _ _ (by first | omega | decide)).mono ?_; rintro e w3 ⟨rfl, rfl⟩)
      | (with_reducible refine (taken_any _ _).mono ?_; rintro e w3 ⟨rfl, rfl⟩)
    all_goals
      go_ret
      refine ⟨ret_bool ?_, (HB02.out.alloc (by omega) _).alloc (by simp; omega) _⟩
      exact (Pl.standsB_global_no _ _ _ _ _ (by omega) HS.out).symm
  · go_wp2_with first
      | (with_reducible refine (within_any a 0 ((c.lits.length : Int) - 1) _).mono ?_; rintro e w3 ⟨rfl, rfl⟩; rw [HI.out])
      | (with_reducible refine (within_any _ _ _ _).mono ?_; rintro e w3 ⟨rfl, rfl⟩)
      | (with_reducible refine (name_any _ _ (by first | omega | decide)).mono ?_; rintro e w3 ⟨rfl, rfl⟩)
      | (with_reducible refine (taken_any _ _).mono ?_; rintro e w3 ⟨rfl, rfl⟩)
    all_goals
      go_ret
      refine ⟨ret_bool ?_, (HB02.out.alloc (by omega) _).alloc (by simp; omega) _⟩
      rw [Pl.standsB_jump _ _ _ _ _ (by omega), HUN.out]; simp
  · go_wp2_with first
      | (with_reducible refine (within_any a 0 ((c.lits.length : Int) - 1) _).mono ?_; rintro e w3 ⟨rfl, rfl⟩; rw [HI.out])
      | (with_reducible refine (within_any _ _ _ _).mono ?_; rintro e w3 ⟨rfl, rfl⟩)
      | (with_reducible refine (name_any _ _ (by first | omega | decide)).mono ?_; rintro e w3 ⟨rfl, rfl⟩)
      | (with_reducible refine (taken_any _ _).mono ?_; rintro e w3 ⟨rfl, rfl⟩)
    all_goals
      go_ret
      refine ⟨ret_bool ?_, (HB02.out.alloc (by omega) _).alloc (by simp; omega) _⟩
      rw [Pl.standsB_jump _ _ _ _ _ (by omega), HUN.out]; simp
  · go_wp2_with first
      | (with_reducible refine (within_any a 0 ((c.lits.length : Int) - 1) _).mono ?_; rintro e w3 ⟨rfl, rfl⟩; rw [HI.out])
      | (with_reducible refine (within_any _ _ _ _).mono ?_; rintro e w3 ⟨rfl, rfl⟩)
      | (with_reducible refine (name_any _ _ (by first | omega | decide)).mono ?_; rintro e w3 ⟨rfl, rfl⟩)
      | (with_reducible refine (taken_any _ _).mono ?_; rintro e w3 ⟨rfl, rfl⟩)
    all_goals
      go_ret
      refine ⟨ret_bool ?_, (HB02.out.alloc (by omega) _).alloc (by simp; omega) _⟩
      rw [Pl.standsB_jump _ _ _ _ _ (by omega), HUN.out]; simp
  · go_wp2_with first
      | (with_reducible refine (within_any a 0 ((c.lits.length : Int) - 1) _).mono ?_; rintro e w3 ⟨rfl, rfl⟩; rw [HI.out])
      | (with_reducible refine (within_any _ _ _ _).mono ?_; rintro e w3 ⟨rfl, rfl⟩)
      | (with_reducible refine (name_any _ _ (by first | omega | decide)).mono ?_; rintro e w3 ⟨rfl, rfl⟩)
      | (with_reducible refine (taken_any _ _).mono ?_; rintro e w3 ⟨rfl, rfl⟩)
    all_goals
      go_ret
      refine ⟨ret_bool ?_, (HB02.out.alloc (by omega) _).alloc (by simp; omega) _⟩
      rw [Pl.standsB_vector]; simp
  · go_wp2_with first
      | (with_reducible refine (within_any a 0 ((c.lits.length : Int) - 1) _).mono ?_; rintro e w3 ⟨rfl, rfl⟩; rw [HI.out])
      | (with_reducible refine (within_any _ _ _ _).mono ?_; rintro e w3 ⟨rfl, rfl⟩)
      | (with_reducible refine (name_any _ _ (by first | omega | decide)).mono ?_; rintro e w3 ⟨rfl, rfl⟩)
      | (with_reducible refine (taken_any _ _).mono ?_; rintro e w3 ⟨rfl, rfl⟩)
    all_goals
      go_ret
      refine ⟨ret_bool ?_, (HB02.out.alloc (by omega) _).alloc (by simp; omega) _⟩
      rw [Pl.standsB_field _ _ _ _ _ (by omega)]; simp
end Go.Proofs.YtoklnpoacckbfaaGreatDoor
