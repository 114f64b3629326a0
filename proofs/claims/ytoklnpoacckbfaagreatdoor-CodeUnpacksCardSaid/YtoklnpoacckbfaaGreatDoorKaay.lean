/- The document's stands, class 1. (Printed by gen_rst.py.) -/
import Derived.Test.YtoklnpoacckbfaaGreatDoorKaan
import Derived.Test.YtoklnpoacckbfaaGreatDoorKaav
import Derived.Test.YtoklnpoacckbfaaGreatDoorKaax
import Derived.Test.YtoklnpoacckbfaaGreatDoorKaai
import Derived.Deep.CutRange
import Derived.BigQuiet
import Derived.Deep.RegionHeld3
import Derived.StillTailTactics
namespace Go.Proofs.YtoklnpoacckbfaaGreatDoor
open Go.RowKit
set_option maxRecDepth 100000 in
set_option maxHeartbeats 8000000 in
theorem rstands1 {B : Nat} {c : Pl.Cod} {L U : Value} (w : World) (h : CodAt B w c L U) (i : Nat) (y : Pl.Unt) (hy : c.units[i]? = some y) (hf : Pl.UntForm y)
    (n : Nat) (a b : Int) (hx : Pl.InsW ⟨n, a, b⟩) (hn : n = 5 ∨ n = 6 ∨ n = 8 ∨ n = 9 ∨ n = 10 ∨ n = 12 ∨ n = 13 ∨ n = 18 ∨ n = 19 ∨ n = 20 ∨ n = 23 ∨ n = 24) (hb : b = 0) :
    Calls Tryz.prog 33 #[codV c L U, .int .i64 i, insV ⟨n, a, b⟩] w fun e w' => e = .returned (.bool (Pl.standsB c.lits c.units i ⟨n, a, b⟩)) ∧ Below w.heap.size w w' := by
  have FR := Lib.hid (fun v => frame_any y hf v)
  obtain ⟨⟨fa0, fa1⟩, ⟨fc0, fc1⟩, ⟨fl0, fl1⟩, ff, _, fn0, fn1⟩ := hf
  obtain ⟨xk, xa0, xa1, xb0, xb1⟩ := hx
  simp only at xk xa0 xa1 xb0 xb1
  have hBw := h.b
  obtain ⟨Al, capl, Vl, rfl, hBl, hrowl, hwl, hrl⟩ := h.l.out
  obtain ⟨Au, capu, Vu, rfl, hBu, hrowu, hwu, hru⟩ := h.u
  have hlt : i < c.units.length := (List.getElem?_eq_some_iff.1 hy).1
  obtain ⟨bu, ou, rfl, hbb⟩ := hrowu.some_of hlt
  obtain ⟨Ay, capy, hVk, _, hrowy, _⟩ := hru i y hy
  have hul := hrowu.len
  have hll := hrowl.len
  have hssz := fun s (hs : Pl.symbol c.lits a = some s) => symbol_size hwl hs
  obtain ⟨s, f, hsv1, hsv2⟩ := symV_form (Pl.symbol c.lits a)
  have HUN := Lib.hid (show Pl.unt c.units i = y by unfold Pl.unt; rw [List.getD_eq_getElem?_getD, hy]; rfl)
  have HBU := Lib.hid hBu
  have HROW := Lib.hid hrowu
  have hltI : (i : Int) < (c.units.length : Int) := by omega
  have FR := Lib.hid (FR.out (.slice Ay y.code.length capy))
  unfold untV at FR
  obtain ⟨e0, e1, e2, e3, e4⟩ := hrowu.unt hy
  rw [hVk] at e4
  have SYM := fun W (hW : CodAt B W c (.slice Al c.lits.length capl) (.slice (some ⟨bu, ou, none⟩) c.units.length capu)) => symbol_any W hW a (by omega) (by omega)
  rw [hsv1] at SYM
  have HC := Lib.hid h
  have HWR := Lib.hid (show IntKind.i64.wrap (y.args + y.copied + y.locals - 1) = Pl.frameOf y - 1 by rw [IntKind.wrap_i64]; unfold Pl.frameOf; omega)
  have SYM := Lib.hid SYM
  have hF : ∃ F : Nat, Pl.bytesA n = F ∧ ((F : Int) == 0) = false := by
    refine ⟨_, rfl, ?_⟩
    unfold Pl.bytesA
    by_cases h18 : 18 ≤ n ∧ n ≤ 20
    · rw [if_pos h18]; rfl
    · rw [if_neg h18, if_neg (by omega)]; rfl
  obtain ⟨F, hF, hFI⟩ := hF
  have hT : Pl.two n = false := by unfold Pl.two; simp; omega
  subst hb
  unfold codV insV
  clear hy hBu hBl hrowu
  unfold codV at SYM
  go_enter Tryz.func33, Tryz.ntmps33
  go_upto_region 4 with first
    | (go_at_call 41; refine (first_any n _).mono ?_; rintro e w3 ⟨rfl, rfl⟩; rw [hF])
    | (go_at_call 42; refine (second_any n _).mono ?_; rintro e w3 ⟨rfl, rfl⟩; rw [hT])
  go_upto_region 5 with first
    | (go_at_call 65; refine (SYM.out _ (HC.out.keep ((((Below.refl B w).alloc hBw _).alloc (by simp <;> omega) _).alloc (by simp <;> omega) _))).mono ?_; rintro e w2 ⟨rfl, hb2⟩)
  have hz2 := hb2.size
  simp only [World.size_alloc] at hz2
  have hb02 : Below w.heap.size w w2 := ((((Below.refl _ _).alloc (Nat.le_refl _) _).alloc (by simp) _).alloc (by simp <;> omega) _).trans (hb2.mono (by simp <;> omega))
  have p2 : w2.cell? ⟨w.heap.size, 2, none⟩ = some (.slice Al c.lits.length capl) := by rw [hb2.cell (p := ⟨w.heap.size, 2, none⟩) (by simp <;> omega)]; simp [go_sem]
  have p3 : w2.cell? ⟨w.heap.size, 3, none⟩ = some (.slice (some ⟨bu, ou, none⟩) c.units.length capu) := by rw [hb2.cell (p := ⟨w.heap.size, 3, none⟩) (by simp <;> omega)]; simp [go_sem]
  have x0 : w2.cell? ⟨w.heap.size + 1, 0, none⟩ = some (.int .u8 n) := by rw [hb2.cell (p := ⟨w.heap.size + 1, 0, none⟩) (by simp <;> omega)]; simp [go_sem]
  have x1 : w2.cell? ⟨w.heap.size + 1, 1, none⟩ = some (.int .i64 a) := by rw [hb2.cell (p := ⟨w.heap.size + 1, 1, none⟩) (by simp <;> omega)]; simp [go_sem]
  have x2 : w2.cell? ⟨w.heap.size + 1, 2, none⟩ = some (.int .i64 0) := by rw [hb2.cell (p := ⟨w.heap.size + 1, 2, none⟩) (by simp <;> omega)]; simp [go_sem]
  have u0 : w2.cell? ⟨w.heap.size + 1 + 1, 0, none⟩ = some (.int .i64 y.args) := by rw [hb2.cell (p := ⟨w.heap.size + 1 + 1, 0, none⟩) (by simp)]; simp [go_sem]
  have u1 : w2.cell? ⟨w.heap.size + 1 + 1, 1, none⟩ = some (.int .i64 y.copied) := by rw [hb2.cell (p := ⟨w.heap.size + 1 + 1, 1, none⟩) (by simp)]; simp [go_sem]
  have u2 : w2.cell? ⟨w.heap.size + 1 + 1, 2, none⟩ = some (.int .i64 y.locals) := by rw [hb2.cell (p := ⟨w.heap.size + 1 + 1, 2, none⟩) (by simp)]; simp [go_sem]
  have u3 : w2.cell? ⟨w.heap.size + 1 + 1, 3, none⟩ = some (.int .i64 y.stack) := by rw [hb2.cell (p := ⟨w.heap.size + 1 + 1, 3, none⟩) (by simp)]; simp [go_sem]
  have u4 : w2.cell? ⟨w.heap.size + 1 + 1, 4, none⟩ = some (.slice Ay y.code.length capy) := by rw [hb2.cell (p := ⟨w.heap.size + 1 + 1, 4, none⟩) (by simp)]; simp [go_sem]
  have hzw : w.heap.size + 1 + 1 < w2.heap.size := by omega
  have HFC := Lib.hid (fun (W : World) (hb : Below w2.heap.size w2 W) => show W.cell? ⟨w.heap.size + 1, 1, none⟩ = some (.int .i64 a) ∧ W.cell? ⟨w.heap.size + 1, 2, none⟩ = some (.int .i64 0) ∧ W.cell? ⟨w.heap.size + 1 + 1, 0, none⟩ = some (.int .i64 y.args) ∧ W.cell? ⟨w.heap.size + 1 + 1, 1, none⟩ = some (.int .i64 y.copied) ∧ W.cell? ⟨w.heap.size + 1 + 1, 2, none⟩ = some (.int .i64 y.locals) ∧ W.cell? ⟨w.heap.size + 1 + 1, 3, none⟩ = some (.int .i64 y.stack) ∧ W.cell? ⟨w.heap.size + 1 + 1, 4, none⟩ = some (.slice Ay y.code.length capy) from ⟨by rw [hb.cell (p := ⟨w.heap.size + 1, 1, none⟩) (by simp <;> omega)]; exact x1, by rw [hb.cell (p := ⟨w.heap.size + 1, 2, none⟩) (by simp <;> omega)]; exact x2, by rw [hb.cell (p := ⟨w.heap.size + 1 + 1, 0, none⟩) (by simp <;> omega)]; exact u0, by rw [hb.cell (p := ⟨w.heap.size + 1 + 1, 1, none⟩) (by simp <;> omega)]; exact u1, by rw [hb.cell (p := ⟨w.heap.size + 1 + 1, 2, none⟩) (by simp <;> omega)]; exact u2, by rw [hb.cell (p := ⟨w.heap.size + 1 + 1, 3, none⟩) (by simp <;> omega)]; exact u3, by rw [hb.cell (p := ⟨w.heap.size + 1 + 1, 4, none⟩) (by simp <;> omega)]; exact u4⟩)
  have hz02 := hb02.size
  have HB2 := Lib.hid hb02
  clear hb2 hb02 hT hF SYM HC hsv1
  rcases hn with rfl | rfl | rfl | rfl | rfl | rfl | rfl | rfl | rfl | rfl | rfl | rfl
  · go_wp2_with first
      | (go_at_call 66; refine (in_any _ _ _ _).mono ?_; rintro e w3 ⟨rfl, rfl⟩)
    all_goals
      go_ret
      refine ⟨ret_bool ?_, by first | exact HB2.out | exact drewN_below HB2.out _⟩
      rw [Pl.standsB_lit]; simp
  · go_upto_region 20 with (fail)
    go_region_held3 (fun W => W.cell? ⟨w.heap.size + 1, 1, none⟩ = some (.int .i64 a) ∧ W.cell? ⟨w.heap.size + 1, 2, none⟩ = some (.int .i64 0) ∧ W.cell? ⟨w.heap.size + 1 + 1, 0, none⟩ = some (.int .i64 y.args) ∧ W.cell? ⟨w.heap.size + 1 + 1, 1, none⟩ = some (.int .i64 y.copied) ∧ W.cell? ⟨w.heap.size + 1 + 1, 2, none⟩ = some (.int .i64 y.locals) ∧ W.cell? ⟨w.heap.size + 1 + 1, 3, none⟩ = some (.int .i64 y.stack) ∧ W.cell? ⟨w.heap.size + 1 + 1, 4, none⟩ = some (.slice Ay y.code.length capy)) (first | exact ⟨x1, x2, u0, u1, u2, u3, u4⟩ | (refine ⟨?_, ?_, ?_, ?_, ?_, ?_, ?_⟩ <;> assumption)) (first | (go_at_call 64; refine (FR.out _).mono ?_; rintro e w8 ⟨rfl, hbd⟩; have hb : Below w2.heap.size w2 w8 := (Below.refl _ w2).drew.trans hbd; clear hbd; obtain ⟨g1, g2, g3, g4, g5, g6, g7⟩ := HFC.out w8 hb) | (go_at_call 66; refine (in_any _ _ _ _).mono ?_; rintro e w8 ⟨rfl, rfl⟩))
    all_goals
      go_wp2_with fail
      go_ret
      refine ⟨ret_bool ?_, by first | exact HB2.out.trans (hb.mono hz02) | exact (HB2.out.trans (hb.mono hz02)).drew⟩
      rw [Pl.standsB_local _ _ _ _ _ (by omega), HUN.out, HWR.out]; simp
  · go_wp2_with first
      | (go_at_call 66; refine (in_any _ _ _ _).mono ?_; rintro e w3 ⟨rfl, rfl⟩)
    all_goals
      go_ret
      refine ⟨ret_bool ?_, by first | exact HB2.out | exact drewN_below HB2.out _⟩
      rw [Pl.standsB_field _ _ _ _ _ (by omega)]; simp
  · rcases hsv2 with ⟨rfl, hs1⟩ | ⟨rfl, hs1, rfl⟩
    · have HS1 := Lib.hid hs1
      have hsz := hssz _ hs1
      clear hs1
      cases hnm : Pl.name s.data.toList
      all_goals go_wp2_with first
        | (go_at_call 67; refine (rname_any s _ (by omega)).mono ?_; rintro e w3 ⟨rfl, rfl⟩; rw [hnm])
        | (go_at_call 68; refine (rtaken_any _ _).mono ?_; rintro e w3 ⟨rfl, rfl⟩)
      all_goals
        go_ret
        refine ⟨ret_bool ?_, HB2.out⟩
        rw [Pl.standsB_global _ _ _ _ _ (by omega) s HS1.out]; simp_all
    · have HS1 := Lib.hid hs1
      clear hs1
      go_wp2_with fail
      all_goals
        go_ret
        refine ⟨ret_bool ?_, HB2.out⟩
        exact (Pl.standsB_global_no _ _ _ _ _ (by omega) HS1.out).symm
  · go_upto_region 20 with (fail)
    go_region_held3 (fun W => W.cell? ⟨w.heap.size + 1, 1, none⟩ = some (.int .i64 a) ∧ W.cell? ⟨w.heap.size + 1, 2, none⟩ = some (.int .i64 0) ∧ W.cell? ⟨w.heap.size + 1 + 1, 0, none⟩ = some (.int .i64 y.args) ∧ W.cell? ⟨w.heap.size + 1 + 1, 1, none⟩ = some (.int .i64 y.copied) ∧ W.cell? ⟨w.heap.size + 1 + 1, 2, none⟩ = some (.int .i64 y.locals) ∧ W.cell? ⟨w.heap.size + 1 + 1, 3, none⟩ = some (.int .i64 y.stack) ∧ W.cell? ⟨w.heap.size + 1 + 1, 4, none⟩ = some (.slice Ay y.code.length capy)) (first | exact ⟨x1, x2, u0, u1, u2, u3, u4⟩ | (refine ⟨?_, ?_, ?_, ?_, ?_, ?_, ?_⟩ <;> assumption)) (first | (go_at_call 64; refine (FR.out _).mono ?_; rintro e w8 ⟨rfl, hbd⟩; have hb : Below w2.heap.size w2 w8 := (Below.refl _ w2).drew.trans hbd; clear hbd; obtain ⟨g1, g2, g3, g4, g5, g6, g7⟩ := HFC.out w8 hb) | (go_at_call 66; refine (in_any _ _ _ _).mono ?_; rintro e w8 ⟨rfl, rfl⟩))
    all_goals
      go_wp2_with fail
      go_ret
      refine ⟨ret_bool ?_, by first | exact HB2.out.trans (hb.mono hz02) | exact (HB2.out.trans (hb.mono hz02)).drew⟩
      rw [Pl.standsB_local _ _ _ _ _ (by omega), HUN.out, HWR.out]; simp
  · go_wp2_with first
      | (go_at_call 66; refine (in_any _ _ _ _).mono ?_; rintro e w3 ⟨rfl, rfl⟩)
    all_goals
      go_ret
      refine ⟨ret_bool ?_, by first | exact HB2.out | exact drewN_below HB2.out _⟩
      rw [Pl.standsB_field _ _ _ _ _ (by omega)]; simp
  · rcases hsv2 with ⟨rfl, hs1⟩ | ⟨rfl, hs1, rfl⟩
    · have HS1 := Lib.hid hs1
      have hsz := hssz _ hs1
      clear hs1
      cases hnm : Pl.name s.data.toList
      all_goals go_wp2_with first
        | (go_at_call 67; refine (rname_any s _ (by omega)).mono ?_; rintro e w3 ⟨rfl, rfl⟩; rw [hnm])
        | (go_at_call 68; refine (rtaken_any _ _).mono ?_; rintro e w3 ⟨rfl, rfl⟩)
      all_goals
        go_ret
        refine ⟨ret_bool ?_, HB2.out⟩
        rw [Pl.standsB_global _ _ _ _ _ (by omega) s HS1.out]; simp_all
    · have HS1 := Lib.hid hs1
      clear hs1
      go_wp2_with fail
      all_goals
        go_ret
        refine ⟨ret_bool ?_, HB2.out⟩
        exact (Pl.standsB_global_no _ _ _ _ _ (by omega) HS1.out).symm
  · go_wp2_with first
      | (go_at_call 66; refine (in_any _ _ _ _).mono ?_; rintro e w3 ⟨rfl, rfl⟩)
    all_goals
      go_ret
      refine ⟨ret_bool ?_, by first | exact HB2.out | exact drewN_below HB2.out _⟩
      rw [Pl.standsB_jump _ _ _ _ _ (by omega), HUN.out]; simp
  · go_wp2_with first
      | (go_at_call 66; refine (in_any _ _ _ _).mono ?_; rintro e w3 ⟨rfl, rfl⟩)
    all_goals
      go_ret
      refine ⟨ret_bool ?_, by first | exact HB2.out | exact drewN_below HB2.out _⟩
      rw [Pl.standsB_jump _ _ _ _ _ (by omega), HUN.out]; simp
  · go_wp2_with first
      | (go_at_call 66; refine (in_any _ _ _ _).mono ?_; rintro e w3 ⟨rfl, rfl⟩)
    all_goals
      go_ret
      refine ⟨ret_bool ?_, by first | exact HB2.out | exact drewN_below HB2.out _⟩
      rw [Pl.standsB_jump _ _ _ _ _ (by omega), HUN.out]; simp
  · go_wp2_with first
      | (go_at_call 66; refine (in_any _ _ _ _).mono ?_; rintro e w3 ⟨rfl, rfl⟩)
    all_goals
      go_ret
      refine ⟨ret_bool ?_, by first | exact HB2.out | exact drewN_below HB2.out _⟩
      rw [Pl.standsB_vector]; simp
  · go_wp2_with first
      | (go_at_call 66; refine (in_any _ _ _ _).mono ?_; rintro e w3 ⟨rfl, rfl⟩)
    all_goals
      go_ret
      refine ⟨ret_bool ?_, by first | exact HB2.out | exact drewN_below HB2.out _⟩
      rw [Pl.standsB_field _ _ _ _ _ (by omega)]; simp
end Go.Proofs.YtoklnpoacckbfaaGreatDoor
