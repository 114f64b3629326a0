/- The document's stands, class 2. (Printed by gen_rst.py.) -/
import Derived.Test.YtoklnpoacckbfaaGreatDoorKaan
import Derived.Test.YtoklnpoacckbfaaGreatDoorKaav
import Derived.Test.YtoklnpoacckbfaaGreatDoorKaax
import Derived.Test.YtoklnpoacckbfaaGreatDoorKaai
import Derived.Deep.CutRange
import Derived.BigQuiet
import Derived.Deep.RegionHeld3
import Derived.StillTailTactics
namespace Go.Proofs.YtoklnpoacckbfaaGreatDoor
open Go.RowKit
set_option maxRecDepth 100000 in
set_option maxHeartbeats 8000000 in
theorem rstands2 {B : Nat} {c : Pl.Cod} {L U : Value} (w : World) (h : CodAt B w c L U) (i : Nat) (y : Pl.Unt) (hy : c.units[i]? = some y) (hf : Pl.UntForm y)
    (n : Nat) (a b : Int) (hx : Pl.InsW ⟨n, a, b⟩) (hn : n = 7 ∨ n = 11 ∨ n = 16 ∨ n = 17 ∨ n = 25) :
    Calls Tryz.prog 33 #[codV c L U, .int .i64 i, insV ⟨n, a, b⟩] w fun e w' => e = .returned (.bool (Pl.standsB c.lits c.units i ⟨n, a, b⟩)) ∧ Below w.heap.size w w' := by
  have FR := Lib.hid (fun v => frame_any y hf v)
  obtain ⟨⟨fa0, fa1⟩, ⟨fc0, fc1⟩, ⟨fl0, fl1⟩, ff, _, fn0, fn1⟩ := hf
  obtain ⟨xk, xa0, xa1, xb0, xb1⟩ := hx
  simp only at xk xa0 xa1 xb0 xb1
  have hBw := h.b
  obtain ⟨Al, capl, Vl, rfl, hBl, hrowl, hwl, hrl⟩ := h.l.out
  obtain ⟨Au, capu, Vu, rfl, hBu, hrowu, hwu, hru⟩ := h.u
  have hlt : i < c.units.length := (List.getElem?_eq_some_iff.1 hy).1
  obtain ⟨bu, ou, rfl, hbb⟩ := hrowu.some_of hlt
  obtain ⟨Ay, capy, hVk, _, hrowy, _⟩ := hru i y hy
  have hul := hrowu.len
  have hll := hrowl.len
  have hssz := fun s (hs : Pl.symbol c.lits a = some s) => symbol_size hwl hs
  obtain ⟨s, f, hsv1, hsv2⟩ := symV_form (Pl.symbol c.lits a)
  have HUN := Lib.hid (show Pl.unt c.units i = y by unfold Pl.unt; rw [List.getD_eq_getElem?_getD, hy]; rfl)
  have HBU := Lib.hid hBu
  have HROW := Lib.hid hrowu
  have hltI : (i : Int) < (c.units.length : Int) := by omega
  have FR := Lib.hid (FR.out (.slice Ay y.code.length capy))
  unfold untV at FR
  obtain ⟨e0, e1, e2, e3, e4⟩ := hrowu.unt hy
  rw [hVk] at e4
  have SYM := fun W (hW : CodAt B W c (.slice Al c.lits.length capl) (.slice (some ⟨bu, ou, none⟩) c.units.length capu)) => symbol_any W hW a (by omega) (by omega)
  rw [hsv1] at SYM
  have HC := Lib.hid h
  have HWR := Lib.hid (show IntKind.i64.wrap (y.args + y.copied + y.locals - 1) = Pl.frameOf y - 1 by rw [IntKind.wrap_i64]; unfold Pl.frameOf; omega)
  have SYM := Lib.hid SYM
  have hF : Pl.bytesA n = 1 := by unfold Pl.bytesA; rw [if_neg (by omega), if_neg (by omega)]
  have hT : Pl.two n = true := by unfold Pl.two; simp; omega
  unfold codV insV
  clear hy hBu hBl hrowu
  unfold codV at SYM
  go_enter Tryz.func33, Tryz.ntmps33
  go_upto_region 4 with first
    | (go_at_call 41; refine (first_any n _).mono ?_; rintro e w3 ⟨rfl, rfl⟩; rw [hF])
    | (go_at_call 42; refine (second_any n _).mono ?_; rintro e w3 ⟨rfl, rfl⟩; rw [hT])
  go_upto_region 5 with first
    | (go_at_call 65; refine (SYM.out _ (HC.out.keep ((((Below.refl B w).alloc hBw _).alloc (by simp <;> omega) _).alloc (by simp <;> omega) _))).mono ?_; rintro e w2 ⟨rfl, hb2⟩)
  have hz2 := hb2.size
  simp only [World.size_alloc] at hz2
  have hb02 : Below w.heap.size w w2 := ((((Below.refl _ _).alloc (Nat.le_refl _) _).alloc (by simp) _).alloc (by simp <;> omega) _).trans (hb2.mono (by simp <;> omega))
  have p2 : w2.cell? ⟨w.heap.size, 2, none⟩ = some (.slice Al c.lits.length capl) := by rw [hb2.cell (p := ⟨w.heap.size, 2, none⟩) (by simp <;> omega)]; simp [go_sem]
  have p3 : w2.cell? ⟨w.heap.size, 3, none⟩ = some (.slice (some ⟨bu, ou, none⟩) c.units.length capu) := by rw [hb2.cell (p := ⟨w.heap.size, 3, none⟩) (by simp <;> omega)]; simp [go_sem]
  have x0 : w2.cell? ⟨w.heap.size + 1, 0, none⟩ = some (.int .u8 n) := by rw [hb2.cell (p := ⟨w.heap.size + 1, 0, none⟩) (by simp <;> omega)]; simp [go_sem]
  have x1 : w2.cell? ⟨w.heap.size + 1, 1, none⟩ = some (.int .i64 a) := by rw [hb2.cell (p := ⟨w.heap.size + 1, 1, none⟩) (by simp <;> omega)]; simp [go_sem]
  have x2 : w2.cell? ⟨w.heap.size + 1, 2, none⟩ = some (.int .i64 b) := by rw [hb2.cell (p := ⟨w.heap.size + 1, 2, none⟩) (by simp <;> omega)]; simp [go_sem]
  have u0 : w2.cell? ⟨w.heap.size + 1 + 1, 0, none⟩ = some (.int .i64 y.args) := by rw [hb2.cell (p := ⟨w.heap.size + 1 + 1, 0, none⟩) (by simp)]; simp [go_sem]
  have u1 : w2.cell? ⟨w.heap.size + 1 + 1, 1, none⟩ = some (.int .i64 y.copied) := by rw [hb2.cell (p := ⟨w.heap.size + 1 + 1, 1, none⟩) (by simp)]; simp [go_sem]
  have u2 : w2.cell? ⟨w.heap.size + 1 + 1, 2, none⟩ = some (.int .i64 y.locals) := by rw [hb2.cell (p := ⟨w.heap.size + 1 + 1, 2, none⟩) (by simp)]; simp [go_sem]
  have u3 : w2.cell? ⟨w.heap.size + 1 + 1, 3, none⟩ = some (.int .i64 y.stack) := by rw [hb2.cell (p := ⟨w.heap.size + 1 + 1, 3, none⟩) (by simp)]; simp [go_sem]
  have u4 : w2.cell? ⟨w.heap.size + 1 + 1, 4, none⟩ = some (.slice Ay y.code.length capy) := by rw [hb2.cell (p := ⟨w.heap.size + 1 + 1, 4, none⟩) (by simp)]; simp [go_sem]
  have hzw : w.heap.size + 1 + 1 < w2.heap.size := by omega
  have HFC := Lib.hid (fun (W : World) (hb : Below w2.heap.size w2 W) => show W.cell? ⟨w.heap.size + 1, 1, none⟩ = some (.int .i64 a) ∧ W.cell? ⟨w.heap.size + 1, 2, none⟩ = some (.int .i64 b) ∧ W.cell? ⟨w.heap.size + 1 + 1, 0, none⟩ = some (.int .i64 y.args) ∧ W.cell? ⟨w.heap.size + 1 + 1, 1, none⟩ = some (.int .i64 y.copied) ∧ W.cell? ⟨w.heap.size + 1 + 1, 2, none⟩ = some (.int .i64 y.locals) ∧ W.cell? ⟨w.heap.size + 1 + 1, 3, none⟩ = some (.int .i64 y.stack) ∧ W.cell? ⟨w.heap.size + 1 + 1, 4, none⟩ = some (.slice Ay y.code.length capy) from ⟨by rw [hb.cell (p := ⟨w.heap.size + 1, 1, none⟩) (by simp <;> omega)]; exact x1, by rw [hb.cell (p := ⟨w.heap.size + 1, 2, none⟩) (by simp <;> omega)]; exact x2, by rw [hb.cell (p := ⟨w.heap.size + 1 + 1, 0, none⟩) (by simp <;> omega)]; exact u0, by rw [hb.cell (p := ⟨w.heap.size + 1 + 1, 1, none⟩) (by simp <;> omega)]; exact u1, by rw [hb.cell (p := ⟨w.heap.size + 1 + 1, 2, none⟩) (by simp <;> omega)]; exact u2, by rw [hb.cell (p := ⟨w.heap.size + 1 + 1, 3, none⟩) (by simp <;> omega)]; exact u3, by rw [hb.cell (p := ⟨w.heap.size + 1 + 1, 4, none⟩) (by simp <;> omega)]; exact u4⟩)
  have hz02 := hb02.size
  have HB2 := Lib.hid hb02
  clear hb2 hb02 hT hF SYM HC hsv1
  rcases hn with rfl | rfl | rfl | rfl | rfl
  · go_upto_region 23 with (fail)
    cases hin : Pl.inB a 0 (IntKind.i64.wrap (y.args + y.copied + y.locals - 1))
    · have HN := Lib.hid hin
      first
        | go_region_with (first | (go_at_call 64; refine (FR.out _).mono ?_; rintro e w8 ⟨rfl, hbd⟩; have hb : Below w2.heap.size w2 w8 := (by first | exact (Below.refl _ w2).drew.trans hbd | exact (Below.refl _ w2).trans hbd); clear hbd; obtain ⟨g1, g2, g3, g4, g5, g6, g7⟩ := HFC.out w8 hb) | (go_at_call 66; refine (in_any _ _ _ _).mono ?_; rintro e w7 ⟨rfl, rfl⟩; (try rw [HN.out])))
        | fail "held"
      all_goals
        go_wp2_with fail
        go_ret
        refine ⟨ret_bool ?_, by first | exact HB2.out.trans (hb.mono hz02) | exact (HB2.out.trans (hb.mono hz02)).drew⟩
        rw [Pl.standsB_remote _ _ _ _ _ (by omega), HUN.out, ← HWR.out, HN.out]; rfl
    · have HN := Lib.hid hin
      go_region_held3 (fun W => W.cell? ⟨w.heap.size + 1, 1, none⟩ = some (.int .i64 a) ∧ W.cell? ⟨w.heap.size + 1, 2, none⟩ = some (.int .i64 b) ∧ W.cell? ⟨w.heap.size + 1 + 1, 0, none⟩ = some (.int .i64 y.args) ∧ W.cell? ⟨w.heap.size + 1 + 1, 1, none⟩ = some (.int .i64 y.copied) ∧ W.cell? ⟨w.heap.size + 1 + 1, 2, none⟩ = some (.int .i64 y.locals) ∧ W.cell? ⟨w.heap.size + 1 + 1, 3, none⟩ = some (.int .i64 y.stack) ∧ W.cell? ⟨w.heap.size + 1 + 1, 4, none⟩ = some (.slice Ay y.code.length capy)) (first | exact ⟨x1, x2, u0, u1, u2, u3, u4⟩ | (refine ⟨?_, ?_, ?_, ?_, ?_, ?_, ?_⟩ <;> assumption)) (first | (go_at_call 64; refine (FR.out _).mono ?_; rintro e w8 ⟨rfl, hbd⟩; have hb : Below w2.heap.size w2 w8 := (by first | exact (Below.refl _ w2).drew.trans hbd | exact (Below.refl _ w2).trans hbd); clear hbd; obtain ⟨g1, g2, g3, g4, g5, g6, g7⟩ := HFC.out w8 hb) | (go_at_call 66; refine (in_any _ _ _ _).mono ?_; rintro e w7 ⟨rfl, rfl⟩; (try rw [HN.out])))
      all_goals
        go_wp2_with fail
        go_ret
        refine ⟨ret_bool ?_, by first | exact HB2.out.trans (hb.mono hz02) | exact (HB2.out.trans (hb.mono hz02)).drew⟩
        rw [Pl.standsB_remote _ _ _ _ _ (by omega), HUN.out, ← HWR.out, HN.out]; rfl
  · go_upto_region 23 with (fail)
    cases hin : Pl.inB a 0 (IntKind.i64.wrap (y.args + y.copied + y.locals - 1))
    · have HN := Lib.hid hin
      first
        | go_region_with (first | (go_at_call 64; refine (FR.out _).mono ?_; rintro e w8 ⟨rfl, hbd⟩; have hb : Below w2.heap.size w2 w8 := (by first | exact (Below.refl _ w2).drew.trans hbd | exact (Below.refl _ w2).trans hbd); clear hbd; obtain ⟨g1, g2, g3, g4, g5, g6, g7⟩ := HFC.out w8 hb) | (go_at_call 66; refine (in_any _ _ _ _).mono ?_; rintro e w7 ⟨rfl, rfl⟩; (try rw [HN.out])))
        | fail "held"
      all_goals
        go_wp2_with fail
        go_ret
        refine ⟨ret_bool ?_, by first | exact HB2.out.trans (hb.mono hz02) | exact (HB2.out.trans (hb.mono hz02)).drew⟩
        rw [Pl.standsB_remote _ _ _ _ _ (by omega), HUN.out, ← HWR.out, HN.out]; rfl
    · have HN := Lib.hid hin
      go_region_held3 (fun W => W.cell? ⟨w.heap.size + 1, 1, none⟩ = some (.int .i64 a) ∧ W.cell? ⟨w.heap.size + 1, 2, none⟩ = some (.int .i64 b) ∧ W.cell? ⟨w.heap.size + 1 + 1, 0, none⟩ = some (.int .i64 y.args) ∧ W.cell? ⟨w.heap.size + 1 + 1, 1, none⟩ = some (.int .i64 y.copied) ∧ W.cell? ⟨w.heap.size + 1 + 1, 2, none⟩ = some (.int .i64 y.locals) ∧ W.cell? ⟨w.heap.size + 1 + 1, 3, none⟩ = some (.int .i64 y.stack) ∧ W.cell? ⟨w.heap.size + 1 + 1, 4, none⟩ = some (.slice Ay y.code.length capy)) (first | exact ⟨x1, x2, u0, u1, u2, u3, u4⟩ | (refine ⟨?_, ?_, ?_, ?_, ?_, ?_, ?_⟩ <;> assumption)) (first | (go_at_call 64; refine (FR.out _).mono ?_; rintro e w8 ⟨rfl, hbd⟩; have hb : Below w2.heap.size w2 w8 := (by first | exact (Below.refl _ w2).drew.trans hbd | exact (Below.refl _ w2).trans hbd); clear hbd; obtain ⟨g1, g2, g3, g4, g5, g6, g7⟩ := HFC.out w8 hb) | (go_at_call 66; refine (in_any _ _ _ _).mono ?_; rintro e w7 ⟨rfl, rfl⟩; (try rw [HN.out])))
      all_goals
        go_wp2_with fail
        go_ret
        refine ⟨ret_bool ?_, by first | exact HB2.out.trans (hb.mono hz02) | exact (HB2.out.trans (hb.mono hz02)).drew⟩
        rw [Pl.standsB_remote _ _ _ _ _ (by omega), HUN.out, ← HWR.out, HN.out]; rfl
  · go_upto_region 33 with (fail)
    rcases hsv2 with ⟨rfl, hs1⟩ | ⟨rfl, hs1, rfl⟩
    · have HS1 := Lib.hid hs1
      have hsz := hssz _ hs1
      clear hs1
      cases hin : Pl.inB b 0 15
      · have HN := Lib.hid hin
        go_quiet (first | (go_at_call 66; exact in_q HN.out _ _))
        go_wp2_with fail
        go_ret
        refine ⟨ret_bool ?_, drewN_below HB2.out _⟩
        rw [Pl.standsB_send _ _ _ _ _ (by omega) s HS1.out, HN.out]; rfl
      · have HN := Lib.hid hin
        go_quiet (first | (go_at_call 66; exact in_q HN.out _ _) | (go_at_call 62; exact rarity_q s (by omega) _ _))
        go_wp2_with fail
        go_ret
        refine ⟨ret_bool ?_, drewN_below HB2.out _⟩
        rw [Pl.standsB_send _ _ _ _ _ (by omega) s HS1.out, HN.out, Bool.eq_iff_iff]; simp
    · have HS1 := Lib.hid hs1
      clear hs1
      go_quiet (fail)
      go_wp2_with fail
      go_ret
      refine ⟨ret_bool ?_, drewN_below HB2.out _⟩
      exact (Pl.standsB_send_no _ _ _ _ _ (by omega) HS1.out).symm
  · go_upto_region 33 with (fail)
    rcases hsv2 with ⟨rfl, hs1⟩ | ⟨rfl, hs1, rfl⟩
    · have HS1 := Lib.hid hs1
      have hsz := hssz _ hs1
      clear hs1
      cases hin : Pl.inB b 0 15
      · have HN := Lib.hid hin
        go_quiet (first | (go_at_call 66; exact in_q HN.out _ _))
        go_wp2_with fail
        go_ret
        refine ⟨ret_bool ?_, drewN_below HB2.out _⟩
        rw [Pl.standsB_send _ _ _ _ _ (by omega) s HS1.out, HN.out]; rfl
      · have HN := Lib.hid hin
        go_quiet (first | (go_at_call 66; exact in_q HN.out _ _) | (go_at_call 62; exact rarity_q s (by omega) _ _))
        go_wp2_with fail
        go_ret
        refine ⟨ret_bool ?_, drewN_below HB2.out _⟩
        rw [Pl.standsB_send _ _ _ _ _ (by omega) s HS1.out, HN.out, Bool.eq_iff_iff]; simp
    · have HS1 := Lib.hid hs1
      clear hs1
      go_quiet (fail)
      go_wp2_with fail
      go_ret
      refine ⟨ret_bool ?_, drewN_below HB2.out _⟩
      exact (Pl.standsB_send_no _ _ _ _ _ (by omega) HS1.out).symm
  · go_upto_region 41 with (fail)
    cases hin : Pl.inB a ((i : Int) + 1) ((c.units.length : Int) - 1)
    · have HN := Lib.hid hin
      go_quiet (first | (go_at_call 66; exact in_q HN.out _ _))
      go_wp2_with fail
      go_ret
      refine ⟨ret_bool ?_, drewN_below HB2.out _⟩
      rw [Pl.standsB_block, HN.out]; rfl
    · have HN := Lib.hid hin
      unfold Pl.inB at hin
      simp only [Bool.and_eq_true, decide_eq_true_eq] at hin
      obtain ⟨hi1, hi2⟩ := hin
      obtain ⟨q, hq⟩ : ∃ q : Nat, a = q := ⟨a.toNat, by omega⟩
      have hql : q < c.units.length := by omega
      obtain ⟨v, hv⟩ : ∃ v, c.units[q]? = some v := ⟨_, List.getElem?_eq_getElem hql⟩
      obtain ⟨f0, f1, f2, f3, f4⟩ := (HROW.out.keep (HB2.out.mono hBw) HBU.out).unt hv
      have HV := Lib.hid (show (Pl.unt c.units a.toNat).copied = v.copied by rw [show a.toNat = q by omega]; unfold Pl.unt; rw [List.getD_eq_getElem?_getD, hv]; rfl)
      have hqI : (q : Int) < (c.units.length : Int) := by omega
      have hq0 : (0 : Int) ≤ (q : Int) := by omega
      rw [hq] at x1
      have HNQ := Lib.hid (show Pl.inB (q : Int) ((i : Int) + 1) ((c.units.length : Int) - 1) = true by rw [← hq]; exact HN.out)
      have HQ := Lib.hid hq
      clear hv hq hi1 hi2
      go_quiet (first | (go_at_call 66; exact in_q HNQ.out _ _))
      go_wp2_with fail
      go_ret
      refine ⟨ret_bool ?_, drewN_below HB2.out _⟩
      rw [Pl.standsB_block, HN.out, HV.out, Bool.eq_iff_iff]; simp
end Go.Proofs.YtoklnpoacckbfaaGreatDoor
