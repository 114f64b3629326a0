/- The document's stands, class 3. (Printed by gen_rst.py.) The document's stands: whatever the instruction. The document's Check. -/
import Derived.Test.YtoklnpoacckbfaaGreatDoorKaan
import Derived.Test.YtoklnpoacckbfaaGreatDoorKaav
import Derived.Test.YtoklnpoacckbfaaGreatDoorKaax
import Derived.Test.YtoklnpoacckbfaaGreatDoorKaai
import Derived.Deep.CutRange
import Derived.BigQuiet
import Derived.Deep.RegionHeld3
import Derived.StillTailTactics
import Derived.Test.YtoklnpoacckbfaaGreatDoorKaay
import Derived.Test.YtoklnpoacckbfaaGreatDoorKaaz
import Derived.Test.YtoklnpoacckbfaaGreatDoorKaam
import Derived.Test.YtoklnpoacckbfaaGreatDoorKaaw
namespace Go.Proofs.YtoklnpoacckbfaaGreatDoor
open Go.RowKit
set_option maxRecDepth 100000 in
set_option maxHeartbeats 8000000 in
theorem rstands3 {B : Nat} {c : Pl.Cod} {L U : Value} (w : World) (h : CodAt B w c L U) (i : Nat) (y : Pl.Unt) (hy : c.units[i]? = some y) (hf : Pl.UntForm y)
    (n : Nat) (a b : Int) (hx : Pl.InsW ⟨n, a, b⟩) (hn : n = 0 ∨ 26 ≤ n) (hb : b = 0) :
    Calls Tryz.prog 33 #[codV c L U, .int .i64 i, insV ⟨n, a, b⟩] w fun e w' => e = .returned (.bool (Pl.standsB c.lits c.units i ⟨n, a, b⟩)) ∧ Below w.heap.size w w' := by
  have FR := Lib.hid (fun v => frame_any y hf v)
  obtain ⟨⟨fa0, fa1⟩, ⟨fc0, fc1⟩, ⟨fl0, fl1⟩, ff, _, fn0, fn1⟩ := hf
  obtain ⟨xk, xa0, xa1, xb0, xb1⟩ := hx
  simp only at xk xa0 xa1 xb0 xb1
  have hBw := h.b
  obtain ⟨Al, capl, Vl, rfl, hBl, hrowl, hwl, hrl⟩ := h.l.out
  obtain ⟨Au, capu, Vu, rfl, hBu, hrowu, hwu, hru⟩ := h.u
  have hlt : i < c.units.length := (List.getElem?_eq_some_iff.1 hy).1
  obtain ⟨bu, ou, rfl, hbb⟩ := hrowu.some_of hlt
  obtain ⟨Ay, capy, hVk, _, hrowy, _⟩ := hru i y hy
  have hul := hrowu.len
  have hll := hrowl.len
  have hssz := fun s (hs : Pl.symbol c.lits a = some s) => symbol_size hwl hs
  obtain ⟨s, f, hsv1, hsv2⟩ := symV_form (Pl.symbol c.lits a)
  have HUN := Lib.hid (show Pl.unt c.units i = y by unfold Pl.unt; rw [List.getD_eq_getElem?_getD, hy]; rfl)
  have HBU := Lib.hid hBu
  have HROW := Lib.hid hrowu
  have hltI : (i : Int) < (c.units.length : Int) := by omega
  have FR := Lib.hid (FR.out (.slice Ay y.code.length capy))
  unfold untV at FR
  obtain ⟨e0, e1, e2, e3, e4⟩ := hrowu.unt hy
  rw [hVk] at e4
  have SYM := fun W (hW : CodAt B W c (.slice Al c.lits.length capl) (.slice (some ⟨bu, ou, none⟩) c.units.length capu)) => symbol_any W hW a (by omega) (by omega)
  rw [hsv1] at SYM
  have HC := Lib.hid h
  have HWR := Lib.hid (show IntKind.i64.wrap (y.args + y.copied + y.locals - 1) = Pl.frameOf y - 1 by rw [IntKind.wrap_i64]; unfold Pl.frameOf; omega)
  have SYM := Lib.hid SYM
  have hF : Pl.bytesA n = 1 := by unfold Pl.bytesA; rw [if_neg (by omega), if_neg (by omega)]
  have hT : Pl.two n = false := by unfold Pl.two; simp; omega
  subst hb
  unfold codV insV
  clear hy hBu hBl hrowu
  unfold codV at SYM
  go_enter Tryz.func33, Tryz.ntmps33
  go_upto_region 4 with first
    | (go_at_call 41; refine (first_any n _).mono ?_; rintro e w3 ⟨rfl, rfl⟩; rw [hF])
    | (go_at_call 42; refine (second_any n _).mono ?_; rintro e w3 ⟨rfl, rfl⟩; rw [hT])
  go_upto_region 5 with first
    | (go_at_call 65; refine (SYM.out _ (HC.out.keep ((((Below.refl B w).alloc hBw _).alloc (by simp <;> omega) _).alloc (by simp <;> omega) _))).mono ?_; rintro e w2 ⟨rfl, hb2⟩)
  have hz2 := hb2.size
  simp only [World.size_alloc] at hz2
  have hb02 : Below w.heap.size w w2 := ((((Below.refl _ _).alloc (Nat.le_refl _) _).alloc (by simp) _).alloc (by simp <;> omega) _).trans (hb2.mono (by simp <;> omega))
  have p2 : w2.cell? ⟨w.heap.size, 2, none⟩ = some (.slice Al c.lits.length capl) := by rw [hb2.cell (p := ⟨w.heap.size, 2, none⟩) (by simp <;> omega)]; simp [go_sem]
  have p3 : w2.cell? ⟨w.heap.size, 3, none⟩ = some (.slice (some ⟨bu, ou, none⟩) c.units.length capu) := by rw [hb2.cell (p := ⟨w.heap.size, 3, none⟩) (by simp <;> omega)]; simp [go_sem]
  have x0 : w2.cell? ⟨w.heap.size + 1, 0, none⟩ = some (.int .u8 n) := by rw [hb2.cell (p := ⟨w.heap.size + 1, 0, none⟩) (by simp <;> omega)]; simp [go_sem]
  have x1 : w2.cell? ⟨w.heap.size + 1, 1, none⟩ = some (.int .i64 a) := by rw [hb2.cell (p := ⟨w.heap.size + 1, 1, none⟩) (by simp <;> omega)]; simp [go_sem]
  have x2 : w2.cell? ⟨w.heap.size + 1, 2, none⟩ = some (.int .i64 0) := by rw [hb2.cell (p := ⟨w.heap.size + 1, 2, none⟩) (by simp <;> omega)]; simp [go_sem]
  have u0 : w2.cell? ⟨w.heap.size + 1 + 1, 0, none⟩ = some (.int .i64 y.args) := by rw [hb2.cell (p := ⟨w.heap.size + 1 + 1, 0, none⟩) (by simp)]; simp [go_sem]
  have u1 : w2.cell? ⟨w.heap.size + 1 + 1, 1, none⟩ = some (.int .i64 y.copied) := by rw [hb2.cell (p := ⟨w.heap.size + 1 + 1, 1, none⟩) (by simp)]; simp [go_sem]
  have u2 : w2.cell? ⟨w.heap.size + 1 + 1, 2, none⟩ = some (.int .i64 y.locals) := by rw [hb2.cell (p := ⟨w.heap.size + 1 + 1, 2, none⟩) (by simp)]; simp [go_sem]
  have u3 : w2.cell? ⟨w.heap.size + 1 + 1, 3, none⟩ = some (.int .i64 y.stack) := by rw [hb2.cell (p := ⟨w.heap.size + 1 + 1, 3, none⟩) (by simp)]; simp [go_sem]
  have u4 : w2.cell? ⟨w.heap.size + 1 + 1, 4, none⟩ = some (.slice Ay y.code.length capy) := by rw [hb2.cell (p := ⟨w.heap.size + 1 + 1, 4, none⟩) (by simp)]; simp [go_sem]
  have hzw : w.heap.size + 1 + 1 < w2.heap.size := by omega
  have HFC := Lib.hid (fun (W : World) (hb : Below w2.heap.size w2 W) => show W.cell? ⟨w.heap.size + 1, 1, none⟩ = some (.int .i64 a) ∧ W.cell? ⟨w.heap.size + 1, 2, none⟩ = some (.int .i64 0) ∧ W.cell? ⟨w.heap.size + 1 + 1, 0, none⟩ = some (.int .i64 y.args) ∧ W.cell? ⟨w.heap.size + 1 + 1, 1, none⟩ = some (.int .i64 y.copied) ∧ W.cell? ⟨w.heap.size + 1 + 1, 2, none⟩ = some (.int .i64 y.locals) ∧ W.cell? ⟨w.heap.size + 1 + 1, 3, none⟩ = some (.int .i64 y.stack) ∧ W.cell? ⟨w.heap.size + 1 + 1, 4, none⟩ = some (.slice Ay y.code.length capy) from ⟨by rw [hb.cell (p := ⟨w.heap.size + 1, 1, none⟩) (by simp <;> omega)]; exact x1, by rw [hb.cell (p := ⟨w.heap.size + 1, 2, none⟩) (by simp <;> omega)]; exact x2, by rw [hb.cell (p := ⟨w.heap.size + 1 + 1, 0, none⟩) (by simp <;> omega)]; exact u0, by rw [hb.cell (p := ⟨w.heap.size + 1 + 1, 1, none⟩) (by simp <;> omega)]; exact u1, by rw [hb.cell (p := ⟨w.heap.size + 1 + 1, 2, none⟩) (by simp <;> omega)]; exact u2, by rw [hb.cell (p := ⟨w.heap.size + 1 + 1, 3, none⟩) (by simp <;> omega)]; exact u3, by rw [hb.cell (p := ⟨w.heap.size + 1 + 1, 4, none⟩) (by simp <;> omega)]; exact u4⟩)
  have hz02 := hb02.size
  have HB2 := Lib.hid hb02
  clear hb2 hb02 hT hF SYM HC hsv1
  have q1 : ((n : Int) == 1) = false := by simp; omega
  have q2 : ((n : Int) == 2) = false := by simp; omega
  have q3 : ((n : Int) == 3) = false := by simp; omega
  have q4 : ((n : Int) == 4) = false := by simp; omega
  have q5 : ((n : Int) == 5) = false := by simp; omega
  have q6 : ((n : Int) == 6) = false := by simp; omega
  have q7 : ((n : Int) == 7) = false := by simp; omega
  have q8 : ((n : Int) == 8) = false := by simp; omega
  have q9 : ((n : Int) == 9) = false := by simp; omega
  have q10 : ((n : Int) == 10) = false := by simp; omega
  have q11 : ((n : Int) == 11) = false := by simp; omega
  have q12 : ((n : Int) == 12) = false := by simp; omega
  have q13 : ((n : Int) == 13) = false := by simp; omega
  have q14 : ((n : Int) == 14) = false := by simp; omega
  have q15 : ((n : Int) == 15) = false := by simp; omega
  have q16 : ((n : Int) == 16) = false := by simp; omega
  have q17 : ((n : Int) == 17) = false := by simp; omega
  have q18 : ((n : Int) == 18) = false := by simp; omega
  have q19 : ((n : Int) == 19) = false := by simp; omega
  have q20 : ((n : Int) == 20) = false := by simp; omega
  have q21 : ((n : Int) == 21) = false := by simp; omega
  have q22 : ((n : Int) == 22) = false := by simp; omega
  have q23 : ((n : Int) == 23) = false := by simp; omega
  have q24 : ((n : Int) == 24) = false := by simp; omega
  have q25 : ((n : Int) == 25) = false := by simp; omega
  have HNN := Lib.hid (Pl.standsB_none c.lits c.units i a 0 hn)
  clear hn
  go_wp2_with fail
  go_ret
  exact ⟨ret_bool (by rw [HNN.out]), HB2.out⟩
end Go.Proofs.YtoklnpoacckbfaaGreatDoor
namespace Go.Proofs.YtoklnpoacckbfaaGreatDoor
open Go.RowKit
set_option maxRecDepth 100000 in
set_option maxHeartbeats 4000000 in
theorem rstands_no {B : Nat} {c : Pl.Cod} {L U : Value} (w : World) (h : CodAt B w c L U) (i : Nat) (y : Pl.Unt) (hy : c.units[i]? = some y) (n : Nat) (a b : Int) (hx : Pl.InsW ⟨n, a, b⟩) (hno : Pl.bytesA n = 0 ∧ a ≠ 0 ∨ Pl.two n = false ∧ b ≠ 0) :
    Calls Tryz.prog 33 #[codV c L U, .int .i64 i, insV ⟨n, a, b⟩] w fun e w' => e = .returned (.bool (Pl.standsB c.lits c.units i ⟨n, a, b⟩)) ∧ Below w.heap.size w w' := by
  obtain ⟨xk, xa0, xa1, xb0, xb1⟩ := hx
  simp only at xk xa0 xa1 xb0 xb1
  have HS := Lib.hid (show Pl.standsB c.lits c.units i ⟨n, a, b⟩ = false from hno.elim (fun h => Pl.standsB_no1 _ _ _ h.1 h.2) (fun h => Pl.standsB_no2 _ _ _ h.1 h.2))
  obtain ⟨F, hF⟩ : ∃ F : Int, ((Pl.bytesA n : Nat) : Int) = F := ⟨_, rfl⟩
  obtain ⟨T, hT⟩ : ∃ T, Pl.two n = T := ⟨_, rfl⟩
  have hcase : (F == 0) = true ∧ (a != 0) = true ∨ (F == 0) = true ∧ (a != 0) = false ∧ T = false ∧ (b != 0) = true ∨ (F == 0) = false ∧ T = false ∧ (b != 0) = true := by
    rw [hT] at hno
    by_cases h0 : Pl.bytesA n = 0
    · have e0 : (F == 0) = true := by simp; omega
      by_cases ha : a = 0
      · rcases hno with h | h
        · exact absurd ha h.2
        · exact .inr (.inl ⟨e0, by simp [ha], h.1, by simpa using h.2⟩)
      · exact .inl ⟨e0, by simpa using ha⟩
    · have e0 : (F == 0) = false := by simp; omega
      rcases hno with h | h
      · exact absurd h.1 h0
      · exact .inr (.inr ⟨e0, h.1, by simpa using h.2⟩)
  have hBw := h.b
  obtain ⟨Al, capl, Vl, rfl, hBl, hrowl, hwl, hrl⟩ := h.l.out
  obtain ⟨Au, capu, Vu, rfl, hBu, hrowu, hwu, hru⟩ := h.u
  have hlt : i < c.units.length := (List.getElem?_eq_some_iff.1 hy).1
  obtain ⟨bu, ou, rfl, hbb⟩ := hrowu.some_of hlt
  obtain ⟨Ay, capy, hVk, _, hrowy, _⟩ := hru i y hy
  have hul := hrowu.len
  have hltI : (i : Int) < (c.units.length : Int) := by omega
  obtain ⟨e0, e1, e2, e3, e4⟩ := hrowu.unt hy
  rw [hVk] at e4
  clear hno hy hrowu
  unfold codV insV
  go_enter Tryz.func33, Tryz.ntmps33
  go_upto_region 2 with (fail)
  rcases hcase with ⟨h1, h2⟩ | ⟨h1, h2, rfl, h3⟩ | ⟨h1, rfl, h3⟩
  all_goals
    go_wp2_with first
      | (go_at_call 41; refine (first_any n _).mono ?_; rintro e w3 ⟨rfl, rfl⟩; rw [hF])
      | (go_at_call 42; refine (second_any n _).mono ?_; rintro e w3 ⟨rfl, rfl⟩; rw [hT])
    go_ret
    exact ⟨ret_bool (by rw [HS.out]), (((Below.refl _ _).alloc (Nat.le_refl _) _).alloc (by simp) _).alloc (by simp <;> omega) _⟩
/-- the document's stands -/
theorem rstands_any {B : Nat} {c : Pl.Cod} {L U : Value} (w : World) (h : CodAt B w c L U) (i : Nat) (y : Pl.Unt) (hy : c.units[i]? = some y) (hf : Pl.UntForm y) (x : Pl.Ins) (hx : Pl.InsW x) :
    Calls Tryz.prog 33 #[codV c L U, .int .i64 i, insV x] w fun e w' => e = .returned (.bool (Pl.standsB c.lits c.units i x)) ∧ Below w.heap.size w w' := by
  obtain ⟨n, a, b⟩ := x
  by_cases hno : Pl.bytesA n = 0 ∧ a ≠ 0 ∨ Pl.two n = false ∧ b ≠ 0
  · exact rstands_no w h i y hy n a b hx hno
  by_cases c0 : n = 1 ∨ n = 2 ∨ n = 3 ∨ n = 4 ∨ n = 14 ∨ n = 15 ∨ n = 21 ∨ n = 22
  · have h0 : Pl.bytesA n = 0 := by unfold Pl.bytesA; rw [if_neg (by omega), if_pos (by omega)]
    have h1 : Pl.two n = false := by unfold Pl.two; simp; omega
    have ha : a = 0 := Classical.byContradiction fun e => hno (.inl ⟨h0, e⟩)
    have hb : b = 0 := Classical.byContradiction fun e => hno (.inr ⟨h1, e⟩)
    exact rstands0 w h i y hy hf n a b hx c0 ha hb
  by_cases c2 : n = 7 ∨ n = 11 ∨ n = 16 ∨ n = 17 ∨ n = 25
  · exact rstands2 w h i y hy hf n a b hx c2
  have h1 : Pl.two n = false := by unfold Pl.two; simp; omega
  have hb : b = 0 := Classical.byContradiction fun e => hno (.inr ⟨h1, e⟩)
  by_cases c3 : n = 0 ∨ 26 ≤ n
  · exact rstands3 w h i y hy hf n a b hx c3 hb
  exact rstands1 w h i y hy hf n a b hx (by omega) hb
end Go.Proofs.YtoklnpoacckbfaaGreatDoor
namespace Go.Proofs.YtoklnpoacckbfaaGreatDoor
open Go Go.RowKit
namespace Pl
theorem check_form {c : Cod} (h : formedB c = false) : check c = 200 := by
  unfold formedB at h; unfold check
  rw [if_pos (by simpa using h)]
theorem check_stand {c : Cod} (hf : Formed c) {i : Nat} {u : Unt} {x : Ins} (hu : c.units[i]? = some u) (hx : x ∈ u.code) (h : standsB c.lits c.units i x = false) : check c = 201 := by
  unfold check
  rw [if_neg (by simpa using hf), if_pos]
  intro ha
  have := standsB_iff.2 (ha i u hu x hx)
  rw [h] at this; cases this
theorem check_fit {c : Cod} (hf : Formed c) (hs : AllStand c) {u : Unt} (hu : u ∈ c.units) (h : fitsB u = false) : check c = 202 := by
  unfold check
  rw [if_neg (by simpa using hf), if_neg (by simpa using hs), if_pos]
  intro ha
  have := ha u hu
  unfold fitsB at h
  simp only [decide_eq_false_iff_not] at h
  exact h this
theorem formed_of {c : Cod} (h : formedB c = true) : Formed c := by unfold formedB at h; simpa using h
theorem fits_of {u : Unt} (h : fitsB u = true) : Fits u.code u.stack := by unfold fitsB at h; simpa using h
theorem untOk_code {c : Cod} (hf : Formed c) (hs : AllStand c) {u : Unt} (hu : u ∈ c.units) : ∀ x ∈ u.code, InsOk x := (untOk_of hf hs u hu).i
end Pl
/-- what a function that reckons heights does -/
def FitsC (f : FuncId) : Prop := ∀ {B : Nat} (w : World) (y : Pl.Unt), Pl.UntForm y → (∀ x ∈ y.code, Pl.InsOk x) → ∀ V : Value, InssAt B w y.code V → B ≤ w.heap.size →
    Calls Tryz.prog f #[untV y V] w fun e w' => e = .returned (.bool (Pl.fitsB y)) ∧ Below w.heap.size w w'
set_option maxRecDepth 100000 in
set_option maxHeartbeats 4000000 in
theorem rcheck_of (hfit : FitsC 34) {B : Nat} {c : Pl.Cod} {L U : Value} (w : World) (h : CodAt B w c L U) (hbig : Pl.litsBig c.lits ≤ 262144) :
    Calls Tryz.prog 13 #[codV c L U] w fun e w' => e = .returned (.int .i64 (Pl.check c : Nat)) ∧ Below w.heap.size w w' := by
  have FO := fun (W : World) (hW : CodAt B W c L U) => (show Calls Tryz.prog 32 #[codV c L U] W fun e w' => e = .returned (.bool (Pl.formedB c)) ∧ Below W.heap.size W w' from by
    by_cases hf : Pl.Form1 c
    · exact rformed2_any W hW hf hbig
    · exact rformed1_any W hW hf)
  have hBw := h.b
  have HC := Lib.hid h
  have hlen := h.u
  obtain ⟨Al, capl, Vl, rfl, hBl, hrowl, hwl, hrl⟩ := h.l.out
  obtain ⟨Au, capu, Vu, rfl, hBu, hrowu, hwu, hru⟩ := h.u
  unfold codV at FO ⊢
  have FO := Lib.hid FO
  clear hlen
  go_enter Tryz.func13, Tryz.ntmps13
  go_upto_region 2 with (go_at_call 32; refine (FO.out _ (HC.out.keep ((Below.refl _ _).alloc hBw _))).mono ?_; rintro e w2 ⟨rfl, hb2⟩)
  have hbc : Below (w.heap.size + 1) (w.alloc (.cells #[.string c.sel, .int .i64 c.prim, .slice Al c.lits.length capl, .slice Au c.units.length capu] 25)) w2 := hb2.mono (by simp)
  have hb02 : Below w.heap.size w w2 := ((Below.refl _ _).alloc (Nat.le_refl _) _).trans (hbc.mono (by omega))
  have HBC := Lib.hid hbc
  have HB2 := Lib.hid hb02
  clear hb2 hbc hb02 FO
  cases hfo : Pl.formedB c
  · have HR := Lib.hid (Pl.check_form hfo)
    clear hfo
    go_wp2_with fail
    go_ret
    exact ⟨by rw [HR.out]; rfl, HB2.out⟩
  · have hF := Pl.formed_of hfo
    have HF := Lib.hid hF
    have hnu := hF.nu.2
    clear hfo hF
    go_wp2_with fail
    have CELL := Lib.hid (fun (W : World) (hW : Below w2.heap.size w2 W) => show W.cell? ⟨w.heap.size, 0, none⟩ = some (.string c.sel) ∧ W.cell? ⟨w.heap.size, 1, none⟩ = some (.int .i64 c.prim) ∧ W.cell? ⟨w.heap.size, 2, none⟩ = some (.slice Al c.lits.length capl) ∧ W.cell? ⟨w.heap.size, 3, none⟩ = some (.slice Au c.units.length capu) ∧ Below w.heap.size w W from by
      have hb := HBC.out.trans (hW.mono (by have := HBC.out.size; simpa using this))
      exact ⟨boxCells hb rfl, boxCells hb rfl, boxCells hb rfl, boxCells hb rfl, HB2.out.trans (hW.mono HB2.out.size)⟩)
    go_loopw [4] (fun iv wr => ∃ i : Nat, iv = .int .i64 i ∧ i ≤ c.units.length ∧ (∀ j u, j < i → c.units[j]? = some u → ∀ x ∈ u.code, Pl.Stands c.lits c.units j x) ∧ Below w2.heap.size w2 wr) (fun iv _ => c.units.length - (RowKit.intOf iv).toNat)
    case atStart => exact ⟨0, rfl, Nat.zero_le _, fun j u hj => absurd hj (Nat.not_lt_zero _), Below.refl _ _⟩
    case round =>
      obtain ⟨i, rfl, hi, hall, hb⟩ := hrel
      obtain ⟨d0, d1, d2, d3, hbw⟩ := CELL.out wr hb
      have HALL := Lib.hid hall
      clear hall
      have hz := hb.size
      by_cases hlt : i < c.units.length
      · obtain ⟨bu, ou, rfl, hbb⟩ := hrowu.some_of hlt
        obtain ⟨u, hu⟩ : ∃ u, c.units[i]? = some u := ⟨_, List.getElem?_eq_getElem hlt⟩
        have huf := HF.out.u u (List.mem_of_getElem? hu)
        have hltI : (i : Int) < (c.units.length : Int) := by omega
        obtain ⟨Ai, capi, hVk, hBi, hrowi, hwi⟩ := hru i u hu
        have HU := Lib.hid hu
        have hfn := huf.n.2
        have HUF := Lib.hid huf
        have HBR := Lib.hid hb
        clear hu huf hb hbw
        go_wp2_with fail
        clear d0 d1 d2 d3
        obtain ⟨wp, hwp⟩ : ∃ z, z = wr := ⟨wr, rfl⟩
        subst hwp
        go_loopw [5] (fun iv wr => ∃ k : Nat, iv = .int .i64 k ∧ k ≤ u.code.length ∧ (∀ j x, j < k → u.code[j]? = some x → Pl.Stands c.lits c.units i x) ∧ Below wp.heap.size wp wr) (fun iv _ => u.code.length - (RowKit.intOf iv).toNat)
        case atStart => exact ⟨0, rfl, Nat.zero_le _, fun j u hj => absurd hj (Nat.not_lt_zero _), Below.refl _ _⟩
        case round =>
          obtain ⟨k, rfl, hk, hins, hb⟩ := hrel
          have HINS := Lib.hid hins
          clear hins
          have hb2r := HBR.out.trans (hb.mono (by omega))
          obtain ⟨d0, d1, d2, d3, hbw⟩ := CELL.out wr hb2r
          obtain ⟨e0, e1, e2, e3, e4⟩ := (hrowu.keep (hbw.mono hBw) hBu).unt HU.out
          rw [hVk] at e4
          have hz2 := hb.size
          by_cases hklt : k < u.code.length
          · have hkI : (k : Int) < (u.code.length : Int) := by omega
            obtain ⟨bi, oi, rfl, hbi⟩ := hrowi.some_of hklt
            obtain ⟨x, hx⟩ : ∃ x, u.code[k]? = some x := ⟨_, List.getElem?_eq_getElem hklt⟩
            obtain ⟨f0, f1, f2⟩ := (hrowi.keep (hbw.mono hBw) hBi).ins hx
            have hxw := hwi x (List.mem_of_getElem? hx)
            have HX := Lib.hid hx
            have HBW := Lib.hid hbw
            have HB := Lib.hid hb
            clear hx hbw hb hb2r
            go_upto_region 10 with (fail)
            go_still_tail 11, (by kernel_rfl)
            change wpList _ _ _ _ _ wr.drew
            have hbd : Below w.heap.size w wr.drew := HBW.out.drew
            have hbdd : Below wp.heap.size wp wr.drew := HB.out.drew
            generalize wr.drew = w9 at hbd hbdd ⊢
            have ST := rstands_any w9 (HC.out.keep (hbd.mono hBw)) i u HU.out HUF.out x hxw
            unfold codV insV at ST
            have hz9 := hbdd.size
            have HBD := Lib.hid hbd
            have HBDD := Lib.hid hbdd
            clear hbd hbdd
            cases hst : Pl.standsB c.lits c.units i x
            · rw [hst] at ST
              have HR := Lib.hid (Pl.check_stand HF.out HU.out (List.mem_of_getElem? HX.out) hst)
              have ST := Lib.hid ST
              clear hst
              go_wp2_with (go_at_call 33; refine ST.out.mono ?_; rintro e w10 ⟨rfl, hb10⟩)
              go_ret
              exact ⟨by rw [HR.out]; rfl, HBD.out.trans (hb10.mono HBD.out.size)⟩
            · rw [hst] at ST
              have HS := Lib.hid (Pl.standsB_iff.1 hst)
              have ST := Lib.hid ST
              clear hst
              go_wp2_with (go_at_call 33; refine ST.out.mono ?_; rintro e w10 ⟨rfl, hb10⟩)
              go_roundw
              case rel =>
                refine ⟨k + 1, by go_num, by omega, ?_, HBDD.out.trans (hb10.mono hz9)⟩
                intro j x' hj hx'
                by_cases e : j = k
                · subst e; rw [HX.out] at hx'; cases hx'; exact HS.out
                · exact HINS.out j x' (by omega) hx'
              case measure => simp [RowKit.intOf]; omega
          · have hkI : (u.code.length : Int) ≤ (k : Int) := by omega
            have HS := Lib.hid (show ∀ x ∈ u.code, Pl.Stands c.lits c.units i x from fun x hx => by
              obtain ⟨j, hj⟩ := List.mem_iff_getElem?.1 hx
              exact HINS.out j x (by have := (List.getElem?_eq_some_iff.1 hj).1; omega) hj)
            have HB := Lib.hid hb2r
            clear hbw hb hb2r
            go_wp2_with fail
            go_roundw
            case rel =>
              refine ⟨i + 1, by go_num, by omega, ?_, HB.out⟩
              intro j u' hj hu'
              by_cases e : j = i
              · subst e; rw [HU.out] at hu'; cases hu'; exact HS.out
              · exact HALL.out j u' (by omega) hu'
            case measure => simp [RowKit.intOf]; omega
      · have hltI : (c.units.length : Int) ≤ (i : Int) := by omega
        have HST := Lib.hid (show Pl.AllStand c from fun j u hu => HALL.out j u (by have := (List.getElem?_eq_some_iff.1 hu).1; omega) hu)
        have HBR := Lib.hid hb
        clear hb hbw
        obtain ⟨wp, hwp⟩ : ∃ z, z = wr := ⟨wr, rfl⟩
        subst hwp
        go_wp2_with fail
        clear d0 d1 d2 d3
        go_loopw [6] (fun iv wr => ∃ i : Nat, iv = .int .i64 i ∧ i ≤ c.units.length ∧ (∀ j u, j < i → c.units[j]? = some u → Pl.Fits u.code u.stack) ∧ Below wp.heap.size wp wr) (fun iv _ => c.units.length - (RowKit.intOf iv).toNat)
        case atStart => exact ⟨0, rfl, Nat.zero_le _, fun j u hj => absurd hj (Nat.not_lt_zero _), Below.refl _ _⟩
        case round =>
          obtain ⟨i, rfl, hi, hall, hb⟩ := hrel
          have hb2r := HBR.out.trans (hb.mono (by omega))
          obtain ⟨d0, d1, d2, d3, hbw⟩ := CELL.out wr hb2r
          have HALL2 := Lib.hid hall
          have hzr := hb.size
          clear hall
          by_cases hlt : i < c.units.length
          · obtain ⟨bu, ou, rfl, hbb⟩ := hrowu.some_of hlt
            obtain ⟨u, hu⟩ : ∃ u, c.units[i]? = some u := ⟨_, List.getElem?_eq_getElem hlt⟩
            have huf := HF.out.u u (List.mem_of_getElem? hu)
            have hltI : (i : Int) < (c.units.length : Int) := by omega
            obtain ⟨e0, e1, e2, e3, e4⟩ := (hrowu.keep (hbw.mono hBw) hBu).unt hu
            have HFI := hfit wr u huf (Pl.untOk_code HF.out HST.out (List.mem_of_getElem? hu)) (Vu i) ((hru i u hu).keep (hbw.mono hBw)) (by have := hbw.size; omega)
            obtain ⟨Ai, capi, hVk, hBi, hrowi, hwi⟩ := hru i u hu
            rw [hVk] at e4 HFI
            unfold untV at HFI
            have HU := Lib.hid hu
            have HBW := Lib.hid hbw
            have HB := Lib.hid hb
            clear hu huf hbw hb hb2r
            cases hft : Pl.fitsB u
            · rw [hft] at HFI
              have HR := Lib.hid (Pl.check_fit HF.out HST.out (List.mem_of_getElem? HU.out) hft)
              have HFI := Lib.hid HFI
              clear hft
              go_wp2_with (go_at_call 34; refine HFI.out.mono ?_; rintro e w10 ⟨rfl, hb10⟩)
              go_ret
              exact ⟨by rw [HR.out]; rfl, HBW.out.trans (hb10.mono HBW.out.size)⟩
            · rw [hft] at HFI
              have HS := Lib.hid (Pl.fits_of hft)
              have HFI := Lib.hid HFI
              clear hft
              go_wp2_with (go_at_call 34; refine HFI.out.mono ?_; rintro e w10 ⟨rfl, hb10⟩)
              go_roundw
              case rel =>
                refine ⟨i + 1, by go_num, by omega, ?_, HB.out.trans (hb10.mono hzr)⟩
                intro j u' hj hu'
                by_cases e : j = i
                · subst e; rw [HU.out] at hu'; cases hu'; exact HS.out
                · exact HALL2.out j u' (by omega) hu'
              case measure => simp [RowKit.intOf]; omega
          · have hltI : (c.units.length : Int) ≤ (i : Int) := by omega
            have HR := Lib.hid (show Pl.check c = 0 from Pl.check_ok.2 ⟨HF.out, HST.out, fun u hu => by
              obtain ⟨j, hj⟩ := List.mem_iff_getElem?.1 hu
              exact HALL2.out j u (by have := (List.getElem?_eq_some_iff.1 hj).1; omega) hj⟩)
            go_wp2_with fail
            go_ret
            exact ⟨by rw [HR.out]; rfl, hbw⟩
end Go.Proofs.YtoklnpoacckbfaaGreatDoor
