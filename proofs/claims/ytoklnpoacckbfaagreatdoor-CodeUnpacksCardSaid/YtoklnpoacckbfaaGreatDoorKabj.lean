/- code.stands: whatever the instruction. code.Check, given what its fits does. Both Checks. -/
import Derived.Test.YtoklnpoacckbfaaGreatDoorKabg
import Derived.Test.YtoklnpoacckbfaaGreatDoorKabh
import Derived.Test.YtoklnpoacckbfaaGreatDoorKabi
import Derived.Test.YtoklnpoacckbfaaGreatDoorKaba
import Derived.Test.YtoklnpoacckbfaaGreatDoorKabf
import Derived.Deep.CutRange
import Derived.Test.YtoklnpoacckbfaaGreatDoorKaap
namespace Go.Proofs.YtoklnpoacckbfaaGreatDoor
open Go.RowKit
set_option maxRecDepth 100000 in
set_option maxHeartbeats 4000000 in
theorem stands_none {B : Nat} {c : Pl.Cod} {L U : Value} (w : World) (h : CodAt B w c L U) (i : Nat) (n : Nat) (a b : Int) (hx : Pl.InsW ⟨n, a, b⟩) (hkn : ¬ Pl.known n) :
    Calls Tryz.prog 28 #[codV c L U, .int .i64 i, insV ⟨n, a, b⟩] w fun e w' => e = .returned (.bool (Pl.standsB c.lits c.units i ⟨n, a, b⟩)) ∧ Below w.heap.size w w' := by
  obtain ⟨xk, xa0, xa1, xb0, xb1⟩ := hx
  simp only at xk xa0 xa1 xb0 xb1
  have HS := Lib.hid (Pl.standsB_none c.lits c.units i a b (k := n) (by unfold Pl.known at hkn; omega))
  obtain ⟨Al, capl, Vl, rfl, hBl, hrowl, hwl, hrl⟩ := h.l.out
  obtain ⟨Au, capu, Vu, rfl, hBu, hrowu, hwu, hru⟩ := h.u
  unfold codV insV
  go_enter Tryz.func28, Tryz.ntmps28
  go_wp2_with fail
  refine (of_none n hkn xk _).mono ?_
  rintro e w2 ⟨rfl, hb2⟩
  unfold shapeZ
  have hb02 : Below w.heap.size w w2 := (((Below.refl _ _).alloc (Nat.le_refl _) _).alloc (by simp) _).trans (hb2.mono (by simp; omega))
  go_wp2_with fail
  go_ret
  refine ⟨ret_bool (by rw [HS.out]), hb02.alloc (by have := hb02.size; omega) _⟩
set_option maxRecDepth 100000 in
set_option maxHeartbeats 4000000 in
theorem stands_no {B : Nat} {c : Pl.Cod} {L U : Value} (w : World) (h : CodAt B w c L U) (i : Nat) (n : Nat) (a b : Int) (hx : Pl.InsW ⟨n, a, b⟩) (hkn : Pl.known n) (hno : Pl.bytesA n = 0 ∧ a ≠ 0 ∨ Pl.two n = false ∧ b ≠ 0) :
    Calls Tryz.prog 28 #[codV c L U, .int .i64 i, insV ⟨n, a, b⟩] w fun e w' => e = .returned (.bool (Pl.standsB c.lits c.units i ⟨n, a, b⟩)) ∧ Below w.heap.size w w' := by
  obtain ⟨xk, xa0, xa1, xb0, xb1⟩ := hx
  simp only at xk xa0 xa1 xb0 xb1
  have HS := Lib.hid (show Pl.standsB c.lits c.units i ⟨n, a, b⟩ = false from hno.elim (fun h => Pl.standsB_no1 _ _ _ h.1 h.2) (fun h => Pl.standsB_no2 _ _ _ h.1 h.2))
  have hF : Pl.shFirst n = (Pl.bytesA n : Nat) := by unfold Pl.shFirst; unfold Pl.known at hkn; rw [if_neg (by omega)]
  obtain ⟨F, hF2⟩ : ∃ F : Int, ((Pl.bytesA n : Nat) : Int) = F := ⟨_, rfl⟩
  obtain ⟨T, hT⟩ : ∃ T, Pl.two n = T := ⟨_, rfl⟩
  rw [hF2] at hF
  have hcase : (F == 0) = true ∧ (a != 0) = true ∨ (F == 0) = true ∧ (a != 0) = false ∧ T = false ∧ (b != 0) = true ∨ (F == 0) = false ∧ T = false ∧ (b != 0) = true := by
    rw [hT] at hno
    by_cases h0 : Pl.bytesA n = 0
    · have e0 : (F == 0) = true := by simp; omega
      by_cases ha : a = 0
      · rcases hno with h | h
        · exact absurd ha h.2
        · exact .inr (.inl ⟨e0, by simp [ha], h.1, by simpa using h.2⟩)
      · exact .inl ⟨e0, by simpa using ha⟩
    · have e0 : (F == 0) = false := by simp; omega
      rcases hno with h | h
      · exact absurd h.1 h0
      · exact .inr (.inr ⟨e0, h.1, by simpa using h.2⟩)
  obtain ⟨Al, capl, Vl, rfl, hBl, hrowl, hwl, hrl⟩ := h.l.out
  obtain ⟨Au, capu, Vu, rfl, hBu, hrowu, hwu, hru⟩ := h.u
  clear hno
  unfold codV insV
  go_enter Tryz.func28, Tryz.ntmps28
  go_wp2_with fail
  refine (of_known n hkn _).mono ?_
  rintro e w2 ⟨rfl, hb2⟩
  have hz2 := hb2.size
  simp only [World.size_alloc] at hz2
  have hb02 : Below w.heap.size w w2 := (((Below.refl _ _).alloc (Nat.le_refl _) _).alloc (by simp) _).trans (hb2.mono (by simp; omega))
  have x1 : w2.cell? ⟨w.heap.size + 1, 1, none⟩ = some (.int .i64 a) := by rw [hb2.cell (p := ⟨w.heap.size + 1, 1, none⟩) (by simp)]; simp [go_sem]
  have x2 : w2.cell? ⟨w.heap.size + 1, 2, none⟩ = some (.int .i64 b) := by rw [hb2.cell (p := ⟨w.heap.size + 1, 2, none⟩) (by simp)]; simp [go_sem]
  have l1 : w.heap.size + 1 < w2.heap.size := by omega
  have m1 : ¬ w.heap.size + 1 = w2.heap.size := by omega
  have HB02 := Lib.hid hb02
  unfold Pl.shapeV
  rw [hF, hT]
  clear hb2 hb02 hF hT hF2
  rcases hcase with ⟨h1, h2⟩ | ⟨h1, h2, rfl, h3⟩ | ⟨h1, rfl, h3⟩
  all_goals
    go_wp2_with fail
    go_ret
    refine ⟨ret_bool (by rw [HS.out]), HB02.out.alloc (by omega) _⟩
/-- code.stands -/
theorem stands_any {B : Nat} {c : Pl.Cod} {L U : Value} (w : World) (h : CodAt B w c L U) (i : Nat) (y : Pl.Unt) (hy : c.units[i]? = some y) (hf : Pl.UntForm y) (hnl : c.lits.length ≤ 255) (x : Pl.Ins) (hx : Pl.InsW x) :
    Calls Tryz.prog 28 #[codV c L U, .int .i64 i, insV x] w fun e w' => e = .returned (.bool (Pl.standsB c.lits c.units i x)) ∧ Below w.heap.size w w' := by
  obtain ⟨n, a, b⟩ := x
  by_cases hkn : Pl.known n
  · by_cases hno : Pl.bytesA n = 0 ∧ a ≠ 0 ∨ Pl.two n = false ∧ b ≠ 0
    · exact stands_no w h i n a b hx hkn hno
    have hk := hkn
    unfold Pl.known at hk
    have hsym : Pl.in_ a 0 ((c.lits.length : Int) - 1) → ∃ k z, a = (k : Nat) ∧ c.lits[k]? = some z := by
      intro hin
      unfold Pl.in_ at hin
      exact ⟨a.toNat, _, by omega, List.getElem?_eq_getElem (by omega)⟩
    by_cases c0 : n = 1 ∨ n = 2 ∨ n = 3 ∨ n = 4 ∨ n = 14 ∨ n = 15 ∨ n = 21 ∨ n = 22
    · have h0 : Pl.bytesA n = 0 := by unfold Pl.bytesA; rw [if_neg (by omega), if_pos (by omega)]
      have h1 : Pl.two n = false := by unfold Pl.two; simp; omega
      have ha : a = 0 := Classical.byContradiction fun e => hno (.inl ⟨h0, e⟩)
      have hb : b = 0 := Classical.byContradiction fun e => hno (.inr ⟨h1, e⟩)
      by_cases hin : Pl.in_ a 0 ((c.lits.length : Int) - 1)
      · obtain ⟨k, z, hk, hz⟩ := hsym hin
        by_cases hzk : z.kind = 9
        · exact stands0_sym w h i y hy hf hnl n a b hx c0 ha hb k z hk hz hzk
        · exact stands0_kin w h i y hy hf hnl n a b hx c0 ha hb k z hk hz hzk
      · exact stands0_out w h i y hy hf hnl n a b hx c0 ha hb hin
    by_cases c2 : n = 7 ∨ n = 11 ∨ n = 16 ∨ n = 17 ∨ n = 25
    · by_cases hin : Pl.in_ a 0 ((c.lits.length : Int) - 1)
      · obtain ⟨k, z, hk, hz⟩ := hsym hin
        by_cases hzk : z.kind = 9
        · exact stands2_sym w h i y hy hf hnl n a b hx c2 k z hk hz hzk
        · exact stands2_kin w h i y hy hf hnl n a b hx c2 k z hk hz hzk
      · exact stands2_out w h i y hy hf hnl n a b hx c2 hin
    have c1 : n = 5 ∨ n = 6 ∨ n = 8 ∨ n = 9 ∨ n = 10 ∨ n = 12 ∨ n = 13 ∨ n = 18 ∨ n = 19 ∨ n = 20 ∨ n = 23 ∨ n = 24 := by omega
    have h1 : Pl.two n = false := by unfold Pl.two; simp; omega
    have hb : b = 0 := Classical.byContradiction fun e => hno (.inr ⟨h1, e⟩)
    by_cases hin : Pl.in_ a 0 ((c.lits.length : Int) - 1)
    · obtain ⟨k, z, hk, hz⟩ := hsym hin
      by_cases hzk : z.kind = 9
      · exact stands1_sym w h i y hy hf hnl n a b hx c1 hb k z hk hz hzk
      · exact stands1_kin w h i y hy hf hnl n a b hx c1 hb k z hk hz hzk
    · exact stands1_out w h i y hy hf hnl n a b hx c1 hb hin
  · exact stands_none w h i n a b hx hkn
end Go.Proofs.YtoklnpoacckbfaaGreatDoor
namespace Go.Proofs.YtoklnpoacckbfaaGreatDoor
open Go Go.RowKit
set_option maxRecDepth 100000 in
set_option maxHeartbeats 4000000 in
theorem check_of (hfit : FitsC 29) {B : Nat} {c : Pl.Cod} {L U : Value} (w : World) (h : CodAt B w c L U) (he : ErrAt w) (hEB : 9 < B) (hbig : Pl.litsBig c.lits ≤ 262144) :
    Calls Tryz.prog 11 #[codV c L U] w fun e w' => e = .returned (.int .i64 (Pl.check c : Nat)) ∧ Below w.heap.size w w' := by
  have FO := fun (W : World) (hW : CodAt B W c L U) (hE : ErrAt W) => (show Calls Tryz.prog 27 #[codV c L U] W fun e w' => e = .returned (.bool (Pl.formedB c)) ∧ Below W.heap.size W w' from by
    by_cases hf : Pl.Form1 c
    · exact formed2_any W hW hE hEB hf hbig
    · exact formed1_any W hW hf)
  have hBw := h.b
  have HC := Lib.hid h
  have hlen := h.u
  obtain ⟨Al, capl, Vl, rfl, hBl, hrowl, hwl, hrl⟩ := h.l.out
  obtain ⟨Au, capu, Vu, rfl, hBu, hrowu, hwu, hru⟩ := h.u
  unfold codV at FO ⊢
  clear hlen
  cases hfo : Pl.formedB c
  · rw [hfo] at FO
    have FO := Lib.hid FO
    have HR := Lib.hid (Pl.check_form hfo)
    clear hfo
    go_enter Tryz.func11, Tryz.ntmps11
    go_wp2_with (go_at_call 27; refine (FO.out _ (HC.out.keep ((Below.refl _ _).alloc hBw _)) (he.keep ((Below.refl w.heap.size w).alloc (Nat.le_refl _) _) he.1)).mono ?_; rintro e w2 ⟨rfl, hb2⟩; have d3w : w2.cell? ⟨w.heap.size, 3, none⟩ = some (.slice Au c.units.length capu) := boxCells (hb2.mono (by simp)) rfl)
    go_ret
    exact ⟨by rw [HR.out]; rfl, ((Below.refl _ _).alloc (Nat.le_refl _) _).trans (hb2.mono (by simp))⟩
  · rw [hfo] at FO
    have FO := Lib.hid FO
    have hF := Pl.formed_of hfo
    have HF := Lib.hid hF
    have hnu := hF.nu.2
    have hnl := hF.nl
    clear hfo hF
    go_enter Tryz.func11, Tryz.ntmps11
    go_wp2_with (go_at_call 27; refine (FO.out _ (HC.out.keep ((Below.refl _ _).alloc hBw _)) (he.keep ((Below.refl w.heap.size w).alloc (Nat.le_refl _) _) he.1)).mono ?_; rintro e w2 ⟨rfl, hb2⟩; have d3w : w2.cell? ⟨w.heap.size, 3, none⟩ = some (.slice Au c.units.length capu) := boxCells (hb2.mono (by simp)) rfl)
    have hbc : Below (w.heap.size + 1) (w.alloc (.cells #[.string c.sel, .int .i64 c.prim, .slice Al c.lits.length capl, .slice Au c.units.length capu] 25)) w2 := hb2.mono (by simp)
    have hb02 : Below w.heap.size w w2 := ((Below.refl _ _).alloc (Nat.le_refl _) _).trans (hbc.mono (by omega))
    have HBC := Lib.hid hbc
    have HB2 := Lib.hid hb02
    clear hb2 hbc hb02 FO
    have CELL := Lib.hid (fun (W : World) (hW : Below w2.heap.size w2 W) => show W.cell? ⟨w.heap.size, 0, none⟩ = some (.string c.sel) ∧ W.cell? ⟨w.heap.size, 1, none⟩ = some (.int .i64 c.prim) ∧ W.cell? ⟨w.heap.size, 2, none⟩ = some (.slice Al c.lits.length capl) ∧ W.cell? ⟨w.heap.size, 3, none⟩ = some (.slice Au c.units.length capu) ∧ Below w.heap.size w W from by
      have hb := HBC.out.trans (hW.mono (by have := HBC.out.size; simpa using this))
      exact ⟨boxCells hb rfl, boxCells hb rfl, boxCells hb rfl, boxCells hb rfl, HB2.out.trans (hW.mono HB2.out.size)⟩)
    go_loopw [15] (fun iv wr => ∃ i : Nat, iv = .int .i64 i ∧ i ≤ c.units.length ∧ (∀ j u, j < i → c.units[j]? = some u → ∀ x ∈ u.code, Pl.Stands c.lits c.units j x) ∧ Below w2.heap.size w2 wr) (fun iv _ => c.units.length - (RowKit.intOf iv).toNat)
    case atStart => exact ⟨0, rfl, Nat.zero_le _, fun j u hj => absurd hj (Nat.not_lt_zero _), Below.refl _ _⟩
    case round =>
      obtain ⟨i, rfl, hi, hall, hb⟩ := hrel
      obtain ⟨d0, d1, d2, d3, hbw⟩ := CELL.out wr hb
      have HALL := Lib.hid hall
      clear hall
      have hz := hb.size
      by_cases hlt : i < c.units.length
      · obtain ⟨bu, ou, rfl, hbb⟩ := hrowu.some_of hlt
        obtain ⟨u, hu⟩ : ∃ u, c.units[i]? = some u := ⟨_, List.getElem?_eq_getElem hlt⟩
        have huf := HF.out.u u (List.mem_of_getElem? hu)
        have hltI : (i : Int) < (c.units.length : Int) := by omega
        obtain ⟨Ai, capi, hVk, hBi, hrowi, hwi⟩ := hru i u hu
        obtain ⟨e0, e1, e2, e3, e4⟩ := (hrowu.keep (hbw.mono hBw) hBu).unt hu
        rw [hVk] at e4
        have HU := Lib.hid hu
        have hfn := huf.n.2
        have HUF := Lib.hid huf
        have HBR := Lib.hid hb
        clear hu huf hb hbw
        go_wp2_with fail
        clear d0 d1 d2 d3 e0 e1 e2 e3 e4
        have HBR := Lib.hid (HBR.out.trans (((Below.refl wr.heap.size wr).alloc (Nat.le_refl _) (.cells #[.int .i64 u.args, .int .i64 u.copied, .int .i64 u.locals, .int .i64 u.stack, .slice Ai u.code.length capi] 58)).mono hz))
        have hzp : w2.heap.size ≤ (wr.alloc (.cells #[.int .i64 u.args, .int .i64 u.copied, .int .i64 u.locals, .int .i64 u.stack, .slice Ai u.code.length capi] 58)).heap.size := by simp; omega
        generalize wr.alloc (.cells #[.int .i64 u.args, .int .i64 u.copied, .int .i64 u.locals, .int .i64 u.stack, .slice Ai u.code.length capi] 58) = wp at HBR hzp ⊢
        go_loopw [23] (fun iv wr => ∃ k : Nat, iv = .int .i64 k ∧ k ≤ u.code.length ∧ (∀ j x, j < k → u.code[j]? = some x → Pl.Stands c.lits c.units i x) ∧ Below wp.heap.size wp wr) (fun iv _ => u.code.length - (RowKit.intOf iv).toNat)
        case atStart => exact ⟨0, rfl, Nat.zero_le _, fun j u hj => absurd hj (Nat.not_lt_zero _), Below.refl _ _⟩
        case round =>
          obtain ⟨k, rfl, hk, hins, hb⟩ := hrel
          have HINS := Lib.hid hins
          clear hins
          have hb2r := HBR.out.trans (hb.mono (by omega))
          obtain ⟨d0, d1, d2, d3, hbw⟩ := CELL.out wr hb2r
          have hl0 : w.heap.size < wr.heap.size := by simpa using World.block_lt_of_cell? _ _ d0
          have hl1 : ¬ w.heap.size = wr.heap.size := by omega
          have hz2 := hb.size
          by_cases hklt : k < u.code.length
          · have hkI : (k : Int) < (u.code.length : Int) := by omega
            obtain ⟨bi, oi, rfl, hbi⟩ := hrowi.some_of hklt
            obtain ⟨x, hx⟩ : ∃ x, u.code[k]? = some x := ⟨_, List.getElem?_eq_getElem hklt⟩
            obtain ⟨f0, f1, f2⟩ := (hrowi.keep (hbw.mono hBw) hBi).ins hx
            have hxw := hwi x (List.mem_of_getElem? hx)
            have HX := Lib.hid hx
            have HBW := Lib.hid hbw
            have HB := Lib.hid hb
            clear hx hbw hb hb2r
            have hbd : Below w.heap.size w (wr.alloc (.cells #[.int .u8 x.op, .int .i64 x.a, .int .i64 x.b] 61)) := HBW.out.alloc HBW.out.size _
            have hbdd : Below wp.heap.size wp (wr.alloc (.cells #[.int .u8 x.op, .int .i64 x.a, .int .i64 x.b] 61)) := HB.out.alloc hz2 _
            have ST := stands_any (wr.alloc (.cells #[.int .u8 x.op, .int .i64 x.a, .int .i64 x.b] 61)) (HC.out.keep (hbd.mono hBw)) i u HU.out HUF.out hnl x hxw
            unfold codV insV at ST
            have hz9 := hbdd.size
            have HBD := Lib.hid hbd
            have HBDD := Lib.hid hbdd
            clear hbd hbdd
            cases hst : Pl.standsB c.lits c.units i x
            · rw [hst] at ST
              have HR := Lib.hid (Pl.check_stand HF.out HU.out (List.mem_of_getElem? HX.out) hst)
              have ST := Lib.hid ST
              clear hst
              go_wp2_with (go_at_call 28; refine ST.out.mono ?_; rintro e w10 ⟨rfl, hb10⟩)
              go_ret
              exact ⟨by rw [HR.out]; rfl, HBD.out.trans (hb10.mono HBD.out.size)⟩
            · rw [hst] at ST
              have HS := Lib.hid (Pl.standsB_iff.1 hst)
              have ST := Lib.hid ST
              clear hst
              go_wp2_with (go_at_call 28; refine ST.out.mono ?_; rintro e w10 ⟨rfl, hb10⟩)
              go_roundw
              case rel =>
                refine ⟨k + 1, by go_num, by omega, ?_, HBDD.out.trans (hb10.mono hz9)⟩
                intro j x' hj hx'
                by_cases e : j = k
                · subst e; rw [HX.out] at hx'; cases hx'; exact HS.out
                · exact HINS.out j x' (by omega) hx'
              case measure => simp [RowKit.intOf]; omega
          · have hkI : (u.code.length : Int) ≤ (k : Int) := by omega
            have HS := Lib.hid (show ∀ x ∈ u.code, Pl.Stands c.lits c.units i x from fun x hx => by
              obtain ⟨j, hj⟩ := List.mem_iff_getElem?.1 hx
              exact HINS.out j x (by have := (List.getElem?_eq_some_iff.1 hj).1; omega) hj)
            have HB := Lib.hid hb2r
            clear hbw hb hb2r
            go_wp2_with fail
            go_roundw
            case rel =>
              refine ⟨i + 1, by go_num, by omega, ?_, HB.out⟩
              intro j u' hj hu'
              by_cases e : j = i
              · subst e; rw [HU.out] at hu'; cases hu'; exact HS.out
              · exact HALL.out j u' (by omega) hu'
            case measure => simp [RowKit.intOf]; omega
      · have hltI : (c.units.length : Int) ≤ (i : Int) := by omega
        have HST := Lib.hid (show Pl.AllStand c from fun j u hu => HALL.out j u (by have := (List.getElem?_eq_some_iff.1 hu).1; omega) hu)
        have HBR := Lib.hid hb
        clear hb hbw
        obtain ⟨wp, hwp⟩ : ∃ z, z = wr := ⟨wr, rfl⟩
        subst hwp
        go_wp2_with fail
        clear d0 d1 d2 d3
        go_loopw [37] (fun iv wr => ∃ i : Nat, iv = .int .i64 i ∧ i ≤ c.units.length ∧ (∀ j u, j < i → c.units[j]? = some u → Pl.Fits u.code u.stack) ∧ Below wp.heap.size wp wr) (fun iv _ => c.units.length - (RowKit.intOf iv).toNat)
        case atStart => exact ⟨0, rfl, Nat.zero_le _, fun j u hj => absurd hj (Nat.not_lt_zero _), Below.refl _ _⟩
        case round =>
          obtain ⟨i, rfl, hi, hall, hb⟩ := hrel
          have hb2r := HBR.out.trans (hb.mono (by omega))
          obtain ⟨d0, d1, d2, d3, hbw⟩ := CELL.out wr hb2r
          have hl0 : w.heap.size < wr.heap.size := by simpa using World.block_lt_of_cell? _ _ d0
          have hl1 : ¬ w.heap.size = wr.heap.size := by omega
          have HALL2 := Lib.hid hall
          have hzr := hb.size
          clear hall
          by_cases hlt : i < c.units.length
          · obtain ⟨bu, ou, rfl, hbb⟩ := hrowu.some_of hlt
            obtain ⟨u, hu⟩ : ∃ u, c.units[i]? = some u := ⟨_, List.getElem?_eq_getElem hlt⟩
            have huf := HF.out.u u (List.mem_of_getElem? hu)
            have hltI : (i : Int) < (c.units.length : Int) := by omega
            obtain ⟨e0, e1, e2, e3, e4⟩ := (hrowu.keep (hbw.mono hBw) hBu).unt hu
            have HFI := hfit (wr.alloc (.cells #[.int .i64 u.args, .int .i64 u.copied, .int .i64 u.locals, .int .i64 u.stack, Vu i] 58)) u huf (Pl.untOk_code HF.out HST.out (List.mem_of_getElem? hu)) (Vu i) ((hru i u hu).keep ((hbw.mono hBw).alloc (by have := hbw.size; omega) _)) (by have := hbw.size; simp; omega)
            obtain ⟨Ai, capi, hVk, hBi, hrowi, hwi⟩ := hru i u hu
            rw [hVk] at e4 HFI
            unfold untV at HFI
            have HU := Lib.hid hu
            have HBW := Lib.hid hbw
            have HB := Lib.hid hb
            clear hu huf hbw hb hb2r
            cases hft : Pl.fitsB u
            · rw [hft] at HFI
              have HR := Lib.hid (Pl.check_fit HF.out HST.out (List.mem_of_getElem? HU.out) hft)
              have HFI := Lib.hid HFI
              clear hft
              go_wp2_with (go_at_call 29; refine HFI.out.mono ?_; rintro e w10 ⟨rfl, hb10⟩)
              go_ret
              exact ⟨by rw [HR.out]; rfl, (HBW.out.alloc HBW.out.size _).trans (hb10.mono (by have := HBW.out.size; simp; omega))⟩
            · rw [hft] at HFI
              have HS := Lib.hid (Pl.fits_of hft)
              have HFI := Lib.hid HFI
              clear hft
              go_wp2_with (go_at_call 29; refine HFI.out.mono ?_; rintro e w10 ⟨rfl, hb10⟩)
              go_roundw
              case rel =>
                refine ⟨i + 1, by go_num, by omega, ?_, (HB.out.alloc hzr _).trans (hb10.mono (by simp; omega))⟩
                intro j u' hj hu'
                by_cases e : j = i
                · subst e; rw [HU.out] at hu'; cases hu'; exact HS.out
                · exact HALL2.out j u' (by omega) hu'
              case measure => simp [RowKit.intOf]; omega
          · have hltI : (c.units.length : Int) ≤ (i : Int) := by omega
            have HR := Lib.hid (show Pl.check c = 0 from Pl.check_ok.2 ⟨HF.out, HST.out, fun u hu => by
              obtain ⟨j, hj⟩ := List.mem_iff_getElem?.1 hu
              exact HALL2.out j u (by have := (List.getElem?_eq_some_iff.1 hj).1; omega) hj⟩)
            go_wp2_with fail
            go_ret
            exact ⟨by rw [HR.out]; rfl, hbw⟩
end Go.Proofs.YtoklnpoacckbfaaGreatDoor
namespace Go.Proofs.YtoklnpoacckbfaaGreatDoor
open Go Go.RowKit
theorem check_any {B : Nat} {c : Pl.Cod} {L U : Value} (w : World) (h : CodAt B w c L U) (he : ErrAt w) (hEB : 9 < B) (hbig : Pl.litsBig c.lits ≤ 262144) :
    Calls Tryz.prog 11 #[codV c L U] w fun e w' => e = .returned (.int .i64 (Pl.check c : Nat)) ∧ Below w.heap.size w w' :=
  check_of (fun w y hf hok V hV hB => fits_any w y hf hok V hV hB) w h he hEB hbig
theorem rcheck_any {B : Nat} {c : Pl.Cod} {L U : Value} (w : World) (h : CodAt B w c L U) (hbig : Pl.litsBig c.lits ≤ 262144) :
    Calls Tryz.prog 13 #[codV c L U] w fun e w' => e = .returned (.int .i64 (Pl.check c : Nat)) ∧ Below w.heap.size w w' :=
  rcheck_of (fun w y hf hok V hV hB => rfits_any w y hf hok V hV hB) w h hbig
end Go.Proofs.YtoklnpoacckbfaaGreatDoor
