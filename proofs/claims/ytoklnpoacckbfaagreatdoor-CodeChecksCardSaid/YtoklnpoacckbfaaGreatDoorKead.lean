/- CodeChecks: the walk (given awake). (Not built yet.) -/
import Derived.Test.YtoklnpoacckbfaaGreatDoorKabq
import Derived.Test.YtoklnpoacckbfaaGreatDoorKeac
namespace Go.Proofs.YtoklnpoacckbfaaGreatDoor
open Go Go.RowKit
set_option maxRecDepth 100000 in
set_option maxHeartbeats 8000000 in
theorem checks_of (HA : AwakeC) {c : Pl.Cod} {L U : Value} (w : World) (h : CodAt w.heap.size w c L U) (he : ErrAt w) :
    Calls Tryz.prog 3 #[codV c L U] w fun e w' => e = .returned (.bool true) ∧ Below w.heap.size w w' := by
  have HH := Lib.hid h
  have HE := Lib.hid he
  have HAW := Lib.hid HA
  have HW := Lib.hid (fun (W : World) (hb : Below w.heap.size w W) => show CodAt W.heap.size W c L U ∧ ErrAt W from ⟨h.wide' hb, he.keep hb he.1⟩)
  have FAR := Lib.hid (fun (W : World) (hb : Below w.heap.size w W) => far_any W (h.wide' hb))
  obtain ⟨Al, capl, Vl, rfl, _⟩ := h.l.out
  obtain ⟨Au, capu, Vu, rfl, _⟩ := h.u
  have RK := Lib.hid (fun (W : World) (hb : Below w.heap.size w W) (hbig : Pl.litsBig c.lits ≤ 262144) => rcheck_any W (HW.out W hb).1 hbig)
  have CP := Lib.hid (fun (W : World) (hb : Below w.heap.size w W) (hbig : Pl.litsBig c.lits ≤ 262144) (hu : c.units.length ≤ 262144) (hi : ∀ u ∈ c.units, u.code.length ≤ 262144) => copyCode_any W (HW.out W hb).1 (by omega) (by omega) (fun u hu => by have := hi u hu; omega))
  unfold codV at FAR RK CP ⊢
  clear h he HA
  go_enter Tryz.func3, Tryz.ntmps3
  go_wp2_with fail
  have HB1 := Lib.hid (show Below w.heap.size w (w.alloc (.cells #[.string c.sel, .int .i64 c.prim, .slice Al c.lits.length capl, .slice Au c.units.length capu] 25)) from (Below.refl _ _).alloc (Nat.le_refl _) _)
  have HC1 := Lib.hid (heap_alloc_new w (.cells #[.string c.sel, .int .i64 c.prim, .slice Al c.lits.length capl, .slice Au c.units.length capu] 25))
  have hz1 : w.heap.size < (w.alloc (.cells #[.string c.sel, .int .i64 c.prim, .slice Al c.lits.length capl, .slice Au c.units.length capu] 25)).heap.size := by simp
  generalize w.alloc (.cells #[.string c.sel, .int .i64 c.prim, .slice Al c.lits.length capl, .slice Au c.units.length capu] 25) = w1 at HB1 HC1 hz1 ⊢
  have HK := Lib.hid (fun (W : World) (hb : Below w1.heap.size w1 W) => show W.cell? ⟨w.heap.size, 0, none⟩ = some (.string c.sel) ∧ W.cell? ⟨w.heap.size, 1, none⟩ = some (.int .i64 c.prim) ∧ W.cell? ⟨w.heap.size, 2, none⟩ = some (.slice Al c.lits.length capl) ∧ W.cell? ⟨w.heap.size, 3, none⟩ = some (.slice Au c.units.length capu) ∧ w.heap.size < W.heap.size ∧ Below w.heap.size w W from
    ⟨Lib.cell_of_heap ((hb.block _ hz1).trans HC1.out) 0, Lib.cell_of_heap ((hb.block _ hz1).trans HC1.out) 1, Lib.cell_of_heap ((hb.block _ hz1).trans HC1.out) 2, Lib.cell_of_heap ((hb.block _ hz1).trans HC1.out) 3, Nat.lt_of_lt_of_le hz1 hb.size, HB1.out.trans (hb.mono HB1.out.size)⟩)
  refine (HAW.out w1 (HW.out w1 HB1.out).2).mono ?_
  rintro e w2 ⟨rfl, hb2⟩
  have HB2 := Lib.hid hb2
  obtain ⟨d0, d1, d2, d3, hl, hbw⟩ := HK.out _ hb2
  have FR := Lib.hid (FAR.out w2 hbw)
  clear hb2 hbw
  go_wp2_with fail
  refine FR.out.mono ?_
  rintro e w3 ⟨⟨t, rfl, ht⟩, hb3⟩
  have HB3 := Lib.hid (HB2.out.trans (hb3.mono HB2.out.size))
  clear hb3 d0 d1 d2 d3 hl FR
  obtain ⟨d0, d1, d2, d3, hl, hbw⟩ := HK.out _ HB3.out
  have HBW := Lib.hid hbw
  cases t
  rotate_left 1
  · clear ht hbw
    go_wp2_with fail
    go_ret
    exact ⟨rfl, HBW.out⟩
  have hbig : Pl.litsBig c.lits ≤ 262144 := by have := ht rfl; unfold Pl.codBig at this; omega
  have hub : c.units.length ≤ 262144 := by have := ht rfl; unfold Pl.codBig at this; omega
  have hib : ∀ u ∈ c.units, u.code.length ≤ 262144 := by
    have h1 := ht rfl
    unfold Pl.codBig at h1
    have h2 : ∀ (l : List Pl.Unt) (u : Pl.Unt), u ∈ l → u.code.length ≤ Pl.untsBig l := by
      intro l
      induction l with
      | nil => intro u hu; cases hu
      | cons x r ih =>
        intro u hu
        simp only [Pl.untsBig]
        rcases List.mem_cons.1 hu with rfl | hu
        · omega
        · have := ih u hu; omega
    intro u hu
    have := h2 c.units u hu
    omega
  have C3 := Lib.hid (CP.out w3 hbw hbig hub hib)
  clear ht hbw hub hib
  go_wp2_with fail
  refine C3.out.mono ?_
  rintro e w4 ⟨L', U', rfl, h4, hb4⟩
  obtain ⟨A1, k1, _, rfl, _⟩ := h4.l.out
  obtain ⟨A2, k2, _, rfl, _⟩ := h4.u
  have HB4 := Lib.hid (HB3.out.trans (hb4.mono HB3.out.size))
  have H4 := Lib.hid h4
  clear hb4 d0 d1 d2 d3 hl h4 C3
  go_upto_region 6 with (fail)
  have HD := Lib.hid (heap_alloc_new w4 (.cells #[.string c.sel, .int .i64 c.prim, .slice A1 c.lits.length k1, .slice A2 c.units.length k2] 25))
  have HB8 := Lib.hid (HB4.out.alloc HB4.out.size (.cells #[.string c.sel, .int .i64 c.prim, .slice A1 c.lits.length k1, .slice A2 c.units.length k2] 25))
  have H8 := Lib.hid (H4.out.wide' ((Below.refl _ _).alloc (Nat.le_refl _) (.cells #[.string c.sel, .int .i64 c.prim, .slice A1 c.lits.length k1, .slice A2 c.units.length k2] 25)))
  have hz8 : w4.heap.size < (w4.alloc (.cells #[.string c.sel, .int .i64 c.prim, .slice A1 c.lits.length k1, .slice A2 c.units.length k2] 25)).heap.size := by simp
  generalize w4.alloc (.cells #[.string c.sel, .int .i64 c.prim, .slice A1 c.lits.length k1, .slice A2 c.units.length k2] 25) = w8 at HD HB8 H8 hz8 ⊢
  have HY := Lib.hid (fun (W : World) (hb : Below w8.heap.size w8 W) => show W.cell? ⟨w4.heap.size, 0, none⟩ = some (.string c.sel) ∧ W.cell? ⟨w4.heap.size, 1, none⟩ = some (.int .i64 c.prim) ∧ W.cell? ⟨w4.heap.size, 2, none⟩ = some (.slice A1 c.lits.length k1) ∧ W.cell? ⟨w4.heap.size, 3, none⟩ = some (.slice A2 c.units.length k2) ∧ w4.heap.size < W.heap.size from
    ⟨Lib.cell_of_heap ((hb.block _ hz8).trans HD.out) 0, Lib.cell_of_heap ((hb.block _ hz8).trans HD.out) 1, Lib.cell_of_heap ((hb.block _ hz8).trans HD.out) 2, Lib.cell_of_heap ((hb.block _ hz8).trans HD.out) 3, Nat.lt_of_lt_of_le hz8 hb.size⟩)
  obtain ⟨y0, y1, y2, y3, yl⟩ := HY.out _ (Below.refl _ _)
  obtain ⟨_, _, _, _, _, hbw⟩ := HK.out _ HB8.out
  have hew := (HW.out w8 hbw).2
  have C8 := Lib.hid (check_any w8 H8.out hew hew.1 hbig)
  unfold codV at C8
  clear hbw hew
  go_wp2_with fail
  refine C8.out.mono ?_
  rintro e w9 ⟨rfl, hb9⟩
  have HB9 := Lib.hid hb9
  have HB9w := Lib.hid (HB8.out.trans (hb9.mono HB8.out.size))
  clear y0 y1 y2 y3 yl hb9 C8
  obtain ⟨y0, y1, y2, y3, yl⟩ := HY.out _ HB9.out
  obtain ⟨d0, d1, d2, d3, hl, hbw⟩ := HK.out _ HB9w.out
  have SC := Lib.hid (sameCode_any w9 (H8.out.wide' HB9.out) (HW.out w9 hbw).1)
  rw [show Pl.same c c = true from Pl.same_true rfl] at SC
  unfold codV at SC
  clear hbw
  go_wp2_with fail
  refine SC.out.mono ?_
  rintro e w10 ⟨rfl, hb10⟩
  have HB10 := Lib.hid (HB9w.out.trans (hb10.mono HB9w.out.size))
  clear hb10 y0 y1 y2 y3 yl d0 d1 d2 d3 hl
  obtain ⟨d0, d1, d2, d3, hl, hbw⟩ := HK.out _ HB10.out
  have R10 := Lib.hid (RK.out w10 hbw hbig)
  have HBX := Lib.hid hbw
  clear hbw
  go_wp2_with fail
  refine R10.out.mono ?_
  rintro e w11 ⟨rfl, hb11⟩
  have HBZ := Lib.hid (HBX.out.trans (hb11.mono HBX.out.size))
  clear hb11 d0 d1 d2 d3 hl
  go_wp2_with fail
  go_ret
  exact ⟨rfl, HBZ.out⟩
end Go.Proofs.YtoklnpoacckbfaaGreatDoor
