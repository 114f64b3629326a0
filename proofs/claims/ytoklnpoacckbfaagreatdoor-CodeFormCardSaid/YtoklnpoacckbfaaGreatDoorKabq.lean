/- CodeBack, CodeForm: the walks. CodeForm: the walk (given awake). Plain: the sample and its like: which may be run. The sample as it lies in memory; far. -/
import Derived.Test.YtoklnpoacckbfaaGreatDoorKabk
import Derived.Test.YtoklnpoacckbfaaGreatDoorKabp
import Derived.Test.YtoklnpoacckbfaaGreatDoorKaaj
import Derived.Test.YtoklnpoacckbfaaGreatDoorKabo
import Derived.Test.YtoklnpoacckbfaaGreatDoorKaah
import Derived.Test.YtoklnpoacckbfaaGreatDoorKabl
import Derived.Test.YtoklnpoacckbfaaGreatDoorKaai
namespace Go.Proofs.YtoklnpoacckbfaaGreatDoor
open Go Go.RowKit
/-- what awake does -/
def AwakeC : Prop := ∀ w : World, ErrAt w → Calls Tryz.prog 8 #[] w fun e w' => e = .returned (.bool true) ∧ Below w.heap.size w w'
theorem CodAt.wide' {B : Nat} {w w' : World} {c : Pl.Cod} {L U : Value} (h : CodAt B w c L U) (hb : Below B w w') : CodAt w'.heap.size w' c L U :=
  have k := h.keep hb
  ⟨k.l.up k.b, k.u.up k.b, k.s, k.p0, k.p1, Nat.le_refl _⟩
theorem heap_lt' {w : World} {b : Nat} {o : Obj} (h : w.heap[b]? = some o) : b < w.heap.size := by
  rcases Nat.lt_or_ge b w.heap.size with h' | h'
  · exact h'
  · simp [Array.getElem?_eq_none h'] at h
set_option maxRecDepth 100000 in
set_option maxHeartbeats 8000000 in
theorem back_of (HA : AwakeC) {c : Pl.Cod} {L U : Value} (w : World) (h : CodAt w.heap.size w c L U) (he : ErrAt w) :
    Calls Tryz.prog 6 #[codV c L U] w fun e w' => e = .returned (.bool true) ∧ Below w.heap.size w w' := by
  have HH := Lib.hid h
  have HE := Lib.hid he
  have HAW := Lib.hid HA
  have HW := Lib.hid (fun (W : World) (hb : Below w.heap.size w W) => show CodAt W.heap.size W c L U ∧ ErrAt W from ⟨h.wide' hb, he.keep hb he.1⟩)
  have FAR := Lib.hid (fun (W : World) (hb : Below w.heap.size w W) => far_any W (h.wide' hb))
  obtain ⟨Al, capl, Vl, rfl, _⟩ := h.l.out
  obtain ⟨Au, capu, Vu, rfl, _⟩ := h.u
  have CK := Lib.hid (fun (W : World) (hb : Below w.heap.size w W) (hbig : Pl.litsBig c.lits ≤ 262144) => check_any W (HW.out W hb).1 (HW.out W hb).2 (HW.out W hb).2.1 hbig)
  have RK := Lib.hid (fun (W : World) (hb : Below w.heap.size w W) (hbig : Pl.litsBig c.lits ≤ 262144) => rcheck_any W (HW.out W hb).1 hbig)
  have PK := Lib.hid (fun (W : World) (hb : Below w.heap.size w W) (hbig : Pl.litsBig c.lits ≤ 262144) => pack_any W (HW.out W hb).1 (HW.out W hb).2 (HW.out W hb).2.1 hbig)
  unfold codV at FAR CK RK PK ⊢
  clear h he HA
  go_enter Tryz.func6, Tryz.ntmps6
  go_wp2_with fail
  have HB1 := Lib.hid (show Below w.heap.size w (w.alloc (.cells #[.string c.sel, .int .i64 c.prim, .slice Al c.lits.length capl, .slice Au c.units.length capu] 25)) from (Below.refl _ _).alloc (Nat.le_refl _) _)
  have HC1 := Lib.hid (heap_alloc_new w (.cells #[.string c.sel, .int .i64 c.prim, .slice Al c.lits.length capl, .slice Au c.units.length capu] 25))
  have hz1 : w.heap.size < (w.alloc (.cells #[.string c.sel, .int .i64 c.prim, .slice Al c.lits.length capl, .slice Au c.units.length capu] 25)).heap.size := by simp
  generalize w.alloc (.cells #[.string c.sel, .int .i64 c.prim, .slice Al c.lits.length capl, .slice Au c.units.length capu] 25) = w1 at HB1 HC1 hz1 ⊢
  have HK := Lib.hid (fun (W : World) (hb : Below w1.heap.size w1 W) => show W.cell? ⟨w.heap.size, 0, none⟩ = some (.string c.sel) ∧ W.cell? ⟨w.heap.size, 1, none⟩ = some (.int .i64 c.prim) ∧ W.cell? ⟨w.heap.size, 2, none⟩ = some (.slice Al c.lits.length capl) ∧ W.cell? ⟨w.heap.size, 3, none⟩ = some (.slice Au c.units.length capu) ∧ w.heap.size < W.heap.size ∧ Below w.heap.size w W from
    ⟨Lib.cell_of_heap ((hb.block _ hz1).trans HC1.out) 0, Lib.cell_of_heap ((hb.block _ hz1).trans HC1.out) 1, Lib.cell_of_heap ((hb.block _ hz1).trans HC1.out) 2, Lib.cell_of_heap ((hb.block _ hz1).trans HC1.out) 3, Nat.lt_of_lt_of_le hz1 hb.size, HB1.out.trans (hb.mono HB1.out.size)⟩)
  refine (HAW.out w1 (HW.out w1 HB1.out).2).mono ?_
  rintro e w2 ⟨rfl, hb2⟩
  have HB2 := Lib.hid hb2
  obtain ⟨d0, d1, d2, d3, hl, hbw⟩ := HK.out _ hb2
  have FR := Lib.hid (FAR.out w2 hbw)
  clear hb2 hbw
  go_wp2_with fail
  refine FR.out.mono ?_
  rintro e w3 ⟨⟨t, rfl, ht⟩, hb3⟩
  have HB3 := Lib.hid (HB2.out.trans (hb3.mono HB2.out.size))
  clear hb3 d0 d1 d2 d3 hl FR
  obtain ⟨d0, d1, d2, d3, hl, hbw⟩ := HK.out _ HB3.out
  have HBW := Lib.hid hbw
  cases t
  rotate_left 1
  · clear ht hbw
    go_wp2_with fail
    go_ret
    exact ⟨rfl, HBW.out⟩
  have hbig : Pl.litsBig c.lits ≤ 262144 := by have := ht rfl; unfold Pl.codBig at this; omega
  have C3 := Lib.hid (CK.out w3 hbw hbig)
  clear ht hbw
  go_wp2_with fail
  refine C3.out.mono ?_
  rintro e w4 ⟨rfl, hb4⟩
  have HB4 := Lib.hid (HB3.out.trans (hb4.mono HB3.out.size))
  clear hb4 d0 d1 d2 d3 hl C3
  obtain ⟨d0, d1, d2, d3, hl, hbw⟩ := HK.out _ HB4.out
  have P4 := Lib.hid (PK.out w4 hbw hbig)
  clear hbw
  go_wp2_with fail
  refine P4.out.mono ?_
  rintro e w5 ⟨rfl, hb5⟩
  have HB5 := Lib.hid (HB4.out.trans (hb5.mono HB4.out.size))
  clear hb5 d0 d1 d2 d3 hl P4
  obtain ⟨d0, d1, d2, d3, hl, hbw⟩ := HK.out _ HB5.out
  have R5 := Lib.hid (RK.out w5 hbw hbig)
  clear hbw
  go_wp2_with fail
  refine R5.out.mono ?_
  rintro e w6 ⟨rfl, hb6⟩
  have HB6 := Lib.hid (HB5.out.trans (hb6.mono HB5.out.size))
  clear hb6 d0 d1 d2 d3 hl R5
  obtain ⟨d0, d1, d2, d3, hl, hbw⟩ := HK.out _ HB6.out
  have hcw := (HW.out w6 hbw).1
  have hew := (HW.out w6 hbw).2
  have hps : (packS c).size ≤ 140737488355328 := by
    unfold packS
    split
    · rename_i hck
      rw [Pl.bs_size, ← Pl.encTo_all]
      have hf := (Pl.check_ok.1 hck).1
      have := Pl.encTo_len (c := c) (fun u hu => (Pl.untOk_of hf (Pl.check_ok.1 hck).2.1 u hu).n) c.units.length
      have := hf.nu.2
      omega
    · exact Nat.zero_le _
  have U6 := Lib.hid (unpack_any (w := w6) (b := packS c) hcw.l (Nat.le_refl _) hcw.s hps hew hew.1 hbig)
  clear hbw hcw hew hps
  by_cases hck : Pl.check c = 0
  · have HUP := Lib.hid (Pl.unpack_pack hck)
    rw [hck]
    go_wp2_with fail
    refine U6.out.mono ?_
    rintro e w7 ⟨⟨c', L', U', h1, rfl, _, h4⟩ | ⟨h1, _⟩, hb7⟩
    rotate_left 1
    · rw [HUP.out] at h1; cases h1
    rw [HUP.out] at h1
    cases h1
    obtain ⟨A1, k1, _, rfl, _⟩ := h4.l.out
    obtain ⟨A2, k2, _, rfl, _⟩ := h4.u
    have HB7 := Lib.hid (HB6.out.trans (hb7.mono HB6.out.size))
    have H4 := Lib.hid h4
    unfold codV
    clear hb7 d0 d1 d2 d3 hl h4
    go_upto_region 12 with (fail)
    have HD := Lib.hid (heap_alloc_new w7 (.cells #[.string c.sel, .int .i64 c.prim, .slice A1 c.lits.length k1, .slice A2 c.units.length k2] 25))
    have HB8 := Lib.hid (HB7.out.alloc HB7.out.size (.cells #[.string c.sel, .int .i64 c.prim, .slice A1 c.lits.length k1, .slice A2 c.units.length k2] 25))
    have H8 := Lib.hid (H4.out.wide' ((Below.refl _ _).alloc (Nat.le_refl _) (.cells #[.string c.sel, .int .i64 c.prim, .slice A1 c.lits.length k1, .slice A2 c.units.length k2] 25)))
    generalize w7.alloc (.cells #[.string c.sel, .int .i64 c.prim, .slice A1 c.lits.length k1, .slice A2 c.units.length k2] 25) = w8 at HD HB8 H8 ⊢
    obtain ⟨d0, d1, d2, d3, hl, hbw⟩ := HK.out _ HB8.out
    have y0 : w8.cell? ⟨w7.heap.size, 0, none⟩ = some (.string c.sel) := Lib.cell_of_heap HD.out 0
    have y1 : w8.cell? ⟨w7.heap.size, 1, none⟩ = some (.int .i64 c.prim) := Lib.cell_of_heap HD.out 1
    have y2 : w8.cell? ⟨w7.heap.size, 2, none⟩ = some (.slice A1 c.lits.length k1) := Lib.cell_of_heap HD.out 2
    have y3 : w8.cell? ⟨w7.heap.size, 3, none⟩ = some (.slice A2 c.units.length k2) := Lib.cell_of_heap HD.out 3
    have yl := heap_lt' HD.out
    have SC := Lib.hid (sameCode_any w8 H8.out (HW.out w8 hbw).1)
    have HBX := Lib.hid hbw
    rw [show Pl.same c c = true from Pl.same_true rfl] at SC
    unfold codV at SC
    clear hbw
    go_wp2_with fail
    refine SC.out.mono ?_
    rintro e w9 ⟨rfl, hb9⟩
    have HBY := Lib.hid (HBX.out.trans (hb9.mono HBX.out.size))
    clear hb9 d0 d1 d2 d3 y0 y1 y2 y3
    go_wp2_with fail
    go_ret
    exact ⟨rfl, HBY.out⟩
  · have HUN := Lib.hid (Pl.unpack_none hck)
    have hps : packS c = ⟨#[]⟩ := by unfold packS; rw [if_neg hck]
    have hck' : ((Pl.check c : Nat) : Int) ≠ 0 := by omega
    rw [hps] at U6 ⊢
    rw [hps] at HUN
    generalize Pl.check c = ec at hck' ⊢
    clear hck hps
    go_wp2_with fail
    refine U6.out.mono ?_
    rintro e w7 ⟨⟨c', L', U', h1, _⟩ | ⟨h1, rfl⟩, hb7⟩
    · rw [HUN.out] at h1; cases h1
    have HB7 := Lib.hid ((HK.out _ (HB6.out.trans (hb7.mono HB6.out.size))).2.2.2.2.2.alloc (Nat.le_trans (Nat.le_of_lt hl) hb7.size) (.cells #[.string ⟨#[]⟩, .int .i64 0, .slice none 0 0, .slice none 0 0] 25))
    clear hb7 d0 d1 d2 d3
    go_wp2_with fail
    go_ret
    exact ⟨rfl, HB7.out⟩
end Go.Proofs.YtoklnpoacckbfaaGreatDoor
namespace Go.Proofs.YtoklnpoacckbfaaGreatDoor
open Go Go.RowKit
set_option maxRecDepth 100000 in
set_option maxHeartbeats 8000000 in
theorem form_of (HA : AwakeC) {sel b : ByteArray} {lits : List Pl.Lit} {L : Value} (w : World) (hL : LitsAt w.heap.size w lits L) (hsel : sel.size ≤ 140737488355328) (hb : b.size ≤ 140737488355328) (he : ErrAt w) :
    Calls Tryz.prog 7 #[.string sel, L, .string b] w fun e w' => e = .returned (.bool true) ∧ Below w.heap.size w w' := by
  have HL := Lib.hid hL
  have HE := Lib.hid he
  have HAW := Lib.hid HA
  have FAR := Lib.hid (fun (W : World) (hb : Below w.heap.size w W) => far_any (c := ⟨sel, 0, lits, []⟩) (U := .slice none 0 0) W
    ⟨(hL.keep hb).up hb.size, ⟨none, 0, fun _ => .nilFunc, rfl, by simp, ⟨by simp, by unfold maxLen; omega, by simp, by simp, by simp, by simp, by simp⟩, by simp, by simp⟩, hsel, (show (-9223372036854775808 : Int) ≤ 0 by omega), (show (0 : Int) ≤ 9223372036854775807 by omega), Nat.le_refl _⟩)
  obtain ⟨Al, capl, Vl, rfl, _⟩ := hL.out
  unfold codV at FAR
  clear hL he HA
  go_enter Tryz.func7, Tryz.ntmps7
  go_wp2_with fail
  refine (HAW.out w HE.out).mono ?_
  rintro e w2 ⟨rfl, hb2⟩
  have HB2 := Lib.hid hb2
  have FR := Lib.hid (FAR.out w2 hb2)
  clear hb2
  go_wp2_with fail
  refine FR.out.mono ?_
  rintro e w3 ⟨⟨t, rfl, ht⟩, hb3⟩
  have HB3 := Lib.hid (HB2.out.trans (hb3.mono HB2.out.size))
  clear hb3 FR
  cases t
  rotate_left 1
  · clear ht
    go_wp2_with fail
    go_ret
    exact ⟨rfl, HB3.out⟩
  have hbig : Pl.litsBig lits ≤ 262144 := by have := ht rfl; unfold Pl.codBig at this; simp only at this; omega
  clear ht
  by_cases hbl : 262144 < b.size
  · have hbI : (262144 : Int) < (b.size : Int) := by omega
    go_wp2_with fail
    go_ret
    exact ⟨rfl, HB3.out⟩
  have hbI : (b.size : Int) ≤ 262144 := by omega
  have U3 := Lib.hid (unpack_any (w := w3) (sel := sel) (b := b) ((HL.out.keep HB3.out).up HB3.out.size) (Nat.le_refl _) hsel hb (HE.out.keep HB3.out HE.out.1) (HE.out.keep HB3.out HE.out.1).1 hbig)
  go_wp2_with fail
  refine U3.out.mono ?_
  rintro e w4 ⟨⟨⟨cs, cp, cl, cu⟩, L', U', h1, rfl, _, h4⟩ | ⟨h1, rfl⟩, hb4⟩
  · obtain ⟨e1, e2, hck, hps⟩ := Pl.unpack_some h1
    have e1' : sel = cs := e1.symm
    have e2' : lits = cl := e2.symm
    subst e1'
    subst e2'
    clear e1 e2
    have HB4 := Lib.hid (HB3.out.trans (hb4.mono HB3.out.size))
    obtain ⟨A1, k1, _, rfl, _⟩ := h4.l.out
    obtain ⟨A2, k2, _, rfl, _⟩ := h4.u
    have H4 := Lib.hid h4
    have HCK := Lib.hid hck
    have HPS := Lib.hid hps
    unfold codV
    dsimp only
    clear hb4 h4 h1 hck hps U3
    go_upto_region 8 with (fail)
    have HD := Lib.hid (heap_alloc_new w4 (.cells #[.string sel, .int .i64 cp, .slice A1 lits.length k1, .slice A2 cu.length k2] 25))
    have HB8 := Lib.hid (HB4.out.alloc HB4.out.size (.cells #[.string sel, .int .i64 cp, .slice A1 lits.length k1, .slice A2 cu.length k2] 25))
    have H8 := Lib.hid (H4.out.wide' ((Below.refl _ _).alloc (Nat.le_refl _) (.cells #[.string sel, .int .i64 cp, .slice A1 lits.length k1, .slice A2 cu.length k2] 25)))
    have hz8 : w4.heap.size < (w4.alloc (.cells #[.string sel, .int .i64 cp, .slice A1 lits.length k1, .slice A2 cu.length k2] 25)).heap.size := by simp
    generalize w4.alloc (.cells #[.string sel, .int .i64 cp, .slice A1 lits.length k1, .slice A2 cu.length k2] 25) = w8 at HD HB8 H8 hz8 ⊢
    have HEk := Lib.hid (fun (W : World) (hb : Below w8.heap.size w8 W) => HE.out.keep (HB8.out.trans (hb.mono HB8.out.size)) HE.out.1)
    have HK := Lib.hid (fun (W : World) (hb : Below w8.heap.size w8 W) => show W.cell? ⟨w4.heap.size, 0, none⟩ = some (.string sel) ∧ W.cell? ⟨w4.heap.size, 1, none⟩ = some (.int .i64 cp) ∧ W.cell? ⟨w4.heap.size, 2, none⟩ = some (.slice A1 lits.length k1) ∧ W.cell? ⟨w4.heap.size, 3, none⟩ = some (.slice A2 cu.length k2) ∧ w4.heap.size < W.heap.size from
      ⟨Lib.cell_of_heap ((hb.block _ hz8).trans HD.out) 0, Lib.cell_of_heap ((hb.block _ hz8).trans HD.out) 1, Lib.cell_of_heap ((hb.block _ hz8).trans HD.out) 2, Lib.cell_of_heap ((hb.block _ hz8).trans HD.out) 3, Nat.lt_of_lt_of_le hz8 hb.size⟩)
    have PK := Lib.hid (pack_any w8 H8.out (HEk.out _ (Below.refl _ _)) (HEk.out _ (Below.refl _ _)).1 hbig)
    have RK := Lib.hid (fun (W : World) (hb : Below w8.heap.size w8 W) => rcheck_any W (H8.out.keep hb) hbig)
    unfold codV at PK RK
    rw [HCK.out, HPS.out] at PK
    rw [HCK.out] at RK
    dsimp only at PK RK
    obtain ⟨d0, d1, d2, d3, hl⟩ := HK.out _ (Below.refl _ _)
    go_wp2_with fail
    refine PK.out.mono ?_
    rintro e w9 ⟨rfl, hb9⟩
    have HB9 := Lib.hid hb9
    have R9 := Lib.hid (RK.out w9 hb9)
    clear d0 d1 d2 d3 hl
    obtain ⟨d0, d1, d2, d3, hl⟩ := HK.out _ hb9
    clear hb9
    go_wp2_with fail
    refine R9.out.mono ?_
    rintro e w10 ⟨rfl, hb10⟩
    have HBZ := Lib.hid (HB8.out.trans ((HB9.out.trans (hb10.mono HB9.out.size)).mono HB8.out.size))
    clear hb10 d0 d1 d2 d3 hl
    go_wp2_with fail
    go_ret
    exact ⟨rfl, HBZ.out⟩
  · have HB4 := Lib.hid (HB3.out.trans (hb4.mono HB3.out.size))
    have HB5 := Lib.hid (HB4.out.alloc HB4.out.size (.cells #[.string ⟨#[]⟩, .int .i64 0, .slice none 0 0, .slice none 0 0] 25))
    clear hb4 h1 U3
    go_wp2_with fail
    go_ret
    exact ⟨rfl, HB5.out⟩
end Go.Proofs.YtoklnpoacckbfaaGreatDoor
namespace Go.Proofs.YtoklnpoacckbfaaGreatDoor
open Go Go.RowKit Go.Lib
namespace Pl
def sLits : List Lit := [.mk 4 1 0 ⟨#[]⟩ [], .mk 9 0 0 ⟨#[43]⟩ []]
def sIns (z : Nat) : List Ins := [⟨6, 0, 0⟩, ⟨5, 0, 0⟩, ⟨16, 1, 1⟩, ⟨z, 0, 0⟩]
def sUnt (st : Int) (z : Nat) : Unt := ⟨1, 0, 0, st, sIns z⟩
def smp (st : Int) (z : Nat) : Cod := ⟨⟨#[102, 111, 111, 58]⟩, 0, sLits, [sUnt st z]⟩
theorem arity_foo : arity [102, 111, 111, 58] = 1 := by decide
theorem arity_plus : arity [43] = 1 := by decide
theorem smp_formed (st : Int) (z : Nat) (h : in_ st 0 250) : Formed (smp st z) := by
  refine ⟨?_, ?_, ?_, ?_, ?_, ?_, ?_⟩
  · show 0 ≤ arity [102, 111, 111, 58]; rw [arity_foo]; omega
  · unfold in_ smp; simp
  · simp [smp, sLits]
  · simp [smp]
  · intro x hx
    simp [smp, sLits] at hx
    rcases hx with rfl | rfl <;> decide
  · intro u hu
    simp [smp] at hu
    subst hu
    exact ⟨by simp [sUnt, in_], by simp [sUnt, in_], by simp [sUnt, in_], by simp [sUnt], h, by simp [sUnt, sIns]⟩
  · intro u hu
    simp [smp] at hu
    subst hu
    exact ⟨arity_foo.symm, rfl⟩
theorem smp_ins (st : Int) (z i : Nat) (u : Unt) (hu : (smp st z).units[i]? = some u) : i = 0 ∧ u = sUnt st z := by
  cases i with
  | zero => simp [smp] at hu; exact ⟨rfl, hu.symm⟩
  | succ i => simp [smp] at hu
theorem smp_stand (st : Int) : AllStand (smp st 21) := by
  intro i u hu x hx
  obtain ⟨rfl, rfl⟩ := smp_ins st 21 i u hu
  simp [sUnt, sIns] at hx
  rcases hx with rfl | rfl | rfl | rfl
  · simp [Stands, bytesA, two, in_, unt, smp, sUnt]
  · simp [Stands, bytesA, two, in_, smp, sUnt, sLits]
  · simp [Stands, bytesA, two, in_, smp, sUnt, sLits, symbol, Lit.kind, Lit.text]
    decide
  · simp [Stands, bytesA, two]
theorem smp_last (st : Int) : ¬ AllStand (smp st 22) := by
  intro h
  have := h 0 (sUnt st 22) rfl ⟨22, 0, 0⟩ (by simp [sUnt, sIns])
  simp [Stands, bytesA, two] at this
theorem smp_fit : AllFit (smp 2 21) := by
  intro u hu
  simp [smp] at hu
  subst hu
  refine ⟨fun p => if p = 0 then some 0 else if p = 1 then some 1 else if p = 2 then some 2 else if p = 3 then some 1 else none, rfl, ?_⟩
  intro p h hp hh
  have hp4 : p = 0 ∨ p = 1 ∨ p = 2 ∨ p = 3 := by simp [sUnt, sIns] at hp; omega
  rcases hp4 with rfl | rfl | rfl | rfl <;> simp at hh <;> subst hh
  · refine ⟨by decide, by decide, by decide, ?_⟩
    rintro k (⟨_, rfl⟩ | ⟨hj, _⟩)
    · exact ⟨by decide, by decide, by decide⟩
    · exact absurd hj (by unfold Jumps; decide)
  · refine ⟨by decide, by decide, by decide, ?_⟩
    rintro k (⟨_, rfl⟩ | ⟨hj, _⟩)
    · exact ⟨by decide, by decide, by decide⟩
    · exact absurd hj (by unfold Jumps; decide)
  · refine ⟨by decide, by decide, by decide, ?_⟩
    rintro k (⟨_, rfl⟩ | ⟨hj, _⟩)
    · exact ⟨by decide, by decide, by decide⟩
    · exact absurd hj (by unfold Jumps; decide)
  · refine ⟨by decide, by decide, by decide, ?_⟩
    rintro k (⟨hg, _⟩ | ⟨hj, _⟩)
    · exact absurd hg (by unfold GoesOn; decide)
    · exact absurd hj (by unfold Jumps; decide)
theorem smp_low : ¬ AllFit (smp 1 21) := by
  intro h
  obtain ⟨H, h0, hg⟩ := h (sUnt 1 21) (by simp [smp])
  obtain ⟨_, _, _, h1⟩ := hg 0 0 (by decide) h0
  obtain ⟨_, _, e1⟩ := h1 1 (.inl ⟨by unfold GoesOn; decide, rfl⟩)
  have e1' : H 1 = some 1 := e1
  obtain ⟨_, _, h3, _⟩ := hg 1 1 (by decide) e1'
  exact absurd h3 (by decide)
theorem check_smp : check (smp 2 21) = 0 := check_ok.2 ⟨smp_formed 2 21 (by decide), smp_stand 2, smp_fit⟩
theorem check_low : check (smp 1 21) = 202 := by
  unfold check
  rw [if_neg (not_not_intro (smp_formed 1 21 (by decide))), if_neg (not_not_intro (smp_stand 1)), if_pos smp_low]
theorem check_last : check (smp 2 22) = 201 := by
  unfold check
  rw [if_neg (not_not_intro (smp_formed 2 22 (by decide))), if_pos (smp_last 2)]
theorem smp_bytes : enc 0 [sUnt 2 21] = [0, 1, 1, 0, 0, 2, 4, 0, 6, 0, 5, 0, 16, 1, 1, 21] := by decide
end Pl
end Go.Proofs.YtoklnpoacckbfaaGreatDoor
namespace Go.Proofs.YtoklnpoacckbfaaGreatDoor
open Go Go.RowKit
/-- a row out of a block that is known whole -/
theorem RowAt.whole {α : Type} {cs : α → Value → List Value} {size : Nat} {w : World} {A : Nat} {ps : List (α × Value)} {t : TypeId} {fz : Nat × Nat} (hcs : ∀ x v, (cs x v).length = size) (h : w.heap[A]? = some (.cells (rowOf cs ps).toArray t fz)) (hlen : ps.length ≤ 140737488355328) :
    RowAt size cs w (ps.map (·.1)) (some ⟨A, 0, none⟩) ps.length (valOf ps) := by
  have hl : A < w.heap.size := by
    rcases Nat.lt_or_ge A w.heap.size with h' | h'
    · exact h'
    · simp [Array.getElem?_eq_none h'] at h
  refine ⟨by simp, by unfold maxLen; omega, by simpa using hlen, fun _ => ⟨A, 0, rfl⟩, by simp, fun _ a ha => by cases ha; exact hl, ?_⟩
  intro b o e2 i x hx j u hu
  cases e2
  rw [List.getElem?_map] at hx
  obtain ⟨p, hp, rfl⟩ : ∃ p, ps[i]? = some p ∧ p.1 = x := by
    cases hps : ps[i]? with
    | none => rw [hps] at hx; cases hx
    | some p => rw [hps] at hx; exact ⟨p, rfl, by simpa using hx⟩
  rw [valOf_at hp] at hu
  have := rowOf_at hcs ps i p hp j u hu
  rw [World.cell?, h]
  simp only [Nat.zero_add]
  rw [List.getElem?_toArray]
  exact this
def sampleLits : List (Pl.Lit × Value) := [(.mk 4 1 0 ⟨#[]⟩ [], .slice none 0 0), (.mk 9 0 0 ⟨#[43]⟩ [], .slice none 0 0)]
def sampleIns (z : Nat) : List (Pl.Ins × Value) := (Pl.sIns z).map fun x => (x, .nilFunc)
def sampleUnts (st : Int) (z A : Nat) : List (Pl.Unt × Value) := [(Pl.sUnt st z, .slice (some ⟨A, 0, none⟩) 4 4)]
theorem lits_none (B : Nat) (w : World) : LitsAt B w [] (.slice none 0 0) :=
  LitsAt.mk none [] 0 (fun _ => .nilFunc) (by simp) ⟨by simp, by unfold maxLen; omega, by simp, by simp, by simp, by simp, by simp⟩ (by simp) (by simp)
/-- the sample lies at three blocks -/
structure SmpAt (w : World) (I T Uu : Nat) (st : Int) (z : Nat) : Prop where
  i : w.heap[I]? = some (.cells (rowOf insCells (sampleIns z)).toArray 61 (0, 0))
  l : w.heap[T]? = some (.cells (rowOf litCells sampleLits).toArray 37 (0, 0))
  u : w.heap[Uu]? = some (.cells (rowOf untCells (sampleUnts st z I)).toArray 58 (0, 0))
def smpL (T : Nat) : Value := .slice (some ⟨T, 0, none⟩) 2 2
def smpU (Uu : Nat) : Value := .slice (some ⟨Uu, 0, none⟩) 1 1
theorem SmpAt.code {w : World} {I T Uu : Nat} {st : Int} {z : Nat} (h : SmpAt w I T Uu st z) (hst : 0 ≤ st ∧ st < 100) (hz : z < 256) : CodAt w.heap.size w (Pl.smp st z) (smpL T) (smpU Uu) := by
  obtain ⟨hi, hl, hu⟩ := h
  have ri := RowAt.whole insCells_len hi (by simp [sampleIns, Pl.sIns])
  have rl := RowAt.whole litCells_len hl (by simp [sampleLits])
  have ru := RowAt.whole untCells_len hu (by simp [sampleUnts])
  have mi : (sampleIns z).map (·.1) = Pl.sIns z := rfl
  have ml : sampleLits.map (·.1) = Pl.sLits := rfl
  have mu : (sampleUnts st z I).map (·.1) = [Pl.sUnt st z] := rfl
  rw [mi] at ri
  rw [ml] at rl
  rw [mu] at ru
  have HI : InssAt w.heap.size w (Pl.sIns z) (.slice (some ⟨I, 0, none⟩) 4 4) :=
    ⟨some ⟨I, 0, none⟩, 4, rfl, fun hn a ha => ri.lt hn a ha, ⟨ri.le, ri.capL, ri.len, ri.addr, ri.nil, ri.lt, fun b o e i x hx j u hu => ri.cells b o e i x hx j u hu⟩, by
      intro x hx
      simp [Pl.sIns] at hx
      rcases hx with rfl | rfl | rfl | rfl <;> exact ⟨by first | exact hz | decide, by simp, by simp, by simp, by simp⟩⟩
  refine ⟨LitsAt.mk (some ⟨T, 0, none⟩) Pl.sLits 2 (valOf sampleLits) (fun hn a ha => rl.lt hn a ha) rl ?_ ?_, ⟨some ⟨Uu, 0, none⟩, 1, valOf (sampleUnts st z I), rfl, fun hn a ha => ru.lt hn a ha, ru, ?_, ?_⟩, (show 4 ≤ 140737488355328 by omega), (show (-9223372036854775808 : Int) ≤ 0 by omega), (show (0 : Int) ≤ 9223372036854775807 by omega), Nat.le_refl _⟩
  · intro x hx
    simp [Pl.sLits] at hx
    rcases hx with rfl | rfl <;> exact ⟨by decide, by decide, by decide, by decide, by decide⟩
  · intro i x hx
    match i, hx with
    | 0, hx => cases hx; exact lits_none _ _
    | 1, hx => cases hx; exact lits_none _ _
    | i + 2, hx => simp [Pl.sLits] at hx
  · intro x hx
    simp [Pl.smp] at hx
    subst hx
    exact ⟨by simp [Pl.sUnt], by simp [Pl.sUnt], by simp [Pl.sUnt], by simp [Pl.sUnt], by simp [Pl.sUnt], by simp [Pl.sUnt], by simp [Pl.sUnt]; omega, by simp [Pl.sUnt]; omega⟩
  · intro i x hx
    match i, hx with
    | 0, hx => cases hx; exact HI
    | i + 1, hx => simp [Pl.smp] at hx
set_option maxRecDepth 100000 in
set_option maxHeartbeats 1000000 in
theorem sample_any (w : World) : Calls Tryz.prog 24 #[] w fun e w' => ∃ I T Uu, e = .returned (codV (Pl.smp 2 21) (smpL T) (smpU Uu)) ∧ SmpAt w' I T Uu 2 21 ∧ Below w.heap.size w w' ∧ w.heap.size ≤ I ∧ w.heap.size ≤ T ∧ w.heap.size ≤ Uu := by
  go_enter Tryz.func24, Tryz.ntmps24
  go_wp2_with fail
  refine bodyPost_ret (v := codV (Pl.smp 2 21) (smpL (w.heap.size + 1 + 1)) (smpU (w.heap.size + 1 + 1 + 1))) (by simp [results, Tryz.results24, go_sem, codV, smpL, smpU, Pl.smp]) rfl ?_
  refine ⟨w.heap.size + 1, w.heap.size + 1 + 1, w.heap.size + 1 + 1 + 1, rfl, ⟨?_, ?_, ?_⟩, ?_, by omega, by omega, by omega⟩
  · rw [heap_alloc_old _ _ (by simp), heap_alloc_old _ _ (by simp)]
    have := heap_alloc_new (w.alloc (.cells #[.string ⟨#[102, 111, 111, 58]⟩, .int .i64 0, smpL (w.heap.size + 1 + 1), smpU (w.heap.size + 1 + 1 + 1)] 25)) (.cells (rowOf insCells (sampleIns 21)).toArray 61)
    rw [World.size_alloc] at this
    exact this
  · rw [heap_alloc_old _ _ (by simp)]
    have := heap_alloc_new ((w.alloc (.cells #[.string ⟨#[102, 111, 111, 58]⟩, .int .i64 0, smpL (w.heap.size + 1 + 1), smpU (w.heap.size + 1 + 1 + 1)] 25)).alloc (.cells (rowOf insCells (sampleIns 21)).toArray 61)) (.cells (rowOf litCells sampleLits).toArray 37)
    rw [World.size_alloc, World.size_alloc] at this
    exact this
  · have := heap_alloc_new (((w.alloc (.cells #[.string ⟨#[102, 111, 111, 58]⟩, .int .i64 0, smpL (w.heap.size + 1 + 1), smpU (w.heap.size + 1 + 1 + 1)] 25)).alloc (.cells (rowOf insCells (sampleIns 21)).toArray 61)).alloc (.cells (rowOf litCells sampleLits).toArray 37)) (.cells (rowOf untCells (sampleUnts 2 21 (w.heap.size + 1))).toArray 58)
    rw [World.size_alloc, World.size_alloc, World.size_alloc] at this
    exact this
  · exact ((((Below.refl _ _).alloc (Nat.le_refl _) _).alloc (by simp) _).alloc (by simp; omega) _).alloc (by simp; omega) _
end Go.Proofs.YtoklnpoacckbfaaGreatDoor
