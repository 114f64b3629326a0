/- code.stands, class 2. (Printed by gen_std.py.) -/
import Derived.Test.YtoklnpoacckbfaaGreatDoorKaan
import Derived.Test.YtoklnpoacckbfaaGreatDoorKabe
import Derived.Deep.CutRange
import Derived.BigQuiet
namespace Go.Proofs.YtoklnpoacckbfaaGreatDoor
open Go.RowKit
set_option maxRecDepth 100000 in
set_option maxHeartbeats 8000000 in
theorem stands2_sym {B : Nat} {c : Pl.Cod} {L U : Value} (w : World) (h : CodAt B w c L U) (i : Nat) (y : Pl.Unt) (hy : c.units[i]? = some y) (hf : Pl.UntForm y) (hnl : c.lits.length ≤ 255)
    (n : Nat) (a b : Int) (hx : Pl.InsW ⟨n, a, b⟩) (hn : n = 7 ∨ n = 11 ∨ n = 16 ∨ n = 17 ∨ n = 25)
    (k : Nat) (z : Pl.Lit) (hk : a = k) (hz : c.lits[k]? = some z) (hzk : z.kind = 9) :
    Calls Tryz.prog 28 #[codV c L U, .int .i64 i, insV ⟨n, a, b⟩] w fun e w' => e = .returned (.bool (Pl.standsB c.lits c.units i ⟨n, a, b⟩)) ∧ Below w.heap.size w w' := by
  obtain ⟨⟨fa0, fa1⟩, ⟨fc0, fc1⟩, ⟨fl0, fl1⟩, ff, _, fn0, fn1⟩ := hf
  obtain ⟨xk, xa0, xa1, xb0, xb1⟩ := hx
  simp only at xk xa0 xa1 xb0 xb1
  have hBw := h.b
  obtain ⟨Al, capl, Vl, rfl, hBl, hrowl, hwl, hrl⟩ := h.l.out
  obtain ⟨Au, capu, Vu, rfl, hBu, hrowu, hwu, hru⟩ := h.u
  have hlt : i < c.units.length := (List.getElem?_eq_some_iff.1 hy).1
  obtain ⟨bu, ou, rfl, hbb⟩ := hrowu.some_of hlt
  obtain ⟨Ay, capy, hVk, _, hrowy, _⟩ := hru i y hy
  have hul := hrowu.len
  have HUN := Lib.hid (show Pl.unt c.units i = y by unfold Pl.unt; rw [List.getD_eq_getElem?_getD, hy]; rfl)
  have HY := Lib.hid hy
  have HBU := Lib.hid hBu
  have HROW := Lib.hid hrowu
  have hltI : (i : Int) < (c.units.length : Int) := by omega
  have hkn : Pl.known n := by unfold Pl.known; omega
  have hF : Pl.shFirst n = 1 := by unfold Pl.shFirst Pl.bytesA; rw [if_neg (by omega), if_neg (by omega), if_neg (by omega)]; rfl
  have hT : Pl.two n = true := by unfold Pl.two; simp; omega
  subst hk
  have hltl : k < c.lits.length := (List.getElem?_eq_some_iff.1 hz).1
  obtain ⟨bl, ol, rfl, hbl⟩ := hrowl.some_of hltl
  have HI := Lib.hid (Pl.inB_true (n := (k : Int)) (lo := 0) (hi := (c.lits.length : Int) - 1) (by unfold Pl.in_; omega))
  have HS := Lib.hid ((Pl.symbol_at hz).trans (if_pos hzk))
  have hzt := (hwl z (List.mem_of_getElem? hz)).t
  have HZ := Lib.hid hz
  have HBL := Lib.hid hBl
  have HROL := Lib.hid hrowl
  have hltlI : (k : Int) < (c.lits.length : Int) := by omega
  have hk0 : (0 : Int) ≤ (k : Int) := by omega
  have hzI : ((z.kind : Int) == 9) = true := by simp; omega
  clear hz hzk
  unfold codV insV
  clear hy hBu hBl
  go_enter Tryz.func28, Tryz.ntmps28
  go_wp2_with fail
  refine (of_known n hkn _).mono ?_
  rintro e w2 ⟨rfl, hb2⟩
  have hz2 := hb2.size
  simp only [World.size_alloc] at hz2
  have hb02 : Below w.heap.size w w2 := (((Below.refl _ _).alloc (Nat.le_refl _) _).alloc (by simp) _).trans (hb2.mono (by simp; omega))
  have p2 : w2.cell? ⟨w.heap.size, 2, none⟩ = some (.slice (some ⟨bl, ol, none⟩) c.lits.length capl) := by rw [hb2.cell (p := ⟨w.heap.size, 2, none⟩) (by simp; omega)]; simp [go_sem]
  have p3 : w2.cell? ⟨w.heap.size, 3, none⟩ = some (.slice (some ⟨bu, ou, none⟩) c.units.length capu) := by rw [hb2.cell (p := ⟨w.heap.size, 3, none⟩) (by simp; omega)]; simp [go_sem]
  have x0 : w2.cell? ⟨w.heap.size + 1, 0, none⟩ = some (.int .u8 n) := by rw [hb2.cell (p := ⟨w.heap.size + 1, 0, none⟩) (by simp)]; simp [go_sem]
  have x1 : w2.cell? ⟨w.heap.size + 1, 1, none⟩ = some (.int .i64 k) := by rw [hb2.cell (p := ⟨w.heap.size + 1, 1, none⟩) (by simp)]; simp [go_sem]
  have x2 : w2.cell? ⟨w.heap.size + 1, 2, none⟩ = some (.int .i64 b) := by rw [hb2.cell (p := ⟨w.heap.size + 1, 2, none⟩) (by simp)]; simp [go_sem]
  obtain ⟨e0, e1, e2, e3, e4⟩ := (HROW.out.keep (hb02.mono hBw) HBU.out).unt HY.out
  rw [hVk] at e4
  have l0 : w.heap.size < w2.heap.size := by omega
  have l1 : w.heap.size + 1 < w2.heap.size := by omega
  have lb : bu < w2.heap.size := by omega
  have m0 : ¬ w.heap.size = w2.heap.size := by omega
  have m1 : ¬ w.heap.size + 1 = w2.heap.size := by omega
  have mb : ¬ bu = w2.heap.size := by omega
  obtain ⟨z0, z1, z2, z3, z4⟩ := (HROL.out.keep (hb02.mono hBw) HBL.out).lit HZ.out
  have ll : bl < w2.heap.size := by omega
  have ml : ¬ bl = w2.heap.size := by omega
  have HB02 := Lib.hid hb02
  have HROW3 := HROW
  unfold Pl.shapeV
  rw [hF, hT]
  clear hb2 hb02 hrowu HROW hT hF
  go_upto_region 7 with (fail)
  rcases hn with rfl | rfl | rfl | rfl | rfl
  · go_wp2_with first
      | (with_reducible refine (within_any (k : Int) 0 ((c.lits.length : Int) - 1) _).mono ?_; rintro e w3 ⟨rfl, rfl⟩; rw [HI.out])
      | (with_reducible refine (within_any _ _ _ _).mono ?_; rintro e w3 ⟨rfl, rfl⟩)
      | (with_reducible refine (name_any _ _ (by first | omega | decide)).mono ?_; rintro e w3 ⟨rfl, rfl⟩)
      | (with_reducible refine (taken_any _ _).mono ?_; rintro e w3 ⟨rfl, rfl⟩)
    all_goals
      go_ret
      refine ⟨ret_bool ?_, (HB02.out.alloc (by omega) _).alloc (by simp; omega) _⟩
      rw [Pl.standsB_remote _ _ _ _ _ (by omega), HUN.out]; simp_all [Pl.frameOf]
  · go_wp2_with first
      | (with_reducible refine (within_any (k : Int) 0 ((c.lits.length : Int) - 1) _).mono ?_; rintro e w3 ⟨rfl, rfl⟩; rw [HI.out])
      | (with_reducible refine (within_any _ _ _ _).mono ?_; rintro e w3 ⟨rfl, rfl⟩)
      | (with_reducible refine (name_any _ _ (by first | omega | decide)).mono ?_; rintro e w3 ⟨rfl, rfl⟩)
      | (with_reducible refine (taken_any _ _).mono ?_; rintro e w3 ⟨rfl, rfl⟩)
    all_goals
      go_ret
      refine ⟨ret_bool ?_, (HB02.out.alloc (by omega) _).alloc (by simp; omega) _⟩
      rw [Pl.standsB_remote _ _ _ _ _ (by omega), HUN.out]; simp_all [Pl.frameOf]
  · go_upto_region 29 with first
      | (with_reducible refine (within_any (k : Int) 0 ((c.lits.length : Int) - 1) _).mono ?_; rintro e w3 ⟨rfl, rfl⟩; rw [HI.out])
    obtain ⟨W3, hW3⟩ : ∃ W3, (w2.alloc (.cells #[.string (Pl.opName 16), .int .i64 1, .bool true, .int .i64 (Pl.shOff 16), .int .i64 (Pl.shLays 16)] 69)).alloc (.cells #[.int .i64 y.args, .int .i64 y.copied, .int .i64 y.locals, .int .i64 y.stack, .slice Ay y.code.length capy] 58) = W3 := ⟨_, rfl⟩
    have hB3 : Below w.heap.size w W3 := by rw [← hW3]; exact (HB02.out.alloc (by omega) _).alloc (by simp; omega) _
    have hB23 : Below w2.heap.size w2 W3 := by rw [← hW3]; exact ((Below.refl _ _).alloc (Nat.le_refl _) _).alloc (by simp) _
    rw [hW3]
    clear hW3
    have y1 : W3.cell? ⟨w.heap.size + 1, 1, none⟩ = some (.int .i64 (k : Int)) := by rw [hB23.cell (p := ⟨w.heap.size + 1, 1, none⟩) (by simp; omega)]; exact x1
    have y2 : W3.cell? ⟨w.heap.size + 1, 2, none⟩ = some (.int .i64 b) := by rw [hB23.cell (p := ⟨w.heap.size + 1, 2, none⟩) (by simp; omega)]; exact x2
    have y3 : W3.cell? ⟨w.heap.size, 3, none⟩ = some (.slice (some ⟨bu, ou, none⟩) c.units.length capu) := by rw [hB23.cell (p := ⟨w.heap.size, 3, none⟩) (by simp; omega)]; exact p3
    have HB3 := Lib.hid hB3
    clear hB23
    cases hin : Pl.inB b 0 15
    · have HN := Lib.hid hin
      go_quiet (first | (go_at_call 57; exact within_q HN.out _ _))
      all_goals
        go_wp2_with fail
        go_ret
        refine ⟨ret_bool ?_, drewN_below hB3 _⟩
        rw [Pl.standsB_send _ _ _ _ _ (by omega) z.text HS.out, HN.out]; rfl
    · have HN := Lib.hid hin
      have HK := Lib.hid (fun (W : World) (hb : Below W3.heap.size W3 W) => show W.cell? ⟨w.heap.size + 1, 2, none⟩ = some (.int .i64 b) by rw [hb.cell (p := ⟨w.heap.size + 1, 2, none⟩) (by have := World.block_lt_of_cell? _ _ y2; simpa using this)]; exact y2)
      have hz3 := hB3.size
      clear hB3
      go_region_held3 (fun W => W.cell? ⟨w.heap.size + 1, 2, none⟩ = some (.int .i64 b)) (first | exact y2 | assumption) (first | (go_at_call 57; refine (within_any b 0 15 _).mono ?_; rintro e w8 ⟨rfl, rfl⟩; rw [HN.out]) | (go_at_call 56; refine (arity_any z.text _ (by omega)).mono ?_; rintro e w8 ⟨rfl, hbd⟩; have hb : Below W3.heap.size W3 w8 := (Below.refl _ W3).drew.trans hbd; clear hbd; have d2 := HK.out w8 hb))
      all_goals
        go_wp2_with fail
        go_ret
        refine ⟨ret_bool ?_, by first | exact HB3.out.trans (hb.mono hz3) | exact (HB3.out.trans (hb.mono hz3)).drew⟩
        rw [Pl.standsB_send _ _ _ _ _ (by omega) z.text HS.out, HN.out, Bool.eq_iff_iff]; simp
  · go_upto_region 29 with first
      | (with_reducible refine (within_any (k : Int) 0 ((c.lits.length : Int) - 1) _).mono ?_; rintro e w3 ⟨rfl, rfl⟩; rw [HI.out])
    obtain ⟨W3, hW3⟩ : ∃ W3, (w2.alloc (.cells #[.string (Pl.opName 17), .int .i64 1, .bool true, .int .i64 (Pl.shOff 17), .int .i64 (Pl.shLays 17)] 69)).alloc (.cells #[.int .i64 y.args, .int .i64 y.copied, .int .i64 y.locals, .int .i64 y.stack, .slice Ay y.code.length capy] 58) = W3 := ⟨_, rfl⟩
    have hB3 : Below w.heap.size w W3 := by rw [← hW3]; exact (HB02.out.alloc (by omega) _).alloc (by simp; omega) _
    have hB23 : Below w2.heap.size w2 W3 := by rw [← hW3]; exact ((Below.refl _ _).alloc (Nat.le_refl _) _).alloc (by simp) _
    rw [hW3]
    clear hW3
    have y1 : W3.cell? ⟨w.heap.size + 1, 1, none⟩ = some (.int .i64 (k : Int)) := by rw [hB23.cell (p := ⟨w.heap.size + 1, 1, none⟩) (by simp; omega)]; exact x1
    have y2 : W3.cell? ⟨w.heap.size + 1, 2, none⟩ = some (.int .i64 b) := by rw [hB23.cell (p := ⟨w.heap.size + 1, 2, none⟩) (by simp; omega)]; exact x2
    have y3 : W3.cell? ⟨w.heap.size, 3, none⟩ = some (.slice (some ⟨bu, ou, none⟩) c.units.length capu) := by rw [hB23.cell (p := ⟨w.heap.size, 3, none⟩) (by simp; omega)]; exact p3
    have HB3 := Lib.hid hB3
    clear hB23
    cases hin : Pl.inB b 0 15
    · have HN := Lib.hid hin
      go_quiet (first | (go_at_call 57; exact within_q HN.out _ _))
      all_goals
        go_wp2_with fail
        go_ret
        refine ⟨ret_bool ?_, drewN_below hB3 _⟩
        rw [Pl.standsB_send _ _ _ _ _ (by omega) z.text HS.out, HN.out]; rfl
    · have HN := Lib.hid hin
      have HK := Lib.hid (fun (W : World) (hb : Below W3.heap.size W3 W) => show W.cell? ⟨w.heap.size + 1, 2, none⟩ = some (.int .i64 b) by rw [hb.cell (p := ⟨w.heap.size + 1, 2, none⟩) (by have := World.block_lt_of_cell? _ _ y2; simpa using this)]; exact y2)
      have hz3 := hB3.size
      clear hB3
      go_region_held3 (fun W => W.cell? ⟨w.heap.size + 1, 2, none⟩ = some (.int .i64 b)) (first | exact y2 | assumption) (first | (go_at_call 57; refine (within_any b 0 15 _).mono ?_; rintro e w8 ⟨rfl, rfl⟩; rw [HN.out]) | (go_at_call 56; refine (arity_any z.text _ (by omega)).mono ?_; rintro e w8 ⟨rfl, hbd⟩; have hb : Below W3.heap.size W3 w8 := (Below.refl _ W3).drew.trans hbd; clear hbd; have d2 := HK.out w8 hb))
      all_goals
        go_wp2_with fail
        go_ret
        refine ⟨ret_bool ?_, by first | exact HB3.out.trans (hb.mono hz3) | exact (HB3.out.trans (hb.mono hz3)).drew⟩
        rw [Pl.standsB_send _ _ _ _ _ (by omega) z.text HS.out, HN.out, Bool.eq_iff_iff]; simp
  · go_upto_region 37 with first
      | (with_reducible refine (within_any (k : Int) 0 ((c.lits.length : Int) - 1) _).mono ?_; rintro e w3 ⟨rfl, rfl⟩; rw [HI.out])
    obtain ⟨W3, hW3⟩ : ∃ W3, (w2.alloc (.cells #[.string (Pl.opName 25), .int .i64 1, .bool true, .int .i64 (Pl.shOff 25), .int .i64 (Pl.shLays 25)] 69)).alloc (.cells #[.int .i64 y.args, .int .i64 y.copied, .int .i64 y.locals, .int .i64 y.stack, .slice Ay y.code.length capy] 58) = W3 := ⟨_, rfl⟩
    have hB3 : Below w.heap.size w W3 := by rw [← hW3]; exact (HB02.out.alloc (by omega) _).alloc (by simp; omega) _
    have hB23 : Below w2.heap.size w2 W3 := by rw [← hW3]; exact ((Below.refl _ _).alloc (Nat.le_refl _) _).alloc (by simp) _
    rw [hW3]
    clear hW3
    have y1 : W3.cell? ⟨w.heap.size + 1, 1, none⟩ = some (.int .i64 (k : Int)) := by rw [hB23.cell (p := ⟨w.heap.size + 1, 1, none⟩) (by simp; omega)]; exact x1
    have y2 : W3.cell? ⟨w.heap.size + 1, 2, none⟩ = some (.int .i64 b) := by rw [hB23.cell (p := ⟨w.heap.size + 1, 2, none⟩) (by simp; omega)]; exact x2
    have y3 : W3.cell? ⟨w.heap.size, 3, none⟩ = some (.slice (some ⟨bu, ou, none⟩) c.units.length capu) := by rw [hB23.cell (p := ⟨w.heap.size, 3, none⟩) (by simp; omega)]; exact p3
    have HB3 := Lib.hid hB3
    clear hB23
    cases hin : Pl.inB (k : Int) ((i : Int) + 1) ((c.units.length : Int) - 1)
    · have HN := Lib.hid hin
      go_quiet (first | (go_at_call 57; exact within_q HN.out _ _))
      all_goals
        go_wp2_with fail
        go_ret
        refine ⟨ret_bool ?_, drewN_below hB3 _⟩
        rw [Pl.standsB_block, HN.out]; rfl
    · have HN := Lib.hid hin
      unfold Pl.inB at hin
      simp only [Bool.and_eq_true, decide_eq_true_eq] at hin
      obtain ⟨hi1, hi2⟩ := hin
      obtain ⟨q, hq⟩ : ∃ q : Nat, (k : Int) = q := ⟨((k : Int)).toNat, by omega⟩
      have hql : q < c.units.length := by omega
      obtain ⟨v, hv⟩ : ∃ v, c.units[q]? = some v := ⟨_, List.getElem?_eq_getElem hql⟩
      obtain ⟨f0, f1, f2, f3, f4⟩ := (HROW3.out.keep (hB3.mono hBw) HBU.out).unt hv
      have HV := Lib.hid (show (Pl.unt c.units ((k : Int)).toNat).copied = v.copied by rw [show ((k : Int)).toNat = q by omega]; unfold Pl.unt; rw [List.getD_eq_getElem?_getD, hv]; rfl)
      have hqI : (q : Int) < (c.units.length : Int) := by omega
      have hq0 : (0 : Int) ≤ (q : Int) := by omega
      rw [hq] at y1
      have HNQ := Lib.hid (show Pl.inB (q : Int) ((i : Int) + 1) ((c.units.length : Int) - 1) = true by rw [← hq]; exact HN.out)
      have HQ := Lib.hid hq
      clear hv hq hi1 hi2
      go_quiet (first | (go_at_call 57; exact within_q HNQ.out _ _))
      all_goals
        go_wp2_with fail
        go_ret
        refine ⟨ret_bool ?_, drewN_below hB3 _⟩
        rw [Pl.standsB_block, HN.out, HV.out, Bool.eq_iff_iff]; simp
set_option maxRecDepth 100000 in
set_option maxHeartbeats 8000000 in
theorem stands2_kin {B : Nat} {c : Pl.Cod} {L U : Value} (w : World) (h : CodAt B w c L U) (i : Nat) (y : Pl.Unt) (hy : c.units[i]? = some y) (hf : Pl.UntForm y) (hnl : c.lits.length ≤ 255)
    (n : Nat) (a b : Int) (hx : Pl.InsW ⟨n, a, b⟩) (hn : n = 7 ∨ n = 11 ∨ n = 16 ∨ n = 17 ∨ n = 25)
    (k : Nat) (z : Pl.Lit) (hk : a = k) (hz : c.lits[k]? = some z) (hzk : z.kind ≠ 9) :
    Calls Tryz.prog 28 #[codV c L U, .int .i64 i, insV ⟨n, a, b⟩] w fun e w' => e = .returned (.bool (Pl.standsB c.lits c.units i ⟨n, a, b⟩)) ∧ Below w.heap.size w w' := by
  obtain ⟨⟨fa0, fa1⟩, ⟨fc0, fc1⟩, ⟨fl0, fl1⟩, ff, _, fn0, fn1⟩ := hf
  obtain ⟨xk, xa0, xa1, xb0, xb1⟩ := hx
  simp only at xk xa0 xa1 xb0 xb1
  have hBw := h.b
  obtain ⟨Al, capl, Vl, rfl, hBl, hrowl, hwl, hrl⟩ := h.l.out
  obtain ⟨Au, capu, Vu, rfl, hBu, hrowu, hwu, hru⟩ := h.u
  have hlt : i < c.units.length := (List.getElem?_eq_some_iff.1 hy).1
  obtain ⟨bu, ou, rfl, hbb⟩ := hrowu.some_of hlt
  obtain ⟨Ay, capy, hVk, _, hrowy, _⟩ := hru i y hy
  have hul := hrowu.len
  have HUN := Lib.hid (show Pl.unt c.units i = y by unfold Pl.unt; rw [List.getD_eq_getElem?_getD, hy]; rfl)
  have HY := Lib.hid hy
  have HBU := Lib.hid hBu
  have HROW := Lib.hid hrowu
  have hltI : (i : Int) < (c.units.length : Int) := by omega
  have hkn : Pl.known n := by unfold Pl.known; omega
  have hF : Pl.shFirst n = 1 := by unfold Pl.shFirst Pl.bytesA; rw [if_neg (by omega), if_neg (by omega), if_neg (by omega)]; rfl
  have hT : Pl.two n = true := by unfold Pl.two; simp; omega
  subst hk
  have hltl : k < c.lits.length := (List.getElem?_eq_some_iff.1 hz).1
  obtain ⟨bl, ol, rfl, hbl⟩ := hrowl.some_of hltl
  have HI := Lib.hid (Pl.inB_true (n := (k : Int)) (lo := 0) (hi := (c.lits.length : Int) - 1) (by unfold Pl.in_; omega))
  have HS := Lib.hid ((Pl.symbol_at hz).trans (if_neg hzk))
  have hzt := (hwl z (List.mem_of_getElem? hz)).t
  have HZ := Lib.hid hz
  have HBL := Lib.hid hBl
  have HROL := Lib.hid hrowl
  have hltlI : (k : Int) < (c.lits.length : Int) := by omega
  have hk0 : (0 : Int) ≤ (k : Int) := by omega
  have hzI : ((z.kind : Int) == 9) = false := by simp; omega
  clear hz hzk
  unfold codV insV
  clear hy hBu hBl
  go_enter Tryz.func28, Tryz.ntmps28
  go_wp2_with fail
  refine (of_known n hkn _).mono ?_
  rintro e w2 ⟨rfl, hb2⟩
  have hz2 := hb2.size
  simp only [World.size_alloc] at hz2
  have hb02 : Below w.heap.size w w2 := (((Below.refl _ _).alloc (Nat.le_refl _) _).alloc (by simp) _).trans (hb2.mono (by simp; omega))
  have p2 : w2.cell? ⟨w.heap.size, 2, none⟩ = some (.slice (some ⟨bl, ol, none⟩) c.lits.length capl) := by rw [hb2.cell (p := ⟨w.heap.size, 2, none⟩) (by simp; omega)]; simp [go_sem]
  have p3 : w2.cell? ⟨w.heap.size, 3, none⟩ = some (.slice (some ⟨bu, ou, none⟩) c.units.length capu) := by rw [hb2.cell (p := ⟨w.heap.size, 3, none⟩) (by simp; omega)]; simp [go_sem]
  have x0 : w2.cell? ⟨w.heap.size + 1, 0, none⟩ = some (.int .u8 n) := by rw [hb2.cell (p := ⟨w.heap.size + 1, 0, none⟩) (by simp)]; simp [go_sem]
  have x1 : w2.cell? ⟨w.heap.size + 1, 1, none⟩ = some (.int .i64 k) := by rw [hb2.cell (p := ⟨w.heap.size + 1, 1, none⟩) (by simp)]; simp [go_sem]
  have x2 : w2.cell? ⟨w.heap.size + 1, 2, none⟩ = some (.int .i64 b) := by rw [hb2.cell (p := ⟨w.heap.size + 1, 2, none⟩) (by simp)]; simp [go_sem]
  obtain ⟨e0, e1, e2, e3, e4⟩ := (HROW.out.keep (hb02.mono hBw) HBU.out).unt HY.out
  rw [hVk] at e4
  have l0 : w.heap.size < w2.heap.size := by omega
  have l1 : w.heap.size + 1 < w2.heap.size := by omega
  have lb : bu < w2.heap.size := by omega
  have m0 : ¬ w.heap.size = w2.heap.size := by omega
  have m1 : ¬ w.heap.size + 1 = w2.heap.size := by omega
  have mb : ¬ bu = w2.heap.size := by omega
  obtain ⟨z0, z1, z2, z3, z4⟩ := (HROL.out.keep (hb02.mono hBw) HBL.out).lit HZ.out
  have ll : bl < w2.heap.size := by omega
  have ml : ¬ bl = w2.heap.size := by omega
  have HB02 := Lib.hid hb02
  have HROW3 := HROW
  unfold Pl.shapeV
  rw [hF, hT]
  clear hb2 hb02 hrowu HROW hT hF
  go_upto_region 7 with (fail)
  rcases hn with rfl | rfl | rfl | rfl | rfl
  · go_wp2_with first
      | (with_reducible refine (within_any (k : Int) 0 ((c.lits.length : Int) - 1) _).mono ?_; rintro e w3 ⟨rfl, rfl⟩; rw [HI.out])
      | (with_reducible refine (within_any _ _ _ _).mono ?_; rintro e w3 ⟨rfl, rfl⟩)
      | (with_reducible refine (name_any _ _ (by first | omega | decide)).mono ?_; rintro e w3 ⟨rfl, rfl⟩)
      | (with_reducible refine (taken_any _ _).mono ?_; rintro e w3 ⟨rfl, rfl⟩)
    all_goals
      go_ret
      refine ⟨ret_bool ?_, (HB02.out.alloc (by omega) _).alloc (by simp; omega) _⟩
      rw [Pl.standsB_remote _ _ _ _ _ (by omega), HUN.out]; simp_all [Pl.frameOf]
  · go_wp2_with first
      | (with_reducible refine (within_any (k : Int) 0 ((c.lits.length : Int) - 1) _).mono ?_; rintro e w3 ⟨rfl, rfl⟩; rw [HI.out])
      | (with_reducible refine (within_any _ _ _ _).mono ?_; rintro e w3 ⟨rfl, rfl⟩)
      | (with_reducible refine (name_any _ _ (by first | omega | decide)).mono ?_; rintro e w3 ⟨rfl, rfl⟩)
      | (with_reducible refine (taken_any _ _).mono ?_; rintro e w3 ⟨rfl, rfl⟩)
    all_goals
      go_ret
      refine ⟨ret_bool ?_, (HB02.out.alloc (by omega) _).alloc (by simp; omega) _⟩
      rw [Pl.standsB_remote _ _ _ _ _ (by omega), HUN.out]; simp_all [Pl.frameOf]
  · go_upto_region 29 with first
      | (with_reducible refine (within_any (k : Int) 0 ((c.lits.length : Int) - 1) _).mono ?_; rintro e w3 ⟨rfl, rfl⟩; rw [HI.out])
    obtain ⟨W3, hW3⟩ : ∃ W3, (w2.alloc (.cells #[.string (Pl.opName 16), .int .i64 1, .bool true, .int .i64 (Pl.shOff 16), .int .i64 (Pl.shLays 16)] 69)).alloc (.cells #[.int .i64 y.args, .int .i64 y.copied, .int .i64 y.locals, .int .i64 y.stack, .slice Ay y.code.length capy] 58) = W3 := ⟨_, rfl⟩
    have hB3 : Below w.heap.size w W3 := by rw [← hW3]; exact (HB02.out.alloc (by omega) _).alloc (by simp; omega) _
    have hB23 : Below w2.heap.size w2 W3 := by rw [← hW3]; exact ((Below.refl _ _).alloc (Nat.le_refl _) _).alloc (by simp) _
    rw [hW3]
    clear hW3
    have y1 : W3.cell? ⟨w.heap.size + 1, 1, none⟩ = some (.int .i64 (k : Int)) := by rw [hB23.cell (p := ⟨w.heap.size + 1, 1, none⟩) (by simp; omega)]; exact x1
    have y2 : W3.cell? ⟨w.heap.size + 1, 2, none⟩ = some (.int .i64 b) := by rw [hB23.cell (p := ⟨w.heap.size + 1, 2, none⟩) (by simp; omega)]; exact x2
    have y3 : W3.cell? ⟨w.heap.size, 3, none⟩ = some (.slice (some ⟨bu, ou, none⟩) c.units.length capu) := by rw [hB23.cell (p := ⟨w.heap.size, 3, none⟩) (by simp; omega)]; exact p3
    have HB3 := Lib.hid hB3
    clear hB23
    cases hin : Pl.inB b 0 15
    · have HN := Lib.hid hin
      go_quiet (first | (go_at_call 57; exact within_q HN.out _ _))
      all_goals
        go_wp2_with fail
        go_ret
        refine ⟨ret_bool ?_, drewN_below hB3 _⟩
        exact (Pl.standsB_send_no _ _ _ _ _ (by omega) HS.out).symm
    · have HN := Lib.hid hin
      have HK := Lib.hid (fun (W : World) (hb : Below W3.heap.size W3 W) => show W.cell? ⟨w.heap.size + 1, 2, none⟩ = some (.int .i64 b) by rw [hb.cell (p := ⟨w.heap.size + 1, 2, none⟩) (by have := World.block_lt_of_cell? _ _ y2; simpa using this)]; exact y2)
      have hz3 := hB3.size
      clear hB3
      go_region_held3 (fun W => W.cell? ⟨w.heap.size + 1, 2, none⟩ = some (.int .i64 b)) (first | exact y2 | assumption) (first | (go_at_call 57; refine (within_any b 0 15 _).mono ?_; rintro e w8 ⟨rfl, rfl⟩; rw [HN.out]) | (go_at_call 56; refine (arity_any ⟨#[]⟩ _ (by decide)).mono ?_; rintro e w8 ⟨rfl, hbd⟩; have hb : Below W3.heap.size W3 w8 := (Below.refl _ W3).drew.trans hbd; clear hbd; have d2 := HK.out w8 hb))
      all_goals
        go_wp2_with fail
        go_ret
        refine ⟨ret_bool ?_, by first | exact HB3.out.trans (hb.mono hz3) | exact (HB3.out.trans (hb.mono hz3)).drew⟩
        rw [Pl.standsB_send_no _ _ _ _ _ (by omega) HS.out]
        have hb0 : 0 ≤ b := by have := HN.out; unfold Pl.inB at this; simp at this; omega
        rw [show Pl.arity (⟨#[]⟩ : ByteArray).data.toList = -1 from rfl]
        simp
        omega
  · go_upto_region 29 with first
      | (with_reducible refine (within_any (k : Int) 0 ((c.lits.length : Int) - 1) _).mono ?_; rintro e w3 ⟨rfl, rfl⟩; rw [HI.out])
    obtain ⟨W3, hW3⟩ : ∃ W3, (w2.alloc (.cells #[.string (Pl.opName 17), .int .i64 1, .bool true, .int .i64 (Pl.shOff 17), .int .i64 (Pl.shLays 17)] 69)).alloc (.cells #[.int .i64 y.args, .int .i64 y.copied, .int .i64 y.locals, .int .i64 y.stack, .slice Ay y.code.length capy] 58) = W3 := ⟨_, rfl⟩
    have hB3 : Below w.heap.size w W3 := by rw [← hW3]; exact (HB02.out.alloc (by omega) _).alloc (by simp; omega) _
    have hB23 : Below w2.heap.size w2 W3 := by rw [← hW3]; exact ((Below.refl _ _).alloc (Nat.le_refl _) _).alloc (by simp) _
    rw [hW3]
    clear hW3
    have y1 : W3.cell? ⟨w.heap.size + 1, 1, none⟩ = some (.int .i64 (k : Int)) := by rw [hB23.cell (p := ⟨w.heap.size + 1, 1, none⟩) (by simp; omega)]; exact x1
    have y2 : W3.cell? ⟨w.heap.size + 1, 2, none⟩ = some (.int .i64 b) := by rw [hB23.cell (p := ⟨w.heap.size + 1, 2, none⟩) (by simp; omega)]; exact x2
    have y3 : W3.cell? ⟨w.heap.size, 3, none⟩ = some (.slice (some ⟨bu, ou, none⟩) c.units.length capu) := by rw [hB23.cell (p := ⟨w.heap.size, 3, none⟩) (by simp; omega)]; exact p3
    have HB3 := Lib.hid hB3
    clear hB23
    cases hin : Pl.inB b 0 15
    · have HN := Lib.hid hin
      go_quiet (first | (go_at_call 57; exact within_q HN.out _ _))
      all_goals
        go_wp2_with fail
        go_ret
        refine ⟨ret_bool ?_, drewN_below hB3 _⟩
        exact (Pl.standsB_send_no _ _ _ _ _ (by omega) HS.out).symm
    · have HN := Lib.hid hin
      have HK := Lib.hid (fun (W : World) (hb : Below W3.heap.size W3 W) => show W.cell? ⟨w.heap.size + 1, 2, none⟩ = some (.int .i64 b) by rw [hb.cell (p := ⟨w.heap.size + 1, 2, none⟩) (by have := World.block_lt_of_cell? _ _ y2; simpa using this)]; exact y2)
      have hz3 := hB3.size
      clear hB3
      go_region_held3 (fun W => W.cell? ⟨w.heap.size + 1, 2, none⟩ = some (.int .i64 b)) (first | exact y2 | assumption) (first | (go_at_call 57; refine (within_any b 0 15 _).mono ?_; rintro e w8 ⟨rfl, rfl⟩; rw [HN.out]) | (go_at_call 56; refine (arity_any ⟨#[]⟩ _ (by decide)).mono ?_; rintro e w8 ⟨rfl, hbd⟩; have hb : Below W3.heap.size W3 w8 := (Below.refl _ W3).drew.trans hbd; clear hbd; have d2 := HK.out w8 hb))
      all_goals
        go_wp2_with fail
        go_ret
        refine ⟨ret_bool ?_, by first | exact HB3.out.trans (hb.mono hz3) | exact (HB3.out.trans (hb.mono hz3)).drew⟩
        rw [Pl.standsB_send_no _ _ _ _ _ (by omega) HS.out]
        have hb0 : 0 ≤ b := by have := HN.out; unfold Pl.inB at this; simp at this; omega
        rw [show Pl.arity (⟨#[]⟩ : ByteArray).data.toList = -1 from rfl]
        simp
        omega
  · go_upto_region 37 with first
      | (with_reducible refine (within_any (k : Int) 0 ((c.lits.length : Int) - 1) _).mono ?_; rintro e w3 ⟨rfl, rfl⟩; rw [HI.out])
    obtain ⟨W3, hW3⟩ : ∃ W3, (w2.alloc (.cells #[.string (Pl.opName 25), .int .i64 1, .bool true, .int .i64 (Pl.shOff 25), .int .i64 (Pl.shLays 25)] 69)).alloc (.cells #[.int .i64 y.args, .int .i64 y.copied, .int .i64 y.locals, .int .i64 y.stack, .slice Ay y.code.length capy] 58) = W3 := ⟨_, rfl⟩
    have hB3 : Below w.heap.size w W3 := by rw [← hW3]; exact (HB02.out.alloc (by omega) _).alloc (by simp; omega) _
    have hB23 : Below w2.heap.size w2 W3 := by rw [← hW3]; exact ((Below.refl _ _).alloc (Nat.le_refl _) _).alloc (by simp) _
    rw [hW3]
    clear hW3
    have y1 : W3.cell? ⟨w.heap.size + 1, 1, none⟩ = some (.int .i64 (k : Int)) := by rw [hB23.cell (p := ⟨w.heap.size + 1, 1, none⟩) (by simp; omega)]; exact x1
    have y2 : W3.cell? ⟨w.heap.size + 1, 2, none⟩ = some (.int .i64 b) := by rw [hB23.cell (p := ⟨w.heap.size + 1, 2, none⟩) (by simp; omega)]; exact x2
    have y3 : W3.cell? ⟨w.heap.size, 3, none⟩ = some (.slice (some ⟨bu, ou, none⟩) c.units.length capu) := by rw [hB23.cell (p := ⟨w.heap.size, 3, none⟩) (by simp; omega)]; exact p3
    have HB3 := Lib.hid hB3
    clear hB23
    cases hin : Pl.inB (k : Int) ((i : Int) + 1) ((c.units.length : Int) - 1)
    · have HN := Lib.hid hin
      go_quiet (first | (go_at_call 57; exact within_q HN.out _ _))
      all_goals
        go_wp2_with fail
        go_ret
        refine ⟨ret_bool ?_, drewN_below hB3 _⟩
        rw [Pl.standsB_block, HN.out]; rfl
    · have HN := Lib.hid hin
      unfold Pl.inB at hin
      simp only [Bool.and_eq_true, decide_eq_true_eq] at hin
      obtain ⟨hi1, hi2⟩ := hin
      obtain ⟨q, hq⟩ : ∃ q : Nat, (k : Int) = q := ⟨((k : Int)).toNat, by omega⟩
      have hql : q < c.units.length := by omega
      obtain ⟨v, hv⟩ : ∃ v, c.units[q]? = some v := ⟨_, List.getElem?_eq_getElem hql⟩
      obtain ⟨f0, f1, f2, f3, f4⟩ := (HROW3.out.keep (hB3.mono hBw) HBU.out).unt hv
      have HV := Lib.hid (show (Pl.unt c.units ((k : Int)).toNat).copied = v.copied by rw [show ((k : Int)).toNat = q by omega]; unfold Pl.unt; rw [List.getD_eq_getElem?_getD, hv]; rfl)
      have hqI : (q : Int) < (c.units.length : Int) := by omega
      have hq0 : (0 : Int) ≤ (q : Int) := by omega
      rw [hq] at y1
      have HNQ := Lib.hid (show Pl.inB (q : Int) ((i : Int) + 1) ((c.units.length : Int) - 1) = true by rw [← hq]; exact HN.out)
      have HQ := Lib.hid hq
      clear hv hq hi1 hi2
      go_quiet (first | (go_at_call 57; exact within_q HNQ.out _ _))
      all_goals
        go_wp2_with fail
        go_ret
        refine ⟨ret_bool ?_, drewN_below hB3 _⟩
        rw [Pl.standsB_block, HN.out, HV.out, Bool.eq_iff_iff]; simp
set_option maxRecDepth 100000 in
set_option maxHeartbeats 8000000 in
theorem stands2_out {B : Nat} {c : Pl.Cod} {L U : Value} (w : World) (h : CodAt B w c L U) (i : Nat) (y : Pl.Unt) (hy : c.units[i]? = some y) (hf : Pl.UntForm y) (hnl : c.lits.length ≤ 255)
    (n : Nat) (a b : Int) (hx : Pl.InsW ⟨n, a, b⟩) (hn : n = 7 ∨ n = 11 ∨ n = 16 ∨ n = 17 ∨ n = 25)
    (hout : ¬ Pl.in_ a 0 ((c.lits.length : Int) - 1)) :
    Calls Tryz.prog 28 #[codV c L U, .int .i64 i, insV ⟨n, a, b⟩] w fun e w' => e = .returned (.bool (Pl.standsB c.lits c.units i ⟨n, a, b⟩)) ∧ Below w.heap.size w w' := by
  obtain ⟨⟨fa0, fa1⟩, ⟨fc0, fc1⟩, ⟨fl0, fl1⟩, ff, _, fn0, fn1⟩ := hf
  obtain ⟨xk, xa0, xa1, xb0, xb1⟩ := hx
  simp only at xk xa0 xa1 xb0 xb1
  have hBw := h.b
  obtain ⟨Al, capl, Vl, rfl, hBl, hrowl, hwl, hrl⟩ := h.l.out
  obtain ⟨Au, capu, Vu, rfl, hBu, hrowu, hwu, hru⟩ := h.u
  have hlt : i < c.units.length := (List.getElem?_eq_some_iff.1 hy).1
  obtain ⟨bu, ou, rfl, hbb⟩ := hrowu.some_of hlt
  obtain ⟨Ay, capy, hVk, _, hrowy, _⟩ := hru i y hy
  have hul := hrowu.len
  have HUN := Lib.hid (show Pl.unt c.units i = y by unfold Pl.unt; rw [List.getD_eq_getElem?_getD, hy]; rfl)
  have HY := Lib.hid hy
  have HBU := Lib.hid hBu
  have HROW := Lib.hid hrowu
  have hltI : (i : Int) < (c.units.length : Int) := by omega
  have hkn : Pl.known n := by unfold Pl.known; omega
  have hF : Pl.shFirst n = 1 := by unfold Pl.shFirst Pl.bytesA; rw [if_neg (by omega), if_neg (by omega), if_neg (by omega)]; rfl
  have hT : Pl.two n = true := by unfold Pl.two; simp; omega
  have HI := Lib.hid (Pl.inB_false hout)
  have HS := Lib.hid (Pl.symbol_out hout)
  clear hout
  unfold codV insV
  clear hy hBu hBl
  go_enter Tryz.func28, Tryz.ntmps28
  go_wp2_with fail
  refine (of_known n hkn _).mono ?_
  rintro e w2 ⟨rfl, hb2⟩
  have hz2 := hb2.size
  simp only [World.size_alloc] at hz2
  have hb02 : Below w.heap.size w w2 := (((Below.refl _ _).alloc (Nat.le_refl _) _).alloc (by simp) _).trans (hb2.mono (by simp; omega))
  have p2 : w2.cell? ⟨w.heap.size, 2, none⟩ = some (.slice Al c.lits.length capl) := by rw [hb2.cell (p := ⟨w.heap.size, 2, none⟩) (by simp; omega)]; simp [go_sem]
  have p3 : w2.cell? ⟨w.heap.size, 3, none⟩ = some (.slice (some ⟨bu, ou, none⟩) c.units.length capu) := by rw [hb2.cell (p := ⟨w.heap.size, 3, none⟩) (by simp; omega)]; simp [go_sem]
  have x0 : w2.cell? ⟨w.heap.size + 1, 0, none⟩ = some (.int .u8 n) := by rw [hb2.cell (p := ⟨w.heap.size + 1, 0, none⟩) (by simp)]; simp [go_sem]
  have x1 : w2.cell? ⟨w.heap.size + 1, 1, none⟩ = some (.int .i64 a) := by rw [hb2.cell (p := ⟨w.heap.size + 1, 1, none⟩) (by simp)]; simp [go_sem]
  have x2 : w2.cell? ⟨w.heap.size + 1, 2, none⟩ = some (.int .i64 b) := by rw [hb2.cell (p := ⟨w.heap.size + 1, 2, none⟩) (by simp)]; simp [go_sem]
  obtain ⟨e0, e1, e2, e3, e4⟩ := (HROW.out.keep (hb02.mono hBw) HBU.out).unt HY.out
  rw [hVk] at e4
  have l0 : w.heap.size < w2.heap.size := by omega
  have l1 : w.heap.size + 1 < w2.heap.size := by omega
  have lb : bu < w2.heap.size := by omega
  have m0 : ¬ w.heap.size = w2.heap.size := by omega
  have m1 : ¬ w.heap.size + 1 = w2.heap.size := by omega
  have mb : ¬ bu = w2.heap.size := by omega
  have HB02 := Lib.hid hb02
  have HROW3 := HROW
  unfold Pl.shapeV
  rw [hF, hT]
  clear hb2 hb02 hrowu HROW hT hF
  go_upto_region 7 with (fail)
  rcases hn with rfl | rfl | rfl | rfl | rfl
  · go_wp2_with first
      | (with_reducible refine (within_any a 0 ((c.lits.length : Int) - 1) _).mono ?_; rintro e w3 ⟨rfl, rfl⟩; rw [HI.out])
      | (with_reducible refine (within_any _ _ _ _).mono ?_; rintro e w3 ⟨rfl, rfl⟩)
      | (with_reducible refine (name_any _ _ (by first | omega | decide)).mono ?_; rintro e w3 ⟨rfl, rfl⟩)
      | (with_reducible refine (taken_any _ _).mono ?_; rintro e w3 ⟨rfl, rfl⟩)
    all_goals
      go_ret
      refine ⟨ret_bool ?_, (HB02.out.alloc (by omega) _).alloc (by simp; omega) _⟩
      rw [Pl.standsB_remote _ _ _ _ _ (by omega), HUN.out]; simp_all [Pl.frameOf]
  · go_wp2_with first
      | (with_reducible refine (within_any a 0 ((c.lits.length : Int) - 1) _).mono ?_; rintro e w3 ⟨rfl, rfl⟩; rw [HI.out])
      | (with_reducible refine (within_any _ _ _ _).mono ?_; rintro e w3 ⟨rfl, rfl⟩)
      | (with_reducible refine (name_any _ _ (by first | omega | decide)).mono ?_; rintro e w3 ⟨rfl, rfl⟩)
      | (with_reducible refine (taken_any _ _).mono ?_; rintro e w3 ⟨rfl, rfl⟩)
    all_goals
      go_ret
      refine ⟨ret_bool ?_, (HB02.out.alloc (by omega) _).alloc (by simp; omega) _⟩
      rw [Pl.standsB_remote _ _ _ _ _ (by omega), HUN.out]; simp_all [Pl.frameOf]
  · go_upto_region 29 with first
      | (with_reducible refine (within_any a 0 ((c.lits.length : Int) - 1) _).mono ?_; rintro e w3 ⟨rfl, rfl⟩; rw [HI.out])
    obtain ⟨W3, hW3⟩ : ∃ W3, (w2.alloc (.cells #[.string (Pl.opName 16), .int .i64 1, .bool true, .int .i64 (Pl.shOff 16), .int .i64 (Pl.shLays 16)] 69)).alloc (.cells #[.int .i64 y.args, .int .i64 y.copied, .int .i64 y.locals, .int .i64 y.stack, .slice Ay y.code.length capy] 58) = W3 := ⟨_, rfl⟩
    have hB3 : Below w.heap.size w W3 := by rw [← hW3]; exact (HB02.out.alloc (by omega) _).alloc (by simp; omega) _
    have hB23 : Below w2.heap.size w2 W3 := by rw [← hW3]; exact ((Below.refl _ _).alloc (Nat.le_refl _) _).alloc (by simp) _
    rw [hW3]
    clear hW3
    have y1 : W3.cell? ⟨w.heap.size + 1, 1, none⟩ = some (.int .i64 a) := by rw [hB23.cell (p := ⟨w.heap.size + 1, 1, none⟩) (by simp; omega)]; exact x1
    have y2 : W3.cell? ⟨w.heap.size + 1, 2, none⟩ = some (.int .i64 b) := by rw [hB23.cell (p := ⟨w.heap.size + 1, 2, none⟩) (by simp; omega)]; exact x2
    have y3 : W3.cell? ⟨w.heap.size, 3, none⟩ = some (.slice (some ⟨bu, ou, none⟩) c.units.length capu) := by rw [hB23.cell (p := ⟨w.heap.size, 3, none⟩) (by simp; omega)]; exact p3
    have HB3 := Lib.hid hB3
    clear hB23
    cases hin : Pl.inB b 0 15
    · have HN := Lib.hid hin
      go_quiet (first | (go_at_call 57; exact within_q HN.out _ _))
      all_goals
        go_wp2_with fail
        go_ret
        refine ⟨ret_bool ?_, drewN_below hB3 _⟩
        exact (Pl.standsB_send_no _ _ _ _ _ (by omega) HS.out).symm
    · have HN := Lib.hid hin
      have HK := Lib.hid (fun (W : World) (hb : Below W3.heap.size W3 W) => show W.cell? ⟨w.heap.size + 1, 2, none⟩ = some (.int .i64 b) by rw [hb.cell (p := ⟨w.heap.size + 1, 2, none⟩) (by have := World.block_lt_of_cell? _ _ y2; simpa using this)]; exact y2)
      have hz3 := hB3.size
      clear hB3
      go_region_held3 (fun W => W.cell? ⟨w.heap.size + 1, 2, none⟩ = some (.int .i64 b)) (first | exact y2 | assumption) (first | (go_at_call 57; refine (within_any b 0 15 _).mono ?_; rintro e w8 ⟨rfl, rfl⟩; rw [HN.out]) | (go_at_call 56; refine (arity_any ⟨#[]⟩ _ (by decide)).mono ?_; rintro e w8 ⟨rfl, hbd⟩; have hb : Below W3.heap.size W3 w8 := (Below.refl _ W3).drew.trans hbd; clear hbd; have d2 := HK.out w8 hb))
      all_goals
        go_wp2_with fail
        go_ret
        refine ⟨ret_bool ?_, by first | exact HB3.out.trans (hb.mono hz3) | exact (HB3.out.trans (hb.mono hz3)).drew⟩
        rw [Pl.standsB_send_no _ _ _ _ _ (by omega) HS.out]
        have hb0 : 0 ≤ b := by have := HN.out; unfold Pl.inB at this; simp at this; omega
        rw [show Pl.arity (⟨#[]⟩ : ByteArray).data.toList = -1 from rfl]
        simp
        omega
  · go_upto_region 29 with first
      | (with_reducible refine (within_any a 0 ((c.lits.length : Int) - 1) _).mono ?_; rintro e w3 ⟨rfl, rfl⟩; rw [HI.out])
    obtain ⟨W3, hW3⟩ : ∃ W3, (w2.alloc (.cells #[.string (Pl.opName 17), .int .i64 1, .bool true, .int .i64 (Pl.shOff 17), .int .i64 (Pl.shLays 17)] 69)).alloc (.cells #[.int .i64 y.args, .int .i64 y.copied, .int .i64 y.locals, .int .i64 y.stack, .slice Ay y.code.length capy] 58) = W3 := ⟨_, rfl⟩
    have hB3 : Below w.heap.size w W3 := by rw [← hW3]; exact (HB02.out.alloc (by omega) _).alloc (by simp; omega) _
    have hB23 : Below w2.heap.size w2 W3 := by rw [← hW3]; exact ((Below.refl _ _).alloc (Nat.le_refl _) _).alloc (by simp) _
    rw [hW3]
    clear hW3
    have y1 : W3.cell? ⟨w.heap.size + 1, 1, none⟩ = some (.int .i64 a) := by rw [hB23.cell (p := ⟨w.heap.size + 1, 1, none⟩) (by simp; omega)]; exact x1
    have y2 : W3.cell? ⟨w.heap.size + 1, 2, none⟩ = some (.int .i64 b) := by rw [hB23.cell (p := ⟨w.heap.size + 1, 2, none⟩) (by simp; omega)]; exact x2
    have y3 : W3.cell? ⟨w.heap.size, 3, none⟩ = some (.slice (some ⟨bu, ou, none⟩) c.units.length capu) := by rw [hB23.cell (p := ⟨w.heap.size, 3, none⟩) (by simp; omega)]; exact p3
    have HB3 := Lib.hid hB3
    clear hB23
    cases hin : Pl.inB b 0 15
    · have HN := Lib.hid hin
      go_quiet (first | (go_at_call 57; exact within_q HN.out _ _))
      all_goals
        go_wp2_with fail
        go_ret
        refine ⟨ret_bool ?_, drewN_below hB3 _⟩
        exact (Pl.standsB_send_no _ _ _ _ _ (by omega) HS.out).symm
    · have HN := Lib.hid hin
      have HK := Lib.hid (fun (W : World) (hb : Below W3.heap.size W3 W) => show W.cell? ⟨w.heap.size + 1, 2, none⟩ = some (.int .i64 b) by rw [hb.cell (p := ⟨w.heap.size + 1, 2, none⟩) (by have := World.block_lt_of_cell? _ _ y2; simpa using this)]; exact y2)
      have hz3 := hB3.size
      clear hB3
      go_region_held3 (fun W => W.cell? ⟨w.heap.size + 1, 2, none⟩ = some (.int .i64 b)) (first | exact y2 | assumption) (first | (go_at_call 57; refine (within_any b 0 15 _).mono ?_; rintro e w8 ⟨rfl, rfl⟩; rw [HN.out]) | (go_at_call 56; refine (arity_any ⟨#[]⟩ _ (by decide)).mono ?_; rintro e w8 ⟨rfl, hbd⟩; have hb : Below W3.heap.size W3 w8 := (Below.refl _ W3).drew.trans hbd; clear hbd; have d2 := HK.out w8 hb))
      all_goals
        go_wp2_with fail
        go_ret
        refine ⟨ret_bool ?_, by first | exact HB3.out.trans (hb.mono hz3) | exact (HB3.out.trans (hb.mono hz3)).drew⟩
        rw [Pl.standsB_send_no _ _ _ _ _ (by omega) HS.out]
        have hb0 : 0 ≤ b := by have := HN.out; unfold Pl.inB at this; simp at this; omega
        rw [show Pl.arity (⟨#[]⟩ : ByteArray).data.toList = -1 from rfl]
        simp
        omega
  · go_upto_region 37 with first
      | (with_reducible refine (within_any a 0 ((c.lits.length : Int) - 1) _).mono ?_; rintro e w3 ⟨rfl, rfl⟩; rw [HI.out])
    obtain ⟨W3, hW3⟩ : ∃ W3, (w2.alloc (.cells #[.string (Pl.opName 25), .int .i64 1, .bool true, .int .i64 (Pl.shOff 25), .int .i64 (Pl.shLays 25)] 69)).alloc (.cells #[.int .i64 y.args, .int .i64 y.copied, .int .i64 y.locals, .int .i64 y.stack, .slice Ay y.code.length capy] 58) = W3 := ⟨_, rfl⟩
    have hB3 : Below w.heap.size w W3 := by rw [← hW3]; exact (HB02.out.alloc (by omega) _).alloc (by simp; omega) _
    have hB23 : Below w2.heap.size w2 W3 := by rw [← hW3]; exact ((Below.refl _ _).alloc (Nat.le_refl _) _).alloc (by simp) _
    rw [hW3]
    clear hW3
    have y1 : W3.cell? ⟨w.heap.size + 1, 1, none⟩ = some (.int .i64 a) := by rw [hB23.cell (p := ⟨w.heap.size + 1, 1, none⟩) (by simp; omega)]; exact x1
    have y2 : W3.cell? ⟨w.heap.size + 1, 2, none⟩ = some (.int .i64 b) := by rw [hB23.cell (p := ⟨w.heap.size + 1, 2, none⟩) (by simp; omega)]; exact x2
    have y3 : W3.cell? ⟨w.heap.size, 3, none⟩ = some (.slice (some ⟨bu, ou, none⟩) c.units.length capu) := by rw [hB23.cell (p := ⟨w.heap.size, 3, none⟩) (by simp; omega)]; exact p3
    have HB3 := Lib.hid hB3
    clear hB23
    cases hin : Pl.inB a ((i : Int) + 1) ((c.units.length : Int) - 1)
    · have HN := Lib.hid hin
      go_quiet (first | (go_at_call 57; exact within_q HN.out _ _))
      all_goals
        go_wp2_with fail
        go_ret
        refine ⟨ret_bool ?_, drewN_below hB3 _⟩
        rw [Pl.standsB_block, HN.out]; rfl
    · have HN := Lib.hid hin
      unfold Pl.inB at hin
      simp only [Bool.and_eq_true, decide_eq_true_eq] at hin
      obtain ⟨hi1, hi2⟩ := hin
      obtain ⟨q, hq⟩ : ∃ q : Nat, a = q := ⟨(a).toNat, by omega⟩
      have hql : q < c.units.length := by omega
      obtain ⟨v, hv⟩ : ∃ v, c.units[q]? = some v := ⟨_, List.getElem?_eq_getElem hql⟩
      obtain ⟨f0, f1, f2, f3, f4⟩ := (HROW3.out.keep (hB3.mono hBw) HBU.out).unt hv
      have HV := Lib.hid (show (Pl.unt c.units (a).toNat).copied = v.copied by rw [show (a).toNat = q by omega]; unfold Pl.unt; rw [List.getD_eq_getElem?_getD, hv]; rfl)
      have hqI : (q : Int) < (c.units.length : Int) := by omega
      have hq0 : (0 : Int) ≤ (q : Int) := by omega
      rw [hq] at y1
      have HNQ := Lib.hid (show Pl.inB (q : Int) ((i : Int) + 1) ((c.units.length : Int) - 1) = true by rw [← hq]; exact HN.out)
      have HQ := Lib.hid hq
      clear hv hq hi1 hi2
      go_quiet (first | (go_at_call 57; exact within_q HNQ.out _ _))
      all_goals
        go_wp2_with fail
        go_ret
        refine ⟨ret_bool ?_, drewN_below hB3 _⟩
        rw [Pl.standsB_block, HN.out, HV.out, Bool.eq_iff_iff]; simp
end Go.Proofs.YtoklnpoacckbfaaGreatDoor
