/- code.formed. -/
import Derived.Test.YtoklnpoacckbfaaGreatDoorKaaw
import Derived.Test.YtoklnpoacckbfaaGreatDoorKabb
import Derived.Test.YtoklnpoacckbfaaGreatDoorKabe
import Derived.Test.YtoklnpoacckbfaaGreatDoorKaan
import Derived.Deep.RegionHeld3
import Derived.Deep.CutRange
namespace Go.Proofs.YtoklnpoacckbfaaGreatDoor
open Go.RowKit
set_option maxRecDepth 100000 in
set_option maxHeartbeats 2000000 in
theorem formed1_any {B : Nat} {c : Pl.Cod} {L U : Value} (w : World) (h : CodAt B w c L U) (hf : ¬ Pl.Form1 c) :
    Calls Tryz.prog 27 #[codV c L U] w fun e w' => e = .returned (.bool (Pl.formedB c)) ∧ Below w.heap.size w w' := by
  have HF := Lib.hid (Pl.formedB_no1 hf)
  have hcase : ((Pl.arity c.sel.data.toList < 0 ∨ 0 ≤ Pl.arity c.sel.data.toList ∧ Pl.inB c.prim 0 255 = false) ∨ 0 ≤ Pl.arity c.sel.data.toList ∧ Pl.inB c.prim 0 255 = true ∧ (255 : Int) < (c.lits.length : Int)) ∨ 0 ≤ Pl.arity c.sel.data.toList ∧ Pl.inB c.prim 0 255 = true ∧ (c.lits.length : Int) ≤ 255 ∧ Pl.inB (c.units.length : Int) 1 255 = false := by
    by_cases h1 : 0 ≤ Pl.arity c.sel.data.toList
    · by_cases h2 : Pl.in_ c.prim 0 255
      · by_cases h3 : c.lits.length ≤ 255
        · by_cases h4 : Pl.in_ (c.units.length : Int) 1 255
          · refine absurd ⟨h1, h2, h3, ?_⟩ hf
            unfold Pl.in_ at h4; omega
          · exact .inr ⟨h1, Pl.inB_true h2, by omega, Pl.inB_false h4⟩
        · exact .inl (.inr ⟨h1, Pl.inB_true h2, by omega⟩)
      · exact .inl (.inl (.inr ⟨h1, Pl.inB_false h2⟩))
    · exact .inl (.inl (.inl (by omega)))
  obtain ⟨Al, capl, Vl, rfl, _⟩ := h.l.out
  obtain ⟨Au, capu, Vu, rfl, _⟩ := h.u
  have hs := h.s
  clear hf
  unfold codV
  go_enter Tryz.func27, Tryz.ntmps27
  go_wp2_with fail
  refine (arity_any c.sel _ hs).mono ?_
  rintro e w2 ⟨rfl, hb2⟩
  have p1 : w2.cell? ⟨w.heap.size, 1, none⟩ = some (.int .i64 c.prim) := boxCells (hb2.mono (by simp)) rfl
  have p2 : w2.cell? ⟨w.heap.size, 2, none⟩ = some (.slice Al c.lits.length capl) := boxCells (hb2.mono (by simp)) rfl
  have p3 : w2.cell? ⟨w.heap.size, 3, none⟩ = some (.slice Au c.units.length capu) := boxCells (hb2.mono (by simp)) rfl
  have hb02 : Below w.heap.size w w2 := ((Below.refl _ _).alloc (Nat.le_refl _) _).trans (hb2.mono (by simp))
  have HB2 := Lib.hid hb02
  clear hb2 hb02
  rcases hcase with ((h1 | ⟨h1, h2⟩) | ⟨h1, h2, h3⟩) | ⟨h1, h2, h3, h4⟩
  · go_wp2_with fail
    go_ret
    exact ⟨ret_bool (by rw [HF.out]), HB2.out⟩
  · go_wp2_with (go_at_call 57; refine (within_any c.prim 0 255 _).mono ?_; rintro e w3 ⟨rfl, rfl⟩; rw [h2])
    go_ret
    exact ⟨ret_bool (by rw [HF.out]), HB2.out⟩
  · go_wp2_with (go_at_call 57; refine (within_any c.prim 0 255 _).mono ?_; rintro e w3 ⟨rfl, rfl⟩; rw [h2])
    go_ret
    exact ⟨ret_bool (by rw [HF.out]), HB2.out⟩
  · go_wp2_with first
      | (go_at_call 57; with_reducible refine (within_any c.prim 0 255 _).mono ?_; rintro e w3 ⟨rfl, rfl⟩; rw [h2])
      | (go_at_call 57; with_reducible refine (within_any (c.units.length : Int) 1 255 _).mono ?_; rintro e w3 ⟨rfl, rfl⟩; rw [h4])
    go_ret
    exact ⟨ret_bool (by rw [HF.out]), HB2.out⟩
set_option maxRecDepth 100000 in
set_option maxHeartbeats 2000000 in
theorem formed2_any {B : Nat} {c : Pl.Cod} {L U : Value} (w : World) (h : CodAt B w c L U) (he : ErrAt w) (hEB : 9 < B) (hf : Pl.Form1 c) (hbig : Pl.litsBig c.lits ≤ 262144) :
    Calls Tryz.prog 27 #[codV c L U] w fun e w' => e = .returned (.bool (Pl.formedB c)) ∧ Below w.heap.size w w' := by
  have HF1 := Lib.hid hf
  obtain ⟨far, fp, fnl, fnu⟩ := hf
  have h2 := Pl.inB_true fp
  have h4 := Pl.inB_true (n := (c.units.length : Int)) (lo := 1) (hi := 255) (by unfold Pl.in_; omega)
  have h3 : (c.lits.length : Int) ≤ 255 := by omega
  obtain ⟨fn0, fn1⟩ := fnu
  have hB := h.b
  obtain ⟨Al, capl, Vl, rfl, hBl, hrowl, hwl, hrl⟩ := h.l.out
  obtain ⟨Au, capu, Vu, rfl, hBu, hrowu, hwu, hru⟩ := h.u
  have hs := h.s
  unfold codV
  go_enter Tryz.func27, Tryz.ntmps27
  go_wp2_with fail
  refine (arity_any c.sel _ hs).mono ?_
  rintro e w2 ⟨rfl, hb2⟩
  have p0 : w2.cell? ⟨w.heap.size, 0, none⟩ = some (.string c.sel) := boxCells (hb2.mono (by simp)) rfl
  have p1 : w2.cell? ⟨w.heap.size, 1, none⟩ = some (.int .i64 c.prim) := boxCells (hb2.mono (by simp)) rfl
  have p2 : w2.cell? ⟨w.heap.size, 2, none⟩ = some (.slice Al c.lits.length capl) := boxCells (hb2.mono (by simp)) rfl
  have p3 : w2.cell? ⟨w.heap.size, 3, none⟩ = some (.slice Au c.units.length capu) := boxCells (hb2.mono (by simp)) rfl
  have hb02 : Below w.heap.size w w2 := ((Below.refl _ _).alloc (Nat.le_refl _) _).trans (hb2.mono (by simp))
  have hzz := hb2.size
  simp only [World.size_alloc] at hzz
  have HB2 := Lib.hid hb02
  clear hb2 hb02
  go_wp2_with first
    | (go_at_call 57; with_reducible refine (within_any c.prim 0 255 _).mono ?_; rintro e w3 ⟨rfl, rfl⟩; rw [h2])
    | (go_at_call 57; with_reducible refine (within_any (c.units.length : Int) 1 255 _).mono ?_; rintro e w3 ⟨rfl, rfl⟩; rw [h4])
  go_loopw [33] (fun iv wr => ∃ k : Nat, iv = .int .i64 k ∧ k ≤ c.lits.length ∧ (∀ i x, i < k → c.lits[i]? = some x → Pl.litErr x = 0) ∧ Below w2.heap.size w2 wr) (fun iv _ => c.lits.length - (intOf iv).toNat)
  case atStart => exact ⟨0, rfl, Nat.zero_le _, fun i _ hi => absurd hi (Nat.not_lt_zero _), Below.refl _ _⟩
  case round =>
    obtain ⟨k, rfl, hk, hall, hb⟩ := hrel
    have HALL := Lib.hid hall
    clear hall
    have hz := hb.size
    have hbw : Below w.heap.size w wr := HB2.out.trans (hb.mono (by omega))
    by_cases hlt : k < c.lits.length
    · obtain ⟨b, o, rfl, hbb⟩ := hrowl.some_of hlt
      obtain ⟨y, hy⟩ : ∃ y, c.lits[k]? = some y := ⟨_, List.getElem?_eq_getElem hlt⟩
      obtain ⟨e0, e1, e2, e3, e4⟩ := (hrowl.keep (hbw.mono hB) hBl).lit hy
      have hyw := hwl y (List.mem_of_getElem? hy)
      have hyd : Pl.litDeep y ≤ 262144 := by
        have h1 := Pl.litDeep_big y
        have h2 := Pl.litBig_mem (List.mem_of_getElem? hy)
        omega
      obtain ⟨Ay, capy, Vy, hVk, _⟩ := (hrl k y hy).out
      have CK := fun (W : World) (hW : Below wr.heap.size wr W) => checkNode_any (hrl k y hy) hB hyw W ((hbw.mono hB).trans (hW.mono (by omega))) ((he.keep hbw he.1).keep hW (by have := (he.keep hbw he.1).1; exact this)) hEB hyd
      rw [hVk] at e4 CK
      unfold nodeV at CK
      have CK := Lib.hid CK
      have HY := Lib.hid hy
      have hltI : (k : Int) < (c.lits.length : Int) := by omega
      clear hy hVk
      by_cases he0 : Pl.litErr y = 0
      · rw [he0] at CK
        have HE := Lib.hid he0
        clear he0
        go_wp2_with (go_at_call 58; refine (CK.out _ ((Below.refl _ _).alloc (Nat.le_refl _) _)).mono ?_; rintro e w4 ⟨rfl, hb4⟩)
        go_roundw
        case rel =>
          refine ⟨k + 1, by go_num, by omega, ?_, hb.trans ((((Below.refl _ _).alloc (Nat.le_refl _) _).trans (hb4.mono (by simp))).mono (by omega))⟩
          intro i x hi hx
          by_cases e : i = k
          · subst e; rw [HY.out] at hx; cases hx; exact HE.out
          · exact HALL.out i x (by omega) hx
        case measure => simp [intOf]; omega
      · have HF := Lib.hid (Pl.formedB_lit HY.out he0)
        have hne : ((Pl.litErr y : Nat) : Int) ≠ 0 := by omega
        obtain ⟨er, her⟩ : ∃ er : Int, ((Pl.litErr y : Nat) : Int) = er := ⟨_, rfl⟩
        rw [her] at CK hne
        have hnI : (er != 0) = true := by simpa using hne
        clear he0 her
        go_wp2_with (go_at_call 58; refine (CK.out _ ((Below.refl _ _).alloc (Nat.le_refl _) _)).mono ?_; rintro e w4 ⟨rfl, hb4⟩)
        go_ret
        exact ⟨ret_bool (by rw [HF.out]), hbw.trans ((((Below.refl _ _).alloc (Nat.le_refl _) _).trans (hb4.mono (by simp))).mono (by omega))⟩
    · have HLO := Lib.hid (show ∀ x ∈ c.lits, Pl.litErr x = 0 from fun x hx => by
        obtain ⟨i, hi⟩ := List.mem_iff_getElem?.1 hx
        exact HALL.out i x (by have := (List.getElem?_eq_some_iff.1 hi).1; omega) hi)
      have q3 : wr.cell? ⟨w.heap.size, 3, none⟩ = some (.slice Au c.units.length capu) := by rw [hb.cell (p := ⟨w.heap.size, 3, none⟩) (by simp; omega)]; exact p3
      have q0 : wr.cell? ⟨w.heap.size, 0, none⟩ = some (.string c.sel) := by rw [hb.cell (p := ⟨w.heap.size, 0, none⟩) (by simp; omega)]; exact p0
      clear HALL
      obtain ⟨W2, hW2⟩ : ∃ x, x = wr := ⟨wr, rfl⟩
      subst hW2
      have HBW := Lib.hid hbw
      have hnlt : (c.lits.length : Int) ≤ (k : Int) := by omega
      go_wp2_with fail
      clear hbw hb hz
      go_loopw [45] (fun iv wr => ∃ k : Nat, iv = .int .i64 k ∧ k ≤ c.units.length ∧ (∀ i x, i < k → c.units[i]? = some x → Pl.UntForm x) ∧ Below W2.heap.size W2 wr) (fun iv _ => c.units.length - (intOf iv).toNat)
      case atStart => exact ⟨0, rfl, Nat.zero_le _, fun i _ hi => absurd hi (Nat.not_lt_zero _), Below.refl _ _⟩
      case round =>
        obtain ⟨k, rfl, hk, hall, hb⟩ := hrel
        have HALL := Lib.hid hall
        clear hall
        have hz := hb.size
        have hz2 := HBW.out.size
        have hbw : Below w.heap.size w wr := HBW.out.trans (hb.mono HBW.out.size)
        have hq3b := World.block_lt_of_cell? _ _ q3
        have hq0b := World.block_lt_of_cell? _ _ q0
        have d3 : wr.cell? ⟨w.heap.size, 3, none⟩ = some (.slice Au c.units.length capu) := by rw [hb.cell (p := ⟨w.heap.size, 3, none⟩) (by simpa using hq3b)]; exact q3
        have d0 : wr.cell? ⟨w.heap.size, 0, none⟩ = some (.string c.sel) := by rw [hb.cell (p := ⟨w.heap.size, 0, none⟩) (by simpa using hq0b)]; exact q0
        by_cases hlt : k < c.units.length
        · obtain ⟨b, o, rfl, hbb⟩ := hrowu.some_of hlt
          obtain ⟨y, hy⟩ : ∃ y, c.units[k]? = some y := ⟨_, List.getElem?_eq_getElem hlt⟩
          obtain ⟨e0, e1, e2, e3, e4⟩ := (hrowu.keep (hbw.mono hB) hBu).unt hy
          obtain ⟨Ay, capy, hVk, _, hrowy, _⟩ := hru k y hy
          rw [hVk] at e4
          have hyl := hrowy.len
          have NF := Lib.hid (fun h => Pl.formedB_unt hy h)
          have HY := Lib.hid hy
          have hltI : (k : Int) < (c.units.length : Int) := by omega
          have hcase : Pl.inB y.args 0 15 = false ∨ (Pl.inB y.args 0 15 = true ∧ Pl.inB y.copied 0 63 = false) ∨ (Pl.inB y.args 0 15 = true ∧ Pl.inB y.copied 0 63 = true ∧ Pl.inB y.locals 0 63 = false) ∨
              (Pl.inB y.args 0 15 = true ∧ Pl.inB y.copied 0 63 = true ∧ Pl.inB y.locals 0 63 = true ∧ (0 ≤ y.args ∧ y.args ≤ 15) ∧ (0 ≤ y.copied ∧ y.copied ≤ 63) ∧ (0 ≤ y.locals ∧ y.locals ≤ 63) ∧
                (63 < y.args + y.copied + y.locals ∨ y.args + y.copied + y.locals ≤ 63 ∧ (Pl.inB y.stack 0 250 = false ∨ Pl.inB y.stack 0 250 = true ∧ (Pl.inB (y.code.length : Int) 1 65535 = false ∨ Pl.inB (y.code.length : Int) 1 65535 = true)))) := by
            by_cases h1 : Pl.in_ y.args 0 15
            · by_cases h2 : Pl.in_ y.copied 0 63
              · by_cases h3 : Pl.in_ y.locals 0 63
                · refine .inr (.inr (.inr ⟨Pl.inB_true h1, Pl.inB_true h2, Pl.inB_true h3, h1, h2, h3, ?_⟩))
                  by_cases h4 : y.args + y.copied + y.locals ≤ 63
                  · refine .inr ⟨h4, ?_⟩
                    cases Pl.inB y.stack 0 250
                    · exact .inl rfl
                    · refine .inr ⟨rfl, ?_⟩
                      cases Pl.inB (y.code.length : Int) 1 65535
                      · exact .inl rfl
                      · exact .inr rfl
                  · exact .inl (by omega)
                · exact .inr (.inr (.inl ⟨Pl.inB_true h1, Pl.inB_true h2, Pl.inB_false h3⟩))
              · exact .inr (.inl ⟨Pl.inB_true h1, Pl.inB_false h2⟩)
            · exact .inl (Pl.inB_false h1)
          have HNO : ∀ (n lo hi : Int), Pl.inB n lo hi = false → Pl.in_ n lo hi → False := fun _ _ _ h1 h2 => by rw [Pl.inB_true h2] at h1; cases h1
          have HYES : ∀ (n lo hi : Int), Pl.inB n lo hi = true → Pl.in_ n lo hi := fun _ _ _ h1 => Classical.byContradiction fun h2 => by rw [Pl.inB_false h2] at h1; cases h1
          have HNO := Lib.hid HNO
          have HYES := Lib.hid HYES
          have HRET := Lib.hid (show Below w.heap.size w wr from hbw)
          clear hy hVk hrowy
          rcases hcase with h1 | ⟨h1, h2⟩ | ⟨h1, h2, h3⟩ | ⟨h1, h2, h3, ⟨a0, a1⟩, ⟨c0, c1⟩, ⟨l0, l1⟩, h4 | ⟨h4, h5 | ⟨h5, h6 | h6⟩⟩⟩
          all_goals
            go_wp2_with (go_at_call 57; refine (within_any _ _ _ _).mono ?_; rintro e w3 ⟨rfl, rfl⟩; first | rw [h1] | rw [h2] | rw [h3] | rw [h5] | rw [h6])
          all_goals first
            | (go_ret
               refine ⟨ret_bool (by
                 rw [NF.out (fun hF => by
                   first
                     | exact HNO.out _ _ _ h1 hF.a
                     | exact HNO.out _ _ _ h2 hF.c
                     | exact HNO.out _ _ _ h3 hF.l
                     | exact HNO.out _ _ _ h5 hF.s
                     | exact HNO.out _ _ _ h6 (by have := hF.n; unfold Pl.in_; omega)
                     | (have := hF.f; omega))]), HRET.out.trans ((((Below.refl wr.heap.size wr).alloc (Nat.le_refl _) _)).mono HRET.out.size)⟩)
            | (go_roundw
               case rel =>
                 refine ⟨k + 1, by go_num, by omega, ?_, hb.trans (((Below.refl wr.heap.size wr).alloc (Nat.le_refl _) _).mono hz)⟩
                 intro i x hi hx
                 by_cases e : i = k
                 · subst e
                   rw [HY.out] at hx; cases hx
                   have hn6 := HYES.out _ _ _ h6
                   unfold Pl.in_ at hn6
                   exact ⟨⟨a0, a1⟩, ⟨c0, c1⟩, ⟨l0, l1⟩, h4, HYES.out _ _ _ h5, by omega, by omega⟩
                 · exact HALL.out i x (by omega) hx
               case measure => simp [intOf]; omega)
        · have HUO : ∀ u ∈ c.units, Pl.UntForm u := fun x hx => by
            obtain ⟨i, hi⟩ := List.mem_iff_getElem?.1 hx
            exact HALL.out i x (by have := (List.getElem?_eq_some_iff.1 hi).1; omega) hi
          have h0l : 0 < c.units.length := by omega
          obtain ⟨b, o, rfl, hbb⟩ := hrowu.some_of h0l
          obtain ⟨y, hy⟩ : ∃ y, c.units[0]? = some y := ⟨_, List.getElem?_eq_getElem h0l⟩
          obtain ⟨e0, e1, e2, e3, e4⟩ := (hrowu.keep (hbw.mono hB) hBu).unt hy
          simp only [Nat.zero_mul, Nat.add_zero] at e0 e1 e2 e3 e4
          have HE := Lib.hid (Pl.formedB_end HF1.out HLO.out HUO hy)
          have h0I : (0 : Int) < (c.units.length : Int) := by omega
          have hnl2 : (c.units.length : Int) ≤ (k : Int) := by omega
          have hbz : b < wr.heap.size := by omega
          have HR := Lib.hid hbw
          clear HUO hy
          go_upto_region 15 with (fail)
          have HK := Lib.hid (fun (W : World) (hW : Below wr.heap.size wr W) => show W.cell? ⟨w.heap.size, 0, none⟩ = some (.string c.sel) ∧ W.cell? ⟨w.heap.size, 3, none⟩ = some (.slice (some ⟨b, o, none⟩) c.units.length capu) ∧ W.cell? ⟨b, o, none⟩ = some (.int .i64 y.args) ∧ W.cell? ⟨b, o + 1, none⟩ = some (.int .i64 y.copied) from
            ⟨by rw [hW.cell (p := ⟨w.heap.size, 0, none⟩) (by simpa using World.block_lt_of_cell? _ _ d0)]; exact d0, by rw [hW.cell (p := ⟨w.heap.size, 3, none⟩) (by simpa using World.block_lt_of_cell? _ _ d3)]; exact d3, by rw [hW.cell (p := ⟨b, o, none⟩) (by simpa using hbz)]; exact e0, by rw [hW.cell (p := ⟨b, o + 1, none⟩) (by simpa using hbz)]; exact e1⟩)
          cases hq : (y.args == Pl.arity c.sel.data.toList)
          · have HQ := Lib.hid hq
            first
              | go_region_with (first | (go_at_call 56; refine (arity_any c.sel _ hs).mono ?_; rintro e w8 ⟨rfl, hbd⟩; have hb8 : Below wr.heap.size wr w8 := (by first | exact (Below.refl _ wr).drew.trans hbd | exact (Below.refl _ wr).trans hbd); clear hbd; obtain ⟨g0, g1, g2, g3⟩ := HK.out w8 hb8))
              | fail "region"
            all_goals
              go_wp2_with fail
              go_ret
              refine ⟨ret_bool ?_, by first | exact HR.out.trans (hb8.mono (by omega)) | exact (HR.out.trans (hb8.mono (by omega))).drew⟩
              rw [HE.out]
              have := HQ.out
              simp at this
              simp [this]
          · have HQ := Lib.hid hq
            go_region_held3 (fun W => W.cell? ⟨w.heap.size, 0, none⟩ = some (.string c.sel) ∧ W.cell? ⟨w.heap.size, 3, none⟩ = some (.slice (some ⟨b, o, none⟩) c.units.length capu) ∧ W.cell? ⟨b, o, none⟩ = some (.int .i64 y.args) ∧ W.cell? ⟨b, o + 1, none⟩ = some (.int .i64 y.copied)) (first | exact ⟨d0, d3, e0, e1⟩ | (refine ⟨?_, ?_, ?_, ?_⟩ <;> assumption)) (first | (go_at_call 56; refine (arity_any c.sel _ hs).mono ?_; rintro e w8 ⟨rfl, hbd⟩; have hb8 : Below wr.heap.size wr w8 := (by first | exact (Below.refl _ wr).drew.trans hbd | exact (Below.refl _ wr).trans hbd); clear hbd; obtain ⟨g0, g1, g2, g3⟩ := HK.out w8 hb8))
            all_goals
              go_wp2_with fail
              go_ret
              refine ⟨ret_bool ?_, by first | exact HR.out.trans (hb8.mono (by omega)) | exact (HR.out.trans (hb8.mono (by omega))).drew⟩
              rw [HE.out]
              have := HQ.out
              simp at this
              rw [show decide (y.args = Pl.arity c.sel.data.toList) = true by simpa using this, Bool.true_and, Bool.eq_iff_iff]
              simp
end Go.Proofs.YtoklnpoacckbfaaGreatDoor
