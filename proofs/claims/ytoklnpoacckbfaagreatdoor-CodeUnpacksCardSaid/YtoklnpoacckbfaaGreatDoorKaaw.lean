/- The document's formed, behind its first test. -/
import Derived.Test.YtoklnpoacckbfaaGreatDoorKaav
import Derived.Deep.CutRange
namespace Go.Proofs.YtoklnpoacckbfaaGreatDoor
open Go.RowKit
namespace Pl
theorem litBig_mem {l : List Lit} {x : Lit} (h : x ∈ l) : litBig x ≤ litsBig l := by
  induction l with
  | nil => cases h
  | cons y r ih =>
    unfold litsBig
    rcases List.mem_cons.1 h with rfl | h
    · omega
    · have := ih h; omega
theorem formedB_lit {c : Cod} {i : Nat} {x : Lit} (h : c.lits[i]? = some x) (he : litErr x ≠ 0) : formedB c = false := by
  unfold formedB; simp only [decide_eq_false_iff_not]; intro f; exact he (f.l x (List.mem_of_getElem? h))
theorem formedB_unt {c : Cod} {i : Nat} {u : Unt} (h : c.units[i]? = some u) (hf : ¬ UntForm u) : formedB c = false := by
  unfold formedB; simp only [decide_eq_false_iff_not]; intro f; exact hf (f.u u (List.mem_of_getElem? h))
theorem formedB_end {c : Cod} (h1 : Form1 c) (hl : ∀ x ∈ c.lits, litErr x = 0) (hu : ∀ u ∈ c.units, UntForm u) {u : Unt} (h : c.units[0]? = some u) :
    formedB c = (decide (u.args = arity c.sel.data.toList) && decide (u.copied = 0)) := by
  unfold formedB
  rw [Bool.eq_iff_iff]
  simp only [decide_eq_true_eq, Bool.and_eq_true]
  constructor
  · intro f; exact f.a0 u h
  · intro e
    refine ⟨h1.ar, h1.p, h1.nl, h1.nu, hl, hu, ?_⟩
    intro v hv
    rw [h] at hv; cases hv; exact e
end Pl
set_option maxRecDepth 100000 in
set_option maxHeartbeats 2000000 in
theorem rformed2_any {B : Nat} {c : Pl.Cod} {L U : Value} (w : World) (h : CodAt B w c L U) (hf : Pl.Form1 c) (hbig : Pl.litsBig c.lits ≤ 262144) :
    Calls Tryz.prog 32 #[codV c L U] w fun e w' => e = .returned (.bool (Pl.formedB c)) ∧ Below w.heap.size w w' := by
  have HF1 := Lib.hid hf
  obtain ⟨far, fp, fnl, fnu⟩ := hf
  obtain ⟨fp0, fp1⟩ := fp
  obtain ⟨fn0, fn1⟩ := fnu
  have hB := h.b
  have hlitL := h.l
  obtain ⟨Al, capl, Vl, rfl, hBl, hrowl, hwl, hrl⟩ := h.l.out
  obtain ⟨Au, capu, Vu, rfl, hBu, hrowu, hwu, hru⟩ := h.u
  have hs := h.s
  have hn0 : (0 : Int) ≤ (c.units.length : Int) - 1 := by omega
  unfold codV
  go_enter Tryz.func32, Tryz.ntmps32
  go_wp2_with fail
  refine (rarity_any c.sel _ (by omega)).mono ?_
  rintro e w2 ⟨rfl, rfl⟩
  have g1 : (1 : Int) ≤ (c.units.length : Int) := by omega
  have g2 : (c.units.length : Int) ≤ 255 := by omega
  have g3 : (c.lits.length : Int) ≤ 255 := by omega
  go_wp2_with fail
  obtain ⟨W1, hW1⟩ : ∃ W1, w.alloc (.cells #[.string c.sel, .int .i64 c.prim, .slice Al c.lits.length capl, .slice Au c.units.length capu] 25) = W1 := ⟨_, rfl⟩
  have HB1 := Lib.hid (show Below w.heap.size w (w.alloc (.cells #[.string c.sel, .int .i64 c.prim, .slice Al c.lits.length capl, .slice Au c.units.length capu] 25)) from (Below.refl _ _).alloc (Nat.le_refl _) _)
  have r2 : W1.cell? ⟨w.heap.size, 2, none⟩ = some (.slice Al c.lits.length capl) := by rw [← hW1]; simp [go_sem]
  have r3 : W1.cell? ⟨w.heap.size, 3, none⟩ = some (.slice Au c.units.length capu) := by rw [← hW1]; simp [go_sem]
  have hz1 : W1.heap.size = w.heap.size + 1 := by rw [← hW1]; simp
  rw [hW1] at HB1 ⊢
  clear hW1
  go_loopw [4] (fun iv wr => ∃ k : Nat, iv = .int .i64 k ∧ k ≤ c.lits.length ∧ (∀ i x, i < k → c.lits[i]? = some x → Pl.litErr x = 0) ∧ Below W1.heap.size W1 wr) (fun iv _ => c.lits.length - (intOf iv).toNat)
  case atStart => exact ⟨0, rfl, Nat.zero_le _, fun i _ hi => absurd hi (Nat.not_lt_zero _), Below.refl _ _⟩
  case round =>
    obtain ⟨k, rfl, hk, hall, hb⟩ := hrel
    have HALL := Lib.hid hall
    clear hall
    have c2 : wr.cell? ⟨w.heap.size, 2, none⟩ = some (.slice Al c.lits.length capl) := by rw [hb.cell (p := ⟨w.heap.size, 2, none⟩) (by simp; omega)]; exact r2
    have c3 : wr.cell? ⟨w.heap.size, 3, none⟩ = some (.slice Au c.units.length capu) := by rw [hb.cell (p := ⟨w.heap.size, 3, none⟩) (by simp; omega)]; exact r3
    have hz := hb.size
    have hbw : Below w.heap.size w wr := HB1.out.trans (hb.mono (by omega))
    by_cases hlt : k < c.lits.length
    · obtain ⟨b, o, rfl, hbb⟩ := hrowl.some_of hlt
      obtain ⟨y, hy⟩ : ∃ y, c.lits[k]? = some y := ⟨_, List.getElem?_eq_getElem hlt⟩
      obtain ⟨e0, e1, e2, e3, e4⟩ := (hrowl.keep (hbw.mono hB) hBl).lit hy
      have hyw := hwl y (List.mem_of_getElem? hy)
      have hyd : Pl.litDeep y ≤ 262144 := by
        have h1 := Pl.litDeep_big y
        have h2 := Pl.litBig_mem (List.mem_of_getElem? hy)
        omega
      obtain ⟨Ay, capy, Vy, hVk, _⟩ := (hrl k y hy).out
      have CK := rcheckNode_any (hrl k y hy) hB hyw wr (hbw.mono hB) hyd
      rw [hVk] at e4 CK
      have CK := Lib.hid CK
      have HY := Lib.hid hy
      clear hy hVk
      by_cases he : Pl.litErr y = 0
      · rw [he] at CK
        have HE := Lib.hid he
        clear he
        go_wp2_with fail
        refine CK.out.mono ?_
        rintro e w3 ⟨rfl, hb3⟩
        go_wp2_with fail
        go_roundw
        case rel =>
          refine ⟨k + 1, by go_num, by omega, ?_, hb.trans (hb3.mono (by omega))⟩
          intro i x hi hx
          by_cases e : i = k
          · subst e; rw [HY.out] at hx; cases hx; exact HE.out
          · exact HALL.out i x (by omega) hx
        case measure => simp [intOf]; omega
      · have HF := Lib.hid (Pl.formedB_lit HY.out he)
        have hne : ((Pl.litErr y : Nat) : Int) ≠ 0 := by omega
        obtain ⟨er, her⟩ : ∃ er : Int, ((Pl.litErr y : Nat) : Int) = er := ⟨_, rfl⟩
        rw [her] at CK hne
        have hnI : (er != 0) = true := by simpa using hne
        clear he her
        go_wp2_with fail
        refine CK.out.mono ?_
        rintro e w3 ⟨rfl, hb3⟩
        go_wp2_with fail
        go_ret
        exact ⟨ret_bool (by rw [HF.out]), hbw.trans (hb3.mono (by omega))⟩
    · have HLO := Lib.hid (show ∀ x ∈ c.lits, Pl.litErr x = 0 from fun x hx => by
        obtain ⟨i, hi⟩ := List.mem_iff_getElem?.1 hx
        exact HALL.out i x (by have := (List.getElem?_eq_some_iff.1 hi).1; omega) hi)
      clear HALL
      obtain ⟨W2, hW2⟩ : ∃ x, x = wr := ⟨wr, rfl⟩
      subst hW2
      have HBW := Lib.hid hbw
      go_wp2_with fail
      clear hbw hb hz
      go_loopw [6] (fun iv wr => ∃ k : Nat, iv = .int .i64 k ∧ k ≤ c.units.length ∧ (∀ i x, i < k → c.units[i]? = some x → Pl.UntForm x) ∧ Below W2.heap.size W2 wr) (fun iv _ => c.units.length - (intOf iv).toNat)
      case atStart => exact ⟨0, rfl, Nat.zero_le _, fun i _ hi => absurd hi (Nat.not_lt_zero _), Below.refl _ _⟩
      case round =>
        obtain ⟨k, rfl, hk, hall, hb⟩ := hrel
        have HALL := Lib.hid hall
        clear hall
        have d2 : wr.cell? ⟨w.heap.size, 2, none⟩ = some (.slice Al c.lits.length capl) := by rw [hb.cell (p := ⟨w.heap.size, 2, none⟩) (by have := HBW.out.size; have := (World.block_lt_of_cell? _ _ c2); simpa using this)]; exact c2
        have d3 : wr.cell? ⟨w.heap.size, 3, none⟩ = some (.slice Au c.units.length capu) := by rw [hb.cell (p := ⟨w.heap.size, 3, none⟩) (by have := (World.block_lt_of_cell? _ _ c3); simpa using this)]; exact c3
        have hz := hb.size
        have hbw : Below w.heap.size w wr := HBW.out.trans (hb.mono HBW.out.size)
        by_cases hlt : k < c.units.length
        · obtain ⟨b, o, rfl, hbb⟩ := hrowu.some_of hlt
          obtain ⟨y, hy⟩ : ∃ y, c.units[k]? = some y := ⟨_, List.getElem?_eq_getElem hlt⟩
          obtain ⟨e0, e1, e2, e3, e4⟩ := (hrowu.keep (hbw.mono hB) hBu).unt hy
          have hyw := hwu y (List.mem_of_getElem? hy)
          obtain ⟨Ay, capy, hVk, _, hrowy, _⟩ := hru k y hy
          rw [hVk] at e4
          have hyl := hrowy.len
          have NF := Lib.hid (fun h => Pl.formedB_unt hy h)
          have FR := fun a0 a1 c0 c1 l0 l1 => frame_in y a0 a1 c0 c1 l0 l1 (.slice Ay y.code.length capy)
          unfold untV at FR
          have FR := Lib.hid FR
          have HY := Lib.hid hy
          clear hy hVk hrowy
          go_wp2_with (refine (FR.out (by assumption) (by assumption) (by assumption) (by assumption) (by assumption) (by assumption) _).mono ?_; rintro e wf ⟨rfl, hbf⟩; have f3 : wf.cell? ⟨wr.heap.size, 3, none⟩ = some (.int .i64 y.stack) := boxCells (w := wr) (hbf.mono (by simp)) rfl; have f4 : wf.cell? ⟨wr.heap.size, 4, none⟩ = some (.slice Ay y.code.length capy) := boxCells (w := wr) (hbf.mono (by simp)) rfl)
          all_goals first
            | (go_ret
               refine ⟨ret_bool (by
                 rw [NF.out (fun hF => by
                   obtain ⟨⟨a0, a1⟩, ⟨c0, c1⟩, ⟨l0, l1⟩, hfr, ⟨s0, s1⟩, hn1⟩ := hF
                   try simp only [Pl.frameOf] at *
                   omega)]), ?_⟩
               first
                 | exact hbw.trans ((((Below.refl wr.heap.size wr).alloc (Nat.le_refl _) _).trans (hbf.mono (by simp))).mono hbw.size)
                 | exact hbw.trans (((Below.refl wr.heap.size wr).alloc (Nat.le_refl _) _).mono hbw.size))
            | (go_roundw
               case rel =>
                 refine ⟨k + 1, by go_num, by omega, ?_, hb.trans ((((Below.refl wr.heap.size wr).alloc (Nat.le_refl _) _).trans (hbf.mono (by simp))).mono hz)⟩
                 intro i x hi hx
                 by_cases e : i = k
                 · subst e
                   rw [HY.out] at hx; cases hx
                   try simp only [Pl.frameOf] at *
                   exact ⟨⟨by omega, by omega⟩, ⟨by omega, by omega⟩, ⟨by omega, by omega⟩, by omega, ⟨by omega, by omega⟩, by omega, by omega⟩
                 · exact HALL.out i x (by omega) hx
               case measure => simp [intOf]; omega)
        · have HUO : ∀ u ∈ c.units, Pl.UntForm u := fun x hx => by
            obtain ⟨i, hi⟩ := List.mem_iff_getElem?.1 hx
            exact HALL.out i x (by have := (List.getElem?_eq_some_iff.1 hi).1; omega) hi
          have h0l : 0 < c.units.length := by omega
          obtain ⟨b, o, rfl, hbb⟩ := hrowu.some_of h0l
          obtain ⟨y, hy⟩ : ∃ y, c.units[0]? = some y := ⟨_, List.getElem?_eq_getElem h0l⟩
          obtain ⟨e0, e1, e2, e3, e4⟩ := (hrowu.keep (hbw.mono hB) hBu).unt hy
          simp only [Nat.zero_mul, Nat.add_zero] at e0 e1 e2 e3 e4
          have HE := Lib.hid (Pl.formedB_end HF1.out HLO.out HUO hy)
          have h0I : (0 : Int) < (c.units.length : Int) := by omega
          clear HUO hy
          go_wp2_with fail
          all_goals
            go_ret
            exact ⟨ret_bool (by rw [HE.out, Bool.eq_iff_iff]; simp; try omega), hbw⟩
end Go.Proofs.YtoklnpoacckbfaaGreatDoor
