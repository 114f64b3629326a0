/- code.fits. (Printed by gen_cft.py.) -/
import Derived.Test.YtoklnpoacckbfaaGreatDoorKaan
import Derived.Test.YtoklnpoacckbfaaGreatDoorKaao
import Derived.Test.YtoklnpoacckbfaaGreatDoorKaak
import Derived.Deep.CutRange
import Derived.BigQuiet
import Derived.Deep.CutBlock
namespace Go.Proofs.YtoklnpoacckbfaaGreatDoor
open Go Go.RowKit Go.Lib
theorem info_u8 : (Tryz.prog.info? 5).map (fun i => (i.zero, i.size, i.bytes)) = some (some (.int .u8 0), 1, 1) := by kernel_rfl
/-- at the label: what is noted, what is left -/
def FitJ (y : Pl.Unt) (G P : Nat) (W1 : World) (n : Nat) (p : Value) (wr : World) : Prop :=
  ∃ (hs t : List Nat) (most : Int), Pl.Inv y.code y.stack hs (fun q => q ∈ t) most ∧ hs.count 0 + t.length ≤ n ∧ most ≤ 252 ∧ Owns wr G 3 1 p t.length (nums .i64 t) ∧
    HgtAt wr G P G y.code.length hs most ∧ p.ownBlock ≠ some G ∧ p.ownBlock ≠ some P ∧ Below G W1 wr ∧ n ≤ y.code.length
def LoopJ (y : Pl.Unt) (G P : Nat) (W1 : World) (m k : Nat) (q iv : Value) (wr : World) : Prop :=
  ∃ (hs t : List Nat) (p hN : Nat) (most : Int), iv = .int .i64 p ∧ Pl.Vis y.code y.stack p hN hs t most k ∧ most ≤ 252 ∧ Owns wr G 3 1 q t.length (nums .i64 t) ∧
    HgtAt wr G P G y.code.length hs most ∧ q.ownBlock ≠ some G ∧ q.ownBlock ≠ some P ∧ Below G W1 wr ∧ k ≤ m
def FitLab (y : Pl.Unt) (Ay : Option Addr) (capy : Nat) (w : World) (n : Nat) (a' : Act) (w' : World) : Prop :=
  ∃ (P : Nat) (p : Value), a'.defers = [] ∧ a'.tmps.size = 140 ∧ a'.tmps[0]? = some (.agg #[.int .i64 y.args, .int .i64 y.copied, .int .i64 y.locals, .int .i64 y.stack, .slice Ay y.code.length capy]) ∧ a'.tmps[1]? = some (.pointer (some ⟨w.heap.size, 0, none⟩)) ∧
    a'.tmps[3]? = some (.pointer (some ⟨P, 0, none⟩)) ∧ a'.tmps[4]? = some p ∧ FitJ y (w.heap.size + 1) P (w.alloc (.cells #[.int .i64 y.args, .int .i64 y.copied, .int .i64 y.locals, .int .i64 y.stack, .slice Ay y.code.length capy] 58)) n p w'
theorem frame140 (t : Array Value) (h : t.size = 140) : ∃ f : Nat → Value, t = #[f 0, f 1, f 2, f 3, f 4, f 5, f 6, f 7, f 8, f 9, f 10, f 11, f 12, f 13, f 14, f 15, f 16, f 17, f 18, f 19, f 20, f 21, f 22, f 23, f 24, f 25, f 26, f 27, f 28, f 29, f 30, f 31, f 32, f 33, f 34, f 35, f 36, f 37, f 38, f 39, f 40, f 41, f 42, f 43, f 44, f 45, f 46, f 47, f 48, f 49, f 50, f 51, f 52, f 53, f 54, f 55, f 56, f 57, f 58, f 59, f 60, f 61, f 62, f 63, f 64, f 65, f 66, f 67, f 68, f 69, f 70, f 71, f 72, f 73, f 74, f 75, f 76, f 77, f 78, f 79, f 80, f 81, f 82, f 83, f 84, f 85, f 86, f 87, f 88, f 89, f 90, f 91, f 92, f 93, f 94, f 95, f 96, f 97, f 98, f 99, f 100, f 101, f 102, f 103, f 104, f 105, f 106, f 107, f 108, f 109, f 110, f 111, f 112, f 113, f 114, f 115, f 116, f 117, f 118, f 119, f 120, f 121, f 122, f 123, f 124, f 125, f 126, f 127, f 128, f 129, f 130, f 131, f 132, f 133, f 134, f 135, f 136, f 137, f 138, f 139] := by
  refine ⟨fun i => t.toList.getD i undef, ?_⟩
  have h1 : t.toList = (List.range t.toList.length).map fun i => t.toList.getD i undef := by
    apply List.ext_getElem
    · simp
    · intro i h1 h2
      simp [List.getD_eq_getElem?_getD]
      rw [Array.getElem?_eq_getElem (by simpa using h1)]; rfl
  have hl : t.toList.length = 140 := by simpa using h
  rw [hl] at h1
  have h2 : ∀ f : Nat → Value, (List.range 140).map f = [f 0, f 1, f 2, f 3, f 4, f 5, f 6, f 7, f 8, f 9, f 10, f 11, f 12, f 13, f 14, f 15, f 16, f 17, f 18, f 19, f 20, f 21, f 22, f 23, f 24, f 25, f 26, f 27, f 28, f 29, f 30, f 31, f 32, f 33, f 34, f 35, f 36, f 37, f 38, f 39, f 40, f 41, f 42, f 43, f 44, f 45, f 46, f 47, f 48, f 49, f 50, f 51, f 52, f 53, f 54, f 55, f 56, f 57, f 58, f 59, f 60, f 61, f 62, f 63, f 64, f 65, f 66, f 67, f 68, f 69, f 70, f 71, f 72, f 73, f 74, f 75, f 76, f 77, f 78, f 79, f 80, f 81, f 82, f 83, f 84, f 85, f 86, f 87, f 88, f 89, f 90, f 91, f 92, f 93, f 94, f 95, f 96, f 97, f 98, f 99, f 100, f 101, f 102, f 103, f 104, f 105, f 106, f 107, f 108, f 109, f 110, f 111, f 112, f 113, f 114, f 115, f 116, f 117, f 118, f 119, f 120, f 121, f 122, f 123, f 124, f 125, f 126, f 127, f 128, f 129, f 130, f 131, f 132, f 133, f 134, f 135, f 136, f 137, f 138, f 139] := fun f => rfl
  rw [h2] at h1
  apply Array.toList_inj.1
  exact h1
theorem HgtAt.mostly {w : World} {base P G n : Nat} {hs : List Nat} {most : Int} (h : HgtAt w base P G n hs most) (M : Int) : HgtAt (w.setCell ⟨P, 1, none⟩ (.int .i64 M)) base P G n hs M := by
  have hne := h.ne
  refine ⟨?_, ?_, ?_, ?_, hne, h.bP, h.len⟩
  · rw [World.cell?_setCell_other _ _ _ _ (by simp)]; exact h.c0
  · rw [World.cell?_setCell_same' _ _ _ (by rw [h.c1]; rfl)]
  · rw [World.frozen?_setCell]; exact h.f1
  · exact h.own.elsewhere _ (by simp [Value.ownBlock]; exact fun e => hne e.symm)
theorem K8OF {We U : World} {G P n len b : Nat} {MX NW : Int} {q : Value} {xs : List Value} {o a : Value} (hs : List Nat) (h1 : HgtAt We G P G n hs MX) (h2 : Owns We G 3 1 q len xs) (h3 : Below G U We) (hq1 : q.ownBlock ≠ some G) (hq2 : q.ownBlock ≠ some P)
    (v0 : We.cell? ⟨b, 0, none⟩ = some o) (v1 : We.cell? ⟨b, 1, none⟩ = some a) (hbP : b ≠ P) (hbG : b ≠ G) (A mm : Nat) (hmm : NW = mm) (w8 : World) (hw : w8 = (We.setCell ⟨G, A, none⟩ (.int .u8 (NW + 1))).setCell ⟨P, 1, none⟩ (.int .i64 MX)) :
    HgtAt w8 G P G n (hs.set A (mm + 1)) MX ∧ Owns w8 G 3 1 q len xs ∧ Below G U w8 ∧ w8.cell? ⟨b, 0, none⟩ = some o ∧ w8.cell? ⟨b, 1, none⟩ = some a ∧ w8.heap.size = We.heap.size := by
  subst hw
  have hz : NW + 1 = ((mm + 1 : Nat) : Int) := by omega
  have hh : ∀ c, c ≠ P → c ≠ G → ((We.setCell ⟨G, A, none⟩ (.int .u8 (NW + 1))).setCell ⟨P, 1, none⟩ (.int .i64 MX)).heap[c]? = We.heap[c]? := fun c e1 e2 => two_heap _ _ e1 e2
  refine ⟨by rw [hz]; exact h1.set A (mm + 1) MX, (h2.elsewhere _ (by simpa using hq1)).elsewhere _ (by simpa using hq2), (h3.setCell (p := ⟨G, A, none⟩) (Nat.le_refl _) _).setCell (p := ⟨P, 1, none⟩) h1.bP _, ?_, ?_, by simp⟩
  · rw [World.cell?_of_block (hh b hbP hbG)]; exact v0
  · rw [World.cell?_of_block (hh b hbP hbG)]; exact v1
theorem K8OG {We U : World} {G P n len : Nat} {MX NW : Int} {q : Value} {xs : List Value} (hs : List Nat) (h1 : HgtAt We G P G n hs MX) (h2 : Owns We G 3 1 q len xs) (h3 : Below G U We) (hq1 : q.ownBlock ≠ some G) (hq2 : q.ownBlock ≠ some P)
    (A mm : Nat) (hmm : NW = mm) (w8 : World) (hw : w8 = (We.setCell ⟨G, A, none⟩ (.int .u8 (NW + 1))).setCell ⟨P, 1, none⟩ (.int .i64 MX)) :
    HgtAt w8 G P G n (hs.set A (mm + 1)) MX ∧ Owns w8 G 3 1 q len xs ∧ Below G U w8 := by
  subst hw
  have hz : NW + 1 = ((mm + 1 : Nat) : Int) := by omega
  exact ⟨by rw [hz]; exact h1.set A (mm + 1) MX, (h2.elsewhere _ (by simpa using hq1)).elsewhere _ (by simpa using hq2), (h3.setCell (p := ⟨G, A, none⟩) (Nat.le_refl _) _).setCell (p := ⟨P, 1, none⟩) h1.bP _⟩
theorem set_self {l : List Nat} {k v : Nat} (h : l[k]? = some v) : l.set k v = l := by
  apply List.ext_getElem?
  intro i
  rw [List.getElem?_set]
  by_cases e : k = i
  · subst e
    rw [if_pos rfl]
    split
    · exact h.symm
    · rename_i hn; rw [List.getElem?_eq_none (by omega)] 
  · rw [if_neg e]
set_option maxRecDepth 100000 in
set_option maxHeartbeats 8000000 in
theorem fits_any {B : Nat} (w : World) (y : Pl.Unt) (hf : Pl.UntForm y) (hok : ∀ x ∈ y.code, Pl.InsOk x) (V : Value) (hV : InssAt B w y.code V) (hBw : B ≤ w.heap.size) :
    Calls Tryz.prog 29 #[untV y V] w fun e w' => e = .returned (.bool (Pl.fitsB y)) ∧ Below w.heap.size w w' := by
  obtain ⟨i0, hi, hz0, hz1, hz2⟩ := info_parts info_int
  obtain ⟨j0, hj, hy0, hy1, hy2⟩ := info_parts info_u8
  obtain ⟨_, _, _, _, ⟨fs0, fs1⟩, fn0, fn1⟩ := hf
  obtain ⟨Ay, capy, rfl, hBy, hrowy, hwy⟩ := hV
  unfold untV
  have hlenI : (0 : Int) < (y.code.length : Int) := by omega
  go_enter Tryz.func29, Tryz.ntmps29
  refine wp_seq_k (fun K hK => ?_)
  have HK := Lib.hid hK
  clear hK
  go_wp2_with fail
  refine HK.out _ _ ?_
  clear HK
  refine wp_scope_ghost_x 0 (FitLab y Ay capy w) rfl ?pass ?first
  case first =>
    intro hX
    have HX := Lib.hid hX
    clear hX
    refine wp_seq_k (fun K hK => ?_)
    have HK := Lib.hid hK
    clear hK
    go_wp2_with (at_make; refine wpList_make_full _ rfl _ _ 66 rfl (w.heap.size + 1) 5 j0 (.int .u8 0) 1 Tryz.underlying66 hj hy0 hy1 .i64 .i64 _ _ y.code.length rfl rfl (by omega) (by omega) (by rw [hy2]; omega) (by unfold maxLen; omega) (by simp) ?_)
    intro w1 ho1 hg1
    have hO1 : Owns w1 (w.heap.size + 1) 5 1 (.slice (some ⟨w.heap.size + 1, 0, none⟩) y.code.length y.code.length) y.code.length (nums .u8 (List.replicate y.code.length 0)) := by
      have := Owns.of_row ho1
      rw [← nums_made]; exact this
    have hB1 : Below (w.heap.size + 1) (w.alloc (.cells #[.int .i64 y.args, .int .i64 y.copied, .int .i64 y.locals, .int .i64 y.stack, .slice Ay y.code.length capy] 58)) w1 := (Below.refl _ _).grown hg1 (by simp) (fun k hk => by cases hk)
    have hgb := (hO1.lt _ rfl).2
    have HO1 := Lib.hid hO1
    have HB1 := Lib.hid hB1
    clear ho1 hg1 hO1 hB1
    go_wp2_with fail
    refine HK.out _ _ ?_
    clear HK
    have hH0 : HgtAt (w1.alloc (.cells #[.slice (some ⟨w.heap.size + 1, 0, none⟩) y.code.length y.code.length, .int .i64 0] 114)) (w.heap.size + 1) w1.heap.size (w.heap.size + 1) y.code.length (List.replicate y.code.length 0) 0 :=
      ⟨by simp [go_sem], by simp [go_sem], by simp only [frozen?_alloc_cells]; simp [World.frozen?], HO1.out.alloc _, by omega, by omega, by simp⟩
    obtain ⟨W2, hW2⟩ : ∃ W2, w1.alloc (.cells #[.slice (some ⟨w.heap.size + 1, 0, none⟩) y.code.length y.code.length, .int .i64 0] 114) = W2 := ⟨_, rfl⟩
    have hB2 : Below (w.heap.size + 1) (w.alloc (.cells #[.int .i64 y.args, .int .i64 y.copied, .int .i64 y.locals, .int .i64 y.stack, .slice Ay y.code.length capy] 58)) W2 := by rw [← hW2]; exact HB1.out.alloc (by omega) _
    have hz2' : W2.heap.size = w1.heap.size + 1 := by rw [← hW2]; simp
    rw [hW2] at hH0 ⊢
    clear hW2 HO1 HB1
    have c0 := hH0.c0
    have d0 : W2.cell? ⟨w.heap.size + 1, 0, none⟩ = some (.int .u8 0) := hH0.own.cellAt (nums_at .u8 (by rw [List.getElem?_replicate, if_pos (by omega)]))
    have df : W2.frozen? ⟨w.heap.size + 1, 0, none⟩ = false := hH0.own.free (by omega)
    have HH0 := Lib.hid hH0
    have HB2 := Lib.hid hB2
    clear hH0 hB2
    refine wp_seq_k (fun K hK => ?_)
    have HK := Lib.hid hK
    clear hK
    go_wp2_with fail
    refine HK.out _ _ ?_
    clear HK
    refine wp_seq_k (fun K hK => ?_)
    have HK := Lib.hid hK
    clear hK
    go_wp2_with fail
    refine HK.out _ _ ?_
    clear HK
    refine wp_seq_k (fun K hK => ?_)
    have HK := Lib.hid hK
    clear hK
    go_wp2_with fail
    refine HK.out _ _ ?_
    clear HK
    refine wp_seq (wp_label ?_)
    refine HX.out y.code.length _ _ ⟨w1.heap.size, .slice (some ⟨w1.heap.size + 1, 0, none⟩) 1 1, rfl, rfl, rfl, rfl, rfl, rfl, (List.replicate y.code.length 0).set 0 1, [0], 0, (Pl.Inv.start fs0 (by omega)).congr (fun q => by simp), ?_, by omega, ?_, ?_, ?_, ?_, ?_, Nat.le_refl _⟩
    · have := Pl.count_set (hs := List.replicate y.code.length 0) (k := 0) (v := 1) (by simp; omega) (Pl.getD_replicate _ _) (by decide)
      simp at this ⊢; omega
    · have := Owns.made (W2.setCell ⟨w.heap.size + 1, 0, none⟩ (.int .u8 1)) (w.heap.size + 1) 3 1 #[.int .i64 0] 1 (by simp; omega) (by decide) rfl
      rw [show (W2.setCell ⟨w.heap.size + 1, 0, none⟩ (.int .u8 1)).heap.size = w1.heap.size + 1 by simp; omega] at this
      exact this
    · have h2 : HgtAt (W2.setCell ⟨w.heap.size + 1, 0, none⟩ (.int .u8 1)) (w.heap.size + 1) w1.heap.size (w.heap.size + 1) y.code.length ((List.replicate y.code.length 0).set 0 1) 0 := by
        have h := HH0.out
        have hne : w1.heap.size ≠ w.heap.size + 1 := by omega
        exact ⟨by rw [World.cell?_of_block (Below.heap_setCell _ _ _ _ (by simpa using hne))]; exact h.c0, by rw [World.cell?_of_block (Below.heap_setCell _ _ _ _ (by simpa using hne))]; exact h.c1, by rw [World.frozen?_setCell]; exact h.f1,
          by rw [← nums_set]; exact h.own.stored _, h.ne, h.bP, by rw [List.length_set]; exact h.len⟩
      exact h2.below ((Below.refl _ _).alloc (Nat.le_refl _) _) (by simp <;> omega) (by simp <;> omega)
    · simp [Value.ownBlock] <;> omega
    · simp [Value.ownBlock] <;> omega
    · exact (HB2.out.setCell (p := ⟨w.heap.size + 1, 0, none⟩) (Nat.le_refl _) _).alloc (by simp <;> omega) _
  case pass =>
    rintro n ⟨tm, df⟩ w' ⟨P, p, hdf, hts, ht0, ht1, ht3, ht4, hs, t, most, hI, hcnt, hm252, hOt, hH, hnG, hnP, hb, hgl⟩
    obtain ⟨f, rfl⟩ := frame140 tm hts
    obtain rfl : df = [] := hdf
    have e0 : f 0 = _ := Option.some.inj ht0
    have e1 : f 1 = _ := Option.some.inj ht1
    have e3 : f 3 = _ := Option.some.inj ht3
    have e4 : f 4 = _ := Option.some.inj ht4
    clear ht0 ht1 ht3 ht4 hts
    rw [e0, e1, e3, e4]
    clear e0 e1 e3 e4
    have c3 : w'.cell? ⟨w.heap.size, 3, none⟩ = some (.int .i64 y.stack) := boxCells hb rfl
    have c4 : w'.cell? ⟨w.heap.size, 4, none⟩ = some (.slice Ay y.code.length capy) := boxCells hb rfl
    have hbw : Below w.heap.size w w' := ((Below.refl _ _).alloc (Nat.le_refl _) _).trans (hb.mono (by omega))
    have hPc := hH.c0
    have hPm := hH.c1
    rcases List.eq_nil_or_concat t with rfl | ⟨t', pp, rfl⟩
    · obtain ⟨a, cc, rfl⟩ := hOt.form
      have HE := Lib.hid (Pl.fitsB_end (u := y) hI)
      clear hI
      go_upto_region 6 with (fail)
      go_quiet (fail)
      go_wp2_with fail
      all_goals
        simp only [Exit.jump]
        go_ret
        exact ⟨ret_bool (by rw [HE.out]), drewN_below hbw _⟩
    · have hI' := hI
      rw [List.concat_eq_append] at hI' hcnt hOt
      have htl : (t' ++ [pp]).length = t'.length + 1 := by simp
      rw [htl] at hOt hcnt
      obtain ⟨m, rfl⟩ : ∃ m, n = m + 1 := ⟨n - 1, by omega⟩
      have hV := hI'.pop (n := m) (by rw [htl]; exact hcnt)
      obtain ⟨g, cap, rfl, hg1, hg2, hcap⟩ := hOt.some_of (by omega)
      have ct : w'.cell? ⟨g, t'.length, none⟩ = some (.int .i64 pp) := hOt.cellAt (nums_at .i64 (by simp))
      have htlen : t'.length ≤ y.code.length := by omega
      have HV := Lib.hid hV
      have HPOP := Lib.hid (show Owns w' (w.heap.size + 1) 3 1 (.slice (some ⟨g, 0, none⟩) t'.length cap) t'.length (nums .i64 t') from Owns.pop (last := nums .i64 [pp]) (by rw [nums_length, Nat.mul_one]) (by rw [← nums_append]; exact hOt))
      have HH := Lib.hid hH
      have hgG : g ≠ w.heap.size + 1 := by intro e; subst e; exact hnG rfl
      have hgP : g ≠ P := by intro e; subst e; exact hnP rfl
      have htI : ((t'.length : Int)) < (t'.length : Int) + 1 := by omega
      have ht0 : (0 : Int) ≤ (t'.length : Int) := by omega
      have HB := Lib.hid hb
      clear hI hI' hV hOt hH hnG hnP
      go_upto_region 7 with (fail)
      go_quiet (fail)
      have HPOPQ := Lib.hid (show Owns (w'.drewN nq) (w.heap.size + 1) 3 1 (.slice (some ⟨g, 0, none⟩) t'.length cap) t'.length (nums .i64 t') from HPOP.out.heap_eq (fun _ _ => rfl))
      have HHQ := Lib.hid (HH.out.same (w' := w'.drewN nq) rfl rfl)
      have HBQ := Lib.hid (drewN_below HB.out nq)
      generalize w'.drewN nq = wq at HPOPQ HHQ HBQ ⊢
      clear ct hPc hPm c3 c4 hbw hb
      go_wp2_with fail
      have hPlt : P < wq.heap.size := by have := World.block_lt_of_cell? _ _ HHQ.out.c0; simpa using this
      go_loopg [4, 5] m (fun k q iv wr => LoopJ y (w.heap.size + 1) P (w.alloc (.cells #[.int .i64 y.args, .int .i64 y.copied, .int .i64 y.locals, .int .i64 y.stack, .slice Ay y.code.length capy] 58)) m k q iv wr)
      case atStart =>
        have hV := HV.out
        obtain ⟨hN, hhN⟩ : ∃ hN : Nat, Pl.ht hs pp = hN := ⟨(Pl.ht hs pp).toNat, by have := hV.h0; omega⟩
        rw [hhN] at hV
        exact ⟨hs, t', pp, hN, most, rfl, hV, hm252, HPOPQ.out, HHQ.out, by simp [Value.ownBlock]; exact hgG, by simp [Value.ownBlock]; exact hgP, HBQ.out, Nat.le_refl _⟩
      case round =>
        obtain ⟨hs, t, p, hN, most, rfl, hV, hm252, hOt, hH, hqG, hqP, hb, hkm⟩ := hrel
        have c4 : wr.cell? ⟨w.heap.size, 4, none⟩ = some (.slice Ay y.code.length capy) := boxCells hb rfl
        have hbw : Below w.heap.size w wr := ((Below.refl _ _).alloc (Nat.le_refl _) _).trans (hb.mono (by omega))
        have hplt := hV.lt
        have hh250 := hV.h250
        have hmle := hV.le
        obtain ⟨bc, oc, rfl, hbc⟩ := hrowy.some_of hplt
        obtain ⟨x, hx⟩ : ∃ x, y.code[p]? = some x := ⟨_, List.getElem?_eq_getElem hplt⟩
        obtain ⟨e0, e1, e2⟩ := (hrowy.keep (hbw.mono hBw) hBy).ins hx
        have hins : Pl.ins y.code p = x := by unfold Pl.ins; rw [List.getD_eq_getElem?_getD, hx]; rfl
        have hxw := hwy x (List.mem_of_getElem? hx)
        have hxo := hok x (List.mem_of_getElem? hx)
        obtain ⟨⟨xa0, xa1⟩, ⟨xb0, xb1⟩⟩ := hxo.bounds
        obtain ⟨of0, of1⟩ := Pl.off_bounds hxo
        obtain ⟨la0, la1⟩ := Pl.lays_bd x
        have hop := hxo.op
        have hpI : (p : Int) < (y.code.length : Int) := by omega
        have HV := Lib.hid hV
        have HOT := Lib.hid hOt
        have HH := Lib.hid hH
        have HINS := Lib.hid hins
        have HBR := Lib.hid hb
        have HBW := Lib.hid hbw
        have HOF := Lib.hid (of_known x.op hop)
        clear hV hOt hH hins hx hxo hxw hb hbw
        refine wp_block ?_
        refine wp_seq_k (fun K hK => ?_)
        have HK := Lib.hid hK
        clear hK
        go_wp2_with fail
        refine HK.out _ _ ?_
        clear HK
        refine wp_seq_k (fun K hK => ?_)
        have HK := Lib.hid hK
        clear hK
        go_wp2_with (go_at_call 35; refine (HOF.out _).mono ?_; rintro e w5 ⟨rfl, hb5⟩; unfold Pl.shapeV)
        refine HK.out _ _ ?_
        clear HK
        refine wp_seq_k (fun K hK => ?_)
        have HK := Lib.hid hK
        clear hK
        have hb25 : Below wr.heap.size wr w5 := ((Below.refl _ _).alloc (Nat.le_refl _) _).trans (hb5.mono (by simp))
        have hz5 := hb5.size
        rw [World.size_alloc] at hz5
        have y0 : w5.cell? ⟨wr.heap.size, 0, none⟩ = some (.int .u8 x.op) := boxCells (hb5.mono (by simp)) rfl
        have y1 : w5.cell? ⟨wr.heap.size, 1, none⟩ = some (.int .i64 x.a) := boxCells (hb5.mono (by simp)) rfl
        have y2 : w5.cell? ⟨wr.heap.size, 2, none⟩ = some (.int .i64 x.b) := boxCells (hb5.mono (by simp)) rfl
        obtain ⟨S, hS⟩ : ∃ S, w5.heap.size = S := ⟨_, rfl⟩
        obtain ⟨W6, hW6⟩ : ∃ W6, (w5.alloc (.cells #[.string (Pl.opName x.op), .int .i64 (Pl.shFirst x.op), .bool (Pl.two x.op), .int .i64 (Pl.shOff x.op), .int .i64 (Pl.shLays x.op)] 69)) = W6 := ⟨_, rfl⟩
        have s1 : W6.cell? ⟨S, 1, none⟩ = some (.int .i64 (Pl.shFirst x.op)) := by rw [← hW6, ← hS]; simp [go_sem]
        have s3 : W6.cell? ⟨S, 3, none⟩ = some (.int .i64 (Pl.shOff x.op)) := by rw [← hW6, ← hS]; simp [go_sem]
        have s4 : W6.cell? ⟨S, 4, none⟩ = some (.int .i64 (Pl.shLays x.op)) := by rw [← hW6, ← hS]; simp [go_sem]
        have sf : W6.frozen? ⟨S, 3, none⟩ = false := by rw [← hW6, ← hS]; simp only [frozen?_alloc_cells]; simp [World.frozen?]
        have hb56 : Below w5.heap.size w5 W6 := by rw [← hW6]; exact (Below.refl _ _).alloc (Nat.le_refl _) _
        have hz6 : W6.heap.size = S + 1 := by rw [← hW6, ← hS]; simp
        rw [hW6, hS]
        clear hW6
        have x0 : W6.cell? ⟨wr.heap.size, 0, none⟩ = some (.int .u8 x.op) := by rw [hb56.cell (p := ⟨wr.heap.size, 0, none⟩) (by simp; omega)]; exact y0
        have x1 : W6.cell? ⟨wr.heap.size, 1, none⟩ = some (.int .i64 x.a) := by rw [hb56.cell (p := ⟨wr.heap.size, 1, none⟩) (by simp; omega)]; exact y1
        have x2 : W6.cell? ⟨wr.heap.size, 2, none⟩ = some (.int .i64 x.b) := by rw [hb56.cell (p := ⟨wr.heap.size, 2, none⟩) (by simp; omega)]; exact y2
        have hb26 : Below wr.heap.size wr W6 := hb25.trans (hb56.mono (by omega))
        have hSr : wr.heap.size < S := by omega
        have hop2 := hop
        unfold Pl.known at hop2
        have HB26 := Lib.hid hb26
        clear hb5 hb25 hb56 hb26 y0 y1 y2 hS
        go_cut [] from 47 to 139 (fun wx => wx.cell? ⟨S, 3, none⟩ = some (.int .i64 (Pl.off x)) ∧ wx.cell? ⟨S, 1, none⟩ = some (.int .i64 (Pl.shFirst x.op)) ∧ wx.cell? ⟨S, 4, none⟩ = some (.int .i64 (Pl.shLays x.op)) ∧ (∀ b, b ≠ S → wx.heap[b]? = W6.heap[b]?) ∧ wx.heap.size = W6.heap.size ∧ Below S W6 wx)
        case first =>
          have hcls : x.op = 16 ∨ x.op = 17 ∨ x.op = 25 ∨ x.op = 24 ∨ (x.op ≠ 16 ∧ x.op ≠ 17 ∧ x.op ≠ 25 ∧ x.op ≠ 24) := by omega
          have KSET := Lib.hid (show ∀ v : Int, v = Pl.off x → (fun wx : World => wx.cell? ⟨S, 3, none⟩ = some (.int .i64 (Pl.off x)) ∧ wx.cell? ⟨S, 1, none⟩ = some (.int .i64 (Pl.shFirst x.op)) ∧ wx.cell? ⟨S, 4, none⟩ = some (.int .i64 (Pl.shLays x.op)) ∧ (∀ b, b ≠ S → wx.heap[b]? = W6.heap[b]?) ∧ wx.heap.size = W6.heap.size ∧ Below S W6 wx) (W6.setCell ⟨S, 3, none⟩ (.int .i64 v)) from fun v hv => by
            subst hv
            refine ⟨by rw [World.cell?_setCell_same' _ _ _ (by rw [s3]; rfl)], by rw [World.cell?_setCell_other _ _ _ _ (by simp)]; exact s1, by rw [World.cell?_setCell_other _ _ _ _ (by simp)]; exact s4, fun b hb => Below.heap_setCell _ _ _ _ (by simpa using hb), by simp, (Below.refl S W6).setCell (p := ⟨S, 3, none⟩) (Nat.le_refl _) _⟩)
          rcases hcls with hc | hc | hc | hc | ⟨hc1, hc2, hc3, hc4⟩
          · rw [hc] at x0 s3
            have hs : Pl.shOff 16 = 1 := rfl
            rw [hs] at s3
            go_wp2_with fail
            go_meet
            case rel => exact KSET.out _ (by unfold Pl.off; rw [if_pos (by omega)]; omega)
          · rw [hc] at x0 s3
            have hs : Pl.shOff 17 = 1 := rfl
            rw [hs] at s3
            go_wp2_with fail
            go_meet
            case rel => exact KSET.out _ (by unfold Pl.off; rw [if_pos (by omega)]; omega)
          · rw [hc] at x0 s3
            have hs : Pl.shOff 25 = 0 := rfl
            rw [hs] at s3
            go_wp2_with fail
            go_meet
            case rel => exact KSET.out _ (by unfold Pl.off; rw [if_neg (by omega), if_neg (by omega), if_pos (by omega)])
          · rw [hc] at x0
            go_wp2_with fail
            go_meet
            case rel => exact KSET.out _ (by unfold Pl.off; rw [if_neg (by omega), if_pos (by omega)])
          · have q1 : ((x.op : Int) == 16) = false := by simp; omega
            have q2 : ((x.op : Int) == 17) = false := by simp; omega
            have q3 : ((x.op : Int) == 25) = false := by simp; omega
            have q4 : ((x.op : Int) == 24) = false := by simp; omega
            go_wp2_with fail
            go_meet
            case rel =>
              refine ⟨?_, s1, s4, fun _ _ => rfl, rfl, Below.refl _ _⟩
              rw [s3]
              congr 2
              have h1 : Pl.off x = if 10 ≤ x.op ∧ x.op ≤ 15 ∨ 19 ≤ x.op ∧ x.op ≤ 22 then 1 else 0 := by unfold Pl.off; rw [if_neg (by omega), if_neg (by omega), if_neg (by omega)]
              rw [h1]
              unfold Pl.shOff
              by_cases e : 10 ≤ x.op ∧ x.op ≤ 15 ∨ 19 ≤ x.op ∧ x.op ≤ 22
              · rw [if_pos e, if_pos (by omega)]
              · rw [if_neg e, if_neg (by omega)]
        case rest =>
        refine HK.out _ _ ?_
        clear HK
        obtain ⟨t3, t1, t4, hoth, hsz6, hbS⟩ := hcut
        have hPr : P < wr.heap.size := by have := World.block_lt_of_cell? _ _ HH.out.c0; simpa using this
        have hGr : w.heap.size + 1 < wr.heap.size := (HH.out.own.lt _ rfl).2
        have hHc : HgtAt wc (w.heap.size + 1) P (w.heap.size + 1) y.code.length hs most := HH.out.same ((hoth P (by omega)).trans (HB26.out.block P hPr)) ((hoth _ (by omega)).trans (HB26.out.block _ hGr))
        have hOc : Owns wc (w.heap.size + 1) 3 1 u4 t.length (nums .i64 t) := HOT.out.heap_eq (fun b hb => by have := (HOT.out.lt b hb).2; exact (hoth b (by omega)).trans (HB26.out.block b this))
        have z0 : wc.cell? ⟨wr.heap.size, 0, none⟩ = some (.int .u8 x.op) := by rw [World.cell?_of_block (hoth wr.heap.size (by omega))]; exact x0
        have z1 : wc.cell? ⟨wr.heap.size, 1, none⟩ = some (.int .i64 x.a) := by rw [World.cell?_of_block (hoth wr.heap.size (by omega))]; exact x1
        have hbc2 := HBR.out.trans ((HB26.out.trans (hbS.mono (by omega))).mono (by omega))
        have hch : wc.cell? ⟨w.heap.size + 1, p, none⟩ = some (.int .u8 (hN + 1 : Nat)) := hHc.own.cellAt (nums_at .u8 (by have := HV.out.cell; rwa [show ((hN : Int)).toNat = hN by omega] at this))
        have hc0 := hHc.c0
        have hc1 := hHc.c1
        have hf1 := hHc.f1
        obtain ⟨OF, hOF⟩ : ∃ OF, Pl.off x = OF := ⟨_, rfl⟩
        obtain ⟨LA, hLA⟩ : ∃ LA, Pl.lays x = LA := ⟨_, rfl⟩
        have hsl : Pl.shLays x.op = LA := by
          rw [← hLA]
          unfold Pl.shLays Pl.lays
          by_cases e : x.op = 14 ∨ 18 ≤ x.op ∧ x.op ≤ 22
          · rw [if_pos (by omega), if_pos e]
          · rw [if_neg (by omega), if_neg e]
        rw [hsl] at t4
        rw [hOF] at of0 of1 t3
        rw [hLA] at la0 la1
        have HHC := Lib.hid hHc
        have HOC := Lib.hid hOc
        have HBC := Lib.hid hbc2
        have HBWC := Lib.hid (show Below w.heap.size w wc from ((Below.refl _ _).alloc (Nat.le_refl _) _).trans (hbc2.mono (by omega)))
        have hzc : wr.heap.size + 1 < wc.heap.size := by omega
        clear hHc hOc hbc2 hoth hbS x0 x1 x2 s1 s3 s4 sf e0 e1 e2 c4 hsl
        go_upto_region 17 with (fail)
        go_quiet (fail)
        have HHC := Lib.hid (HHC.out.same (w' := wc.drewN nq) rfl rfl)
        have HOC := Lib.hid (HOC.out.heap_eq (w' := wc.drewN nq) (fun _ _ => rfl))
        have HBC := Lib.hid (drewN_below HBC.out nq)
        have HBWC := Lib.hid (drewN_below HBWC.out nq)
        have z0 : (wc.drewN nq).cell? ⟨wr.heap.size, 0, none⟩ = some (.int .u8 x.op) := z0
        have z1 : (wc.drewN nq).cell? ⟨wr.heap.size, 1, none⟩ = some (.int .i64 x.a) := z1
        have t1 : (wc.drewN nq).cell? ⟨S, 1, none⟩ = some (.int .i64 (Pl.shFirst x.op)) := t1
        have t4 : (wc.drewN nq).cell? ⟨S, 4, none⟩ = some (.int .i64 LA) := t4
        have hc1 : (wc.drewN nq).cell? ⟨P, 1, none⟩ = some (.int .i64 most) := hc1
        have hf1 : (wc.drewN nq).frozen? ⟨P, 1, none⟩ = false := hf1
        have hzc : wr.heap.size + 1 < (wc.drewN nq).heap.size := hzc
        generalize wc.drewN nq = wd at HHC HOC HBC HBWC z0 z1 t1 t4 hc1 hf1 hzc ⊢
        have HLOW := Lib.hid (fun h => Pl.fitsB_no (u := y) (HV.out.low h))
        by_cases hlow : (hN : Int) < OF
        · have HB := Lib.hid (HLOW.out (by rw [HINS.out, hOF]; exact hlow))
          clear hOF hLA
          go_wp2_with fail
          simp only [Exit.jump]
          go_ret
          exact ⟨ret_bool (by rw [HB.out]), HBWC.out⟩
        · have hlow' : Pl.off x ≤ hN := by rw [hOF]; omega
          have hlow2 : OF ≤ (hN : Int) := by omega
          obtain ⟨NW, hNW⟩ : ∃ NW : Int, (hN : Int) - OF + LA = NW := ⟨_, rfl⟩
          have nw0 : 0 ≤ NW := by omega
          have nw2 : NW ≤ 252 := by omega
          have HNOW := Lib.hid (show Pl.now y.code p hN = NW by unfold Pl.now; rw [HINS.out, hOF, hLA, hNW])
          have HVM := Lib.hid (show Pl.Vis y.code y.stack p hN hs t (max most NW) gk by have := HV.out.raise; rwa [HNOW.out] at this)
          clear hOF hLA
          go_upto_if 104 with (fail)
          have HHE := Lib.hid (HHC.out.mostly (max most NW))
          have HOE := Lib.hid (HOC.out.elsewhere (a := ⟨P, 1, none⟩) (.int .i64 (max most NW)) hqP)
          have HBE := Lib.hid (HBC.out.setCell (p := ⟨P, 1, none⟩) HHC.out.bP (.int .i64 (max most NW)))
          have hbWe : Below w.heap.size w (wd.setCell ⟨P, 1, none⟩ (.int .i64 (max most NW))) := HBWC.out.setCell (p := ⟨P, 1, none⟩) (by have := HHC.out.bP; simp; omega) _
          have HBWE := Lib.hid hbWe
          have v0 : (wd.setCell ⟨P, 1, none⟩ (.int .i64 (max most NW))).cell? ⟨wr.heap.size, 0, none⟩ = some (.int .u8 x.op) := by rw [World.cell?_of_block (Below.heap_setCell _ _ _ _ (by simp; omega))]; exact z0
          have v1 : (wd.setCell ⟨P, 1, none⟩ (.int .i64 (max most NW))).cell? ⟨wr.heap.size, 1, none⟩ = some (.int .i64 x.a) := by rw [World.cell?_of_block (Below.heap_setCell _ _ _ _ (by simp; omega))]; exact z1
          have hzE : (wd.setCell ⟨P, 1, none⟩ (.int .i64 (max most NW))).heap.size = wd.heap.size := by simp
          generalize wd.setCell ⟨P, 1, none⟩ (.int .i64 (max most NW)) = We at HHE HOE HBE HBWE v0 v1 hzE ⊢
          obtain ⟨A, hA⟩ : ∃ A : Nat, x.a = A := ⟨x.a.toNat, by omega⟩
          rw [hA] at v1
          have HA := Lib.hid hA
          have HFO := Lib.hid (show ∀ k, Pl.Follows y.code p k ↔ (Pl.GoesOn x ∧ k = p + 1 ∨ Pl.Jumps x ∧ k = A) from fun k => by unfold Pl.Follows; rw [HINS.out, hA]; simp)
          obtain ⟨MX, hMX⟩ : ∃ MX, max most NW = MX := ⟨_, rfl⟩
          have hmx1 : NW ≤ MX := by rw [← hMX]; exact Int.le_max_right _ _
          have hmx2 : MX ≤ 252 := by rw [← hMX]; rcases Int.le_total most NW with e | e; · rw [Int.max_eq_right e]; omega
                                     · rw [Int.max_eq_left e]; omega
          have hmx3 : max MX NW = MX := Int.max_eq_left hmx1
          rw [hMX] at HHE HVM
          clear hA z0 z1 t1 t4 hc1 hf1 hMX hbWe
          go_cut [4] from 47 to 139 (fun q wx => ∃ hs' t' : List Nat, Pl.Vis y.code y.stack p hN hs' t' MX gk ∧ (Pl.Jumps x → Pl.Come y.code p hN hs' A) ∧ Owns wx (w.heap.size + 1) 3 1 q t'.length (nums .i64 t') ∧ HgtAt wx (w.heap.size + 1) P (w.heap.size + 1) y.code.length hs' MX ∧
              q.ownBlock ≠ some (w.heap.size + 1) ∧ q.ownBlock ≠ some P ∧ Below (w.heap.size + 1) (w.alloc (.cells #[.int .i64 y.args, .int .i64 y.copied, .int .i64 y.locals, .int .i64 y.stack, .slice (some ⟨bc, oc, none⟩) y.code.length capy] 58)) wx ∧ wx.cell? ⟨wr.heap.size, 0, none⟩ = some (.int .u8 x.op) ∧ wr.heap.size + 1 < wx.heap.size)
          case first =>
            by_cases hj : Pl.Jumps x
            · have hF2 : (Pl.shFirst x.op == 2) = true := by
                unfold Pl.Jumps at hj
                unfold Pl.shFirst Pl.bytesA
                rw [if_neg (by omega), if_pos (by omega)]
                rfl
              have hfol : Pl.Follows y.code p A := (HFO.out A).2 (.inr ⟨hj, rfl⟩)
              have hhl : hs.length = y.code.length := HVM.out.len
              have hv251 : hs.getD A 0 ≤ 251 := HVM.out.inv.small A
              have hcnt3 := HVM.out.cnt
              have HWE := Lib.hid (show w.heap.size + 1 < We.heap.size by omega)
              obtain ⟨qa, qc, hqf⟩ := HOE.out.form
              subst hqf
              by_cases hbad : y.code.length ≤ A ∨ 250 < NW ∨ hs.getD A 0 ≠ 0 ∧ (hs.getD A 0 : Int) ≠ NW + 1
              · have CB := Lib.hid (come_bad HHE.out A NW nw0 (by omega) hv251 hbad)
                have NF := Lib.hid (Pl.fitsB_no (u := y) (HVM.out.bad hfol (by rw [HNOW.out]; exact hbad)))
                clear hbad
                go_wp2_with (go_at_call 61; refine CB.out.mono ?_; rintro e w8 ⟨rfl, rfl⟩)
                simp only [Exit.jump]
                go_ret
                exact ⟨ret_bool (by rw [NF.out]), HBWE.out⟩
              · have hAlt : A < y.code.length := by omega
                have hNle : NW ≤ 250 := by omega
                obtain ⟨v, hv⟩ : ∃ v, hs[A]? = some v := ⟨_, List.getElem?_eq_getElem (by omega)⟩
                have hgd : hs.getD A 0 = v := by rw [List.getD_eq_getElem?_getD, hv]; rfl
                rw [hgd] at hv251 hbad
                have hok2 : v = 0 ∨ (v : Int) = NW + 1 := by omega
                have CO := Lib.hid (come_ok HHE.out A NW nw0 hNle hAlt v hv hv251 hok2)
                obtain ⟨mm, hmm⟩ : ∃ mm : Nat, NW = mm := ⟨NW.toNat, by omega⟩
                have K8 := Lib.hid (K8OF hs HHE.out HOE.out HBE.out hqG hqP v0 v1 (by omega) (by omega) A mm hmm)
                clear hbad
                rcases hok2 with rfl | hok2
                · obtain ⟨hV2, hkeep, hset, hht⟩ := HVM.out.new hfol hAlt (by rw [HNOW.out]; exact hNle) (by rw [HNOW.out]; exact hmx1) (by rw [HNOW.out]; exact nw0) hgd
                  rw [HNOW.out, hmm, show ((mm : Int)).toNat + 1 = mm + 1 by omega] at hV2 hkeep hset hht
                  have HV2 := Lib.hid hV2
                  have HC2 := Lib.hid (show Pl.Come y.code p hN (hs.set A (mm + 1)) A from ⟨hAlt, by rw [HNOW.out]; exact hNle, hset, by rw [HNOW.out, hmm]; exact hht⟩)
                  clear hV2 hkeep hset hht hv hgd hmm
                  go_wp2_with first
                    | (go_at_call 61; refine CO.out.mono ?_; rintro e w8 ⟨rfl, hw8⟩; rw [hmx3] at hw8; obtain ⟨k1, k2, k3, k4, k5, k6⟩ := K8.out w8 hw8; have K1 := Lib.hid k1; have K2 := Lib.hid k2; have K3 := Lib.hid k3; have h8w : w.heap.size + 1 < w8.heap.size := (by rw [k6]; exact HWE.out); have K6 := Lib.hid k6; clear hw8 k1 k2 k3 k6)
                    | (at_builtin; refine wpList_append_owns rfl (.tmp 116) (.tmp 119) 115 rfl (w.heap.size + 1) 3 i0 (.int .i64 0) 1 8 Tryz.underlying115 hi hz0 hz1 hz2 rfl _ _ _ rfl (K2.out.alloc _) ⟨w8.heap.size, 0, none⟩ 1 1 [.int .i64 (A : Nat)] rfl rfl (one_new _ _ _) (by intro u hu; simp at hu; subst hu; rfl) (by unfold maxLen; first | omega | (simp; done) | (simp; omega)) (by first | omega | (simp; done) | (simp; omega)) (by first | omega | (simp; done) | (simp; omega)) ?_)
                  intro N2 w9 hN2o hN2g
                  have k6 := K6.out
                  have hz9 := hN2g.1.size
                  simp at hz9
                  have HN2O := Lib.hid hN2o
                  have hb9 : Below w8.heap.size w8 w9 ∨ True := .inr trivial
                  have hnb : ∀ b, (Value.slice qa t.length qc).ownBlock ≠ some b → b < w8.heap.size → N2.ownBlock ≠ some b := by
                    intro b h1 h2 h3
                    rcases hN2g.2 with e | e
                    · rw [e] at h3; exact h1 h3
                    · have := e b h3; simp at this; omega
                  have hrows : ∀ b, (Value.slice qa t.length qc).ownBlock ≠ some b → b < w8.heap.size → w9.heap[b]? = w8.heap[b]? := by
                    intro b h1 h2
                    rw [hN2g.1.block b (by simp; omega) (fun e => h1 e.symm)]
                    exact Below.heap_alloc _ _ _ h2
                  have hB9 := hN2g.below (K3.out.alloc (by omega) (.cells #[.int .i64 (A : Nat)] 3)) (by simp; omega) (fun b hb => (K2.out.lt b hb).1)
                  have hH9 := K1.out.same (hrows P hqP (by omega)) (hrows (w.heap.size + 1) hqG (by omega))
                  have HB9 := Lib.hid hB9
                  have HH9 := Lib.hid hH9
                  have HNB := Lib.hid hnb
                  have HRW := Lib.hid hrows
                  obtain ⟨a2, c2x, rfl⟩ := hN2o.form
                  clear hN2o hN2g hb9 hnb hrows hB9 hH9 k6
                  go_wp2_with fail
                  go_meet
                  case rel =>
                    have k6 := K6.out
                    refine ⟨hs.set A (mm + 1), t ++ [A], HV2.out, fun _ => HC2.out, by rw [List.length_append, nums_append]; exact HN2O.out, HH9.out, HNB.out _ hqG (by omega), HNB.out _ hqP (by omega), HB9.out, ?_, by omega⟩
                    by_cases e : (Value.slice qa t.length qc).ownBlock = some wr.heap.size
                    · have := (HOT.out.lt wr.heap.size e).2; omega
                    · rw [World.cell?_of_block (HRW.out wr.heap.size e (by omega))]; exact k4
                · have hvz : (v == 0) = false := by simp; omega
                  have hse : hs.set A (mm + 1) = hs := set_self (by rw [hv]; congr 1; omega)
                  rw [hse] at K8
                  have HC2 := Lib.hid (show Pl.Come y.code p hN hs A from Pl.Come.old hAlt (by rw [HNOW.out]; exact hNle) (by rw [hgd]; omega) (by rw [hgd, HNOW.out]; exact hok2))
                  rw [hvz] at CO
                  clear hv hgd hmm hok2
                  go_wp2_with (go_at_call 61; refine CO.out.mono ?_; rintro e w8 ⟨rfl, hw8⟩; rw [hmx3] at hw8; obtain ⟨k1, k2, k3, k4, k5, k6⟩ := K8.out w8 hw8; have K1 := Lib.hid k1; have K2 := Lib.hid k2; have K3 := Lib.hid k3; have h8w : w.heap.size + 1 < w8.heap.size := (by rw [k6]; exact HWE.out); have K6 := Lib.hid k6; clear hw8 k1 k2 k3 k6)
                  go_meet
                  case rel => exact ⟨hs, t, HVM.out, fun _ => HC2.out, K2.out, K1.out, hqG, hqP, K3.out, k4, by have := K6.out; omega⟩
            · have hF2 : (Pl.shFirst x.op == 2) = false := by
                unfold Pl.Jumps at hj
                unfold Pl.shFirst Pl.bytesA
                rw [if_neg (by omega), if_neg (by omega)]
                split <;> rfl
              go_wp2_with fail
              go_meet
              case rel => exact ⟨hs, t, HVM.out, fun h => absurd h hj, HOE.out, HHE.out, hqG, hqP, HBE.out, v0, by omega⟩
          case rest =>
          obtain ⟨hs2, t2, hV2, hcJ, hO2, hH2, hq1, hq2, hb2, y0, hz2⟩ := hcut
          have hcnt4 := hV2.cnt
          obtain ⟨qa, qc, rfl⟩ := hO2.form
          have HV3 := Lib.hid hV2
          have HO3 := Lib.hid hO2
          have HH3 := Lib.hid hH2
          have HB3 := Lib.hid hb2
          have HCJ := Lib.hid hcJ
          have HBW3 := Lib.hid (show Below w.heap.size w wc from ((Below.refl _ _).alloc (Nat.le_refl _) _).trans (hb2.mono (by omega)))
          have HQ1 := Lib.hid hq1
          have HQ2 := Lib.hid hq2
          have hop3 := hop
          unfold Pl.known at hop3
          have HDN := Lib.hid (fun (hall : ∀ k, Pl.Follows y.code p k → Pl.Come y.code p hN hs2 k) => hV2.done (by rw [HINS.out]; exact hlow') (by rw [HNOW.out]; exact hmx1) hall)
          clear hV2 hO2 hH2 hb2 hcJ hq1 hq2 HVM HHE HOE HBE HHC HOC HBC hqG hqP
          by_cases hg : Pl.GoesOn x
          · have hg2 := hg
            unfold Pl.GoesOn at hg2
            have q1 : ((x.op : Int) == 18) = false := by simp; omega
            have q2 : ((x.op : Int) == 21) = false := by simp; omega
            have q3 : ((x.op : Int) == 22) = false := by simp; omega
            have hfol : Pl.Follows y.code p (p + 1) := (HFO.out _).2 (.inl ⟨hg, rfl⟩)
            have hhl : hs2.length = y.code.length := HV3.out.len
            have hv251 : hs2.getD (p + 1) 0 ≤ 251 := HV3.out.inv.small (p + 1)
            have hcast : ((p + 1 : Nat) : Int) = (p : Int) + 1 := by omega
            by_cases hbad : y.code.length ≤ p + 1 ∨ 250 < NW ∨ hs2.getD (p + 1) 0 ≠ 0 ∧ (hs2.getD (p + 1) 0 : Int) ≠ NW + 1
            · have CB := come_bad HH3.out (p + 1) NW nw0 (by omega) hv251 hbad
              rw [hcast] at CB
              have CB := Lib.hid CB
              have NF := Lib.hid (Pl.fitsB_no (u := y) (HV3.out.bad hfol (by rw [HNOW.out]; exact hbad)))
              clear hbad hcast
              go_wp2_with (go_at_call 61; refine CB.out.mono ?_; rintro e w8 ⟨rfl, rfl⟩)
              simp only [Exit.jump]
              go_ret
              exact ⟨ret_bool (by rw [NF.out]), HBW3.out⟩
            · have hAlt : p + 1 < y.code.length := by omega
              have hNle : NW ≤ 250 := by omega
              obtain ⟨v, hv⟩ : ∃ v, hs2[p + 1]? = some v := ⟨_, List.getElem?_eq_getElem (by omega)⟩
              have hgd : hs2.getD (p + 1) 0 = v := by rw [List.getD_eq_getElem?_getD, hv]; rfl
              rw [hgd] at hv251 hbad
              have hok2 : v = 0 ∨ (v : Int) = NW + 1 := by omega
              have CO := come_ok HH3.out (p + 1) NW nw0 hNle hAlt v hv hv251 hok2
              rw [hcast] at CO
              obtain ⟨mm, hmm⟩ : ∃ mm : Nat, NW = mm := ⟨NW.toNat, by omega⟩
              have K8 := Lib.hid (K8OG hs2 HH3.out HO3.out HB3.out HQ1.out HQ2.out (p + 1) mm hmm)
              clear hbad
              rcases hok2 with rfl | hok2
              · obtain ⟨hV4, hkeep, hset, hht⟩ := HV3.out.new hfol hAlt (by rw [HNOW.out]; exact hNle) (by rw [HNOW.out]; exact hmx1) (by rw [HNOW.out]; exact nw0) hgd
                rw [HNOW.out, hmm, show ((mm : Int)).toNat + 1 = mm + 1 by omega] at hV4 hkeep hset hht
                obtain ⟨hgk, hV5⟩ := hV4.step (by rw [HINS.out]; exact hlow') (by rw [HNOW.out]; exact hmx1) (fun k hk => by
                  rcases (HFO.out k).1 hk with ⟨_, rfl⟩ | ⟨hj, rfl⟩
                  · exact ⟨hAlt, by rw [HNOW.out]; exact hNle, hset, by rw [HNOW.out, hmm]; exact hht⟩
                  · exact (HCJ.out hj).keep hkeep) (by rw [HNOW.out, hmm]; exact hht)
                rw [HNOW.out, hmm] at hV5
                have HV5 := Lib.hid hV5
                have CO := Lib.hid CO
                clear hV4 hV5 hkeep hset hht hv hgd hmm hcast
                go_wp2_with (go_at_call 61; refine CO.out.mono ?_; rintro e w8 ⟨rfl, hw8⟩; rw [hmx3] at hw8; obtain ⟨k1, k2, k3⟩ := K8.out w8 hw8; have K1 := Lib.hid k1; have K2 := Lib.hid k2; have K3 := Lib.hid k3; clear hw8 k1 k2 k3)
                go_roundg (gk - 1)
                case measure => omega
                case rel => exact ⟨hs2.set (p + 1) (mm + 1), t2, p + 1, mm, MX, by congr 1, HV5.out, hmx2, K2.out, K1.out, HQ1.out, HQ2.out, K3.out, by omega⟩
              · have hvz : (v == 0) = false := by simp; omega
                have hse : hs2.set (p + 1) (mm + 1) = hs2 := set_self (by rw [hv]; congr 1; omega)
                rw [hse] at K8
                have HD := Lib.hid (HDN.out (fun k hk => by
                  rcases (HFO.out k).1 hk with ⟨_, rfl⟩ | ⟨hj, rfl⟩
                  · exact Pl.Come.old hAlt (by rw [HNOW.out]; exact hNle) (by rw [hgd]; omega) (by rw [hgd, HNOW.out]; exact hok2)
                  · exact HCJ.out hj))
                rw [hvz] at CO
                have CO := Lib.hid CO
                clear hv hgd hmm hok2 hcast
                go_wp2_with (go_at_call 61; refine CO.out.mono ?_; rintro e w8 ⟨rfl, hw8⟩; rw [hmx3] at hw8; obtain ⟨k1, k2, k3⟩ := K8.out w8 hw8; have K1 := Lib.hid k1; have K2 := Lib.hid k2; have K3 := Lib.hid k3; clear hw8 k1 k2 k3)
                (try go_step3)
                (try simp only [Exit.jump])
                refine ⟨rfl, gk, by omega, P, .slice qa t2.length qc, rfl, rfl, rfl, rfl, rfl, rfl, hs2, t2, MX, HD.out, hcnt4, hmx2, K2.out, K1.out, HQ1.out, HQ2.out, K3.out, by omega⟩
          · have HD := Lib.hid (HDN.out (fun k hk => by
              rcases (HFO.out k).1 hk with ⟨h1, _⟩ | ⟨hj, rfl⟩
              · exact absurd h1 hg
              · exact HCJ.out hj))
            have hcg : x.op = 18 ∨ x.op = 21 ∨ x.op = 22 := by unfold Pl.GoesOn at hg; omega
            rcases hcg with hc | hc | hc
            all_goals
              rw [hc] at y0
              go_wp2_with fail
              (try go_step3)
              (try simp only [Exit.jump])
              refine ⟨rfl, gk, by omega, P, .slice qa t2.length qc, rfl, rfl, rfl, rfl, rfl, rfl, hs2, t2, MX, HD.out, hcnt4, hmx2, HO3.out, HH3.out, HQ1.out, HQ2.out, HB3.out, by omega⟩
end Go.Proofs.YtoklnpoacckbfaaGreatDoor
