/- The document's book of lists: SameFiles, Files, Own. -/
import Derived.Test.YtidflgagcamdpaaU
import Derived.Test.YtidflgagcamdpaaOne2
namespace Go.Proofs.Ytidflgagcamdpaa
open Go.RowKit Go.Lib
set_option maxHeartbeats 1000000 in
theorem samefiles_any (B1 B2 : Nat) (v1 v2 : Value) (fs : List Fl) (w : World) (h1 : Owns w B1 60 2 v1 fs.length (fcells fs)) (h2 : Owns w B2 60 2 v2 fs.length (fcells fs)) (hl : fs.length ≤ 33554431) :
    Calls Try.prog 23 #[v1, v2] w fun e w' => e = .returned (.bool true) ∧ ∃ n, w' = w.drewN n := by
  obtain ⟨a1, c1, rfl⟩ := h1.form
  obtain ⟨a2, c2, rfl⟩ := h2.form
  have H1 := Lib.hid h1
  have H2 := Lib.hid h2
  have hne : ((fs.length : Int) != (fs.length : Int)) = false := by simp
  clear h1 h2
  go_enter Try.func23, Try.ntmps23
  go_wp2
  go_loopw [5] (fun i wr => ∃ k : Nat, k ≤ fs.length ∧ i = .int .i64 k ∧ ∃ n, wr = w.drewN n) (fun i _ => fs.length - (intOf i).toNat)
  case atStart => exact ⟨0, Nat.zero_le _, rfl, 0, rfl⟩
  case round =>
    obtain ⟨k, hk, rfl, n, hW⟩ := hrel
    have HW := Lib.hid hW
    by_cases hlt : k < fs.length
    · obtain ⟨g1, d1, e1, q1, q2⟩ := H1.out.file hlt
      obtain ⟨g2, d2, e2, q3, q4⟩ := H2.out.file hlt
      injection e1 with e1 _ e1'
      injection e2 with e2 _ e2'
      subst e1 e1' e2 e2'
      have p1 : wr.cell? ⟨g1, k * 2, none⟩ = some (.string (bs fs[k].1)) := by rw [hW]; exact q1
      have p2 : wr.cell? ⟨g1, k * 2 + 1, none⟩ = some (.string (bs fs[k].2)) := by rw [hW]; exact q2
      have p3 : wr.cell? ⟨g2, k * 2, none⟩ = some (.string (bs fs[k].1)) := by rw [hW]; exact q3
      have p4 : wr.cell? ⟨g2, k * 2 + 1, none⟩ = some (.string (bs fs[k].2)) := by rw [hW]; exact q4
      clear q1 q2 q3 q4 hW
      generalize fs[k] = f at p1 p2 p3 p4
      have hki : (k : Int) < (fs.length : Int) := by omega
      go_wp2_with fail
      go_quiet (fail)
      go_wp2
      go_roundw
      case rel => exact ⟨k + 1, by omega, by go_num, _, by rw [HW.out, World.drewN_drewN]⟩
      case measure => simp [intOf]; omega
    · clear hW
      go_wp2
      go_ret
      exact ⟨rfl, _, HW.out⟩
set_option maxRecDepth 100000 in
theorem ownnil36 (w : World) : Calls Try.prog 36 #[.slice none 0 0] w fun e w' => e = .returned (.bool true) ∧ w = w' := by
  go_enter Try.func36, Try.ntmps36
  go_wp2
  refine wp_loop_rounds 1 ?_
  rw [rounds_succ]
  go_wp2
  refine wp_loop_rounds 1 ?_
  rw [rounds_succ]
  go_wp2
  refine wp_loop_rounds 1 ?_
  rw [rounds_succ]
  go_wp2
  go_ret
  exact ⟨rfl, rfl⟩
set_option maxRecDepth 100000 in
theorem ownnil37 (w : World) : Calls Try.prog 37 #[.slice none 0 0] w fun e w' => e = .returned (.bool true) ∧ w = w' := by
  go_enter Try.func37, Try.ntmps37
  go_wp2
  refine wp_loop_rounds 1 ?_
  rw [rounds_succ]
  go_wp2
  refine wp_loop_rounds 1 ?_
  rw [rounds_succ]
  go_wp2
  refine wp_loop_rounds 1 ?_
  rw [rounds_succ]
  go_wp2
  go_ret
  exact ⟨rfl, rfl⟩
set_option maxRecDepth 100000 in
theorem ownnil38 (w : World) : Calls Try.prog 38 #[.slice none 0 0] w fun e w' => e = .returned (.bool true) ∧ w = w' := by
  go_enter Try.func38, Try.ntmps38
  go_wp2
  refine wp_loop_rounds 1 ?_
  rw [rounds_succ]
  go_wp2
  refine wp_loop_rounds 1 ?_
  rw [rounds_succ]
  go_wp2
  refine wp_loop_rounds 1 ?_
  rw [rounds_succ]
  go_wp2
  go_ret
  exact ⟨rfl, rfl⟩
set_option maxRecDepth 100000 in
theorem ownnil39 (w : World) : Calls Try.prog 39 #[.slice none 0 0] w fun e w' => e = .returned (.bool true) ∧ w = w' := by
  go_enter Try.func39, Try.ntmps39
  go_wp2
  refine wp_loop_rounds 1 ?_
  rw [rounds_succ]
  go_wp2
  refine wp_loop_rounds 1 ?_
  rw [rounds_succ]
  go_wp2
  refine wp_loop_rounds 1 ?_
  rw [rounds_succ]
  go_wp2
  go_ret
  exact ⟨rfl, rfl⟩
set_option maxRecDepth 100000 in
theorem ownnil41 (w : World) : Calls Try.prog 41 #[.slice none 0 0] w fun e w' => e = .returned (.bool true) ∧ w = w' := by
  go_enter Try.func41, Try.ntmps41
  go_wp2
  refine wp_loop_rounds 1 ?_
  rw [rounds_succ]
  go_wp2
  refine wp_loop_rounds 1 ?_
  rw [rounds_succ]
  go_wp2
  refine wp_loop_rounds 1 ?_
  rw [rounds_succ]
  go_wp2
  go_ret
  exact ⟨rfl, rfl⟩
set_option maxRecDepth 100000 in
theorem ownnil42 (w : World) : Calls Try.prog 42 #[.slice none 0 0] w fun e w' => e = .returned (.bool true) ∧ w = w' := by
  go_enter Try.func42, Try.ntmps42
  go_wp2
  refine wp_loop_rounds 1 ?_
  rw [rounds_succ]
  go_wp2
  refine wp_loop_rounds 1 ?_
  rw [rounds_succ]
  go_wp2
  refine wp_loop_rounds 1 ?_
  rw [rounds_succ]
  go_wp2
  go_ret
  exact ⟨rfl, rfl⟩
set_option maxRecDepth 100000 in
theorem ownnil43 (w : World) : Calls Try.prog 43 #[.slice none 0 0] w fun e w' => e = .returned (.bool true) ∧ w = w' := by
  go_enter Try.func43, Try.ntmps43
  go_wp2
  refine wp_loop_rounds 1 ?_
  rw [rounds_succ]
  go_wp2
  refine wp_loop_rounds 1 ?_
  rw [rounds_succ]
  go_wp2
  refine wp_loop_rounds 1 ?_
  rw [rounds_succ]
  go_wp2
  go_ret
  exact ⟨rfl, rfl⟩
def nils : Value := .slice none 0 0
/-- The book's block. -/
def Book (w : World) (b : Nat) (fv : Value) : Prop := w.heap[b]? = some (.cells #[.slice none 0 0, .slice none 0 0, .slice none 0 0, .slice none 0 0, fv, .slice none 0 0, .slice none 0 0, .slice none 0 0] 56 (0, 0))
theorem book_cell {w : World} {b : Nat} {fv : Value} (h : Book w b fv) : w.cell? ⟨b, 4, none⟩ = some fv := by
  rw [cell_of_row w b 4 _ 56 (0, 0) h]; rfl
theorem book_free {w : World} {b : Nat} {fv : Value} (h : Book w b fv) : w.frozen? ⟨b, 4, none⟩ = false := by
  unfold World.frozen?; rw [h]; rfl
theorem book_set {w : World} {b : Nat} {fv : Value} (h : Book w b fv) (u : Value) : Book (w.setCell ⟨b, 4, none⟩ u) b u := heap_setCell_at w b 4 u h
theorem book_nil {w : World} {b : Nat} {fv : Value} (h : Book w b fv) : w.cell? ⟨b, 0, none⟩ = some (.slice none 0 0) ∧ w.cell? ⟨b, 1, none⟩ = some (.slice none 0 0) ∧ w.cell? ⟨b, 2, none⟩ = some (.slice none 0 0) ∧ w.cell? ⟨b, 3, none⟩ = some (.slice none 0 0) ∧ w.cell? ⟨b, 5, none⟩ = some (.slice none 0 0) ∧ w.cell? ⟨b, 6, none⟩ = some (.slice none 0 0) ∧ w.cell? ⟨b, 7, none⟩ = some (.slice none 0 0) := by
  refine ⟨?_, ?_, ?_, ?_, ?_, ?_, ?_⟩ <;> rw [cell_of_row w b _ _ 56 (0, 0) h] <;> rfl
/-- What 'Files' leaves. -/
def FilesOk (w : World) (B b : Nat) (fv : Value) (k : Nat) (xs : List Value) (e : Ending) (w' : World) : Prop :=
  e = .returned (.tuple #[]) ∧ ∃ fv', Book w' b fv' ∧ Owns w' B 42 1 fv' k xs ∧ fv'.ownBlock ≠ some b ∧ (fv'.ownBlock = fv.ownBlock ∨ ∀ j, fv'.ownBlock = some j → w.heap.size ≤ j) ∧ w.heap.size ≤ w'.heap.size ∧ Below B w w' ∧ (∀ j, j < w.heap.size → j ≠ b → some j ≠ fv.ownBlock → w'.heap[j]? = w.heap[j]?)
set_option maxHeartbeats 1000000 in
theorem files_any (B b : Nat) (fv : Value) (k : Nat) (xs : List Value) (a : Option Addr) (n c : Nat) (w : World) (hb : Book w b fv) (ho : Owns w B 42 1 fv k xs) (hne : fv.ownBlock ≠ some b) (hB : B ≤ b) (hk : k ≤ 1000) :
    Calls Try.prog 24 #[.pointer (some ⟨b, 0, none⟩), .slice a n c] w (FilesOk w B b fv (k + 1) (xs ++ [.slice a n c])) := by
  obtain ⟨i1, hi1, hy0, hy1, hy2⟩ := info_parts info42
  obtain ⟨a1, c1, rfl⟩ := ho.form
  have hbl : b < w.heap.size := (Array.getElem?_eq_some_iff.1 hb).1
  have hc : w.cell? ⟨b, 4, none⟩ = some (.slice a1 k c1) := book_cell hb
  have HO := Lib.hid ho
  have HBK := Lib.hid hb
  have HNE := Lib.hid hne
  clear ho hb hne
  go_enter Try.func24, Try.ntmps24
  go_wp2_with (at_builtin; refine wpList_append_owns rfl (.tmp 8) (.tmp 10) 51 rfl B 42 i1 (.slice none 0 0) 1 24 Try.underlying51 hi1 hy0 hy1 hy2 rfl _ _ _ rfl (HO.out.alloc _) ⟨w.heap.size, 0, none⟩ 1 1 [.slice a n c] rfl rfl ?d1 ?d2 ?d3 ?d4 ?d5 ?_)
  case d1 => exact one_new _ _ _
  case d2 => intro u hu; simp at hu; subst hu; rfl
  case d3 => unfold maxLen; omega
  case d4 => omega
  case d5 => simp; omega
  intro v' w1 ho1 hg1
  obtain ⟨a2, c2, rfl⟩ := ho1.form
  have hs1 := hg1.1.size
  simp at hs1
  have hkeep : ∀ j, j < w.heap.size → some j ≠ (Value.slice a1 k c1).ownBlock → w1.heap[j]? = w.heap[j]? := fun j hj hne => (hg1.1.block j (by simp; omega) hne).trans (Below.heap_alloc w _ j hj)
  have hb1 : Book w1 b (.slice a1 k c1) := (hkeep b hbl (fun e => HNE.out e.symm)).trans HBK.out
  have hc1 : w1.cell? ⟨b, 4, none⟩ = some (.slice a1 k c1) := book_cell hb1
  have hf1 : w1.frozen? ⟨b, 4, none⟩ = false := book_free hb1
  have HB1 := Lib.hid hb1
  have HO1 := Lib.hid ho1
  have HG1 := Lib.hid hg1
  have HK := Lib.hid hkeep
  clear hb1 ho1 hg1 hkeep
  have hfr : (Value.slice a2 (k + 1) c2).ownBlock ≠ some b := by
    rcases HG1.out.2 with e | e
    · rw [e]; exact HNE.out
    · intro h; have := e b h; simp at this; omega
  have HFR := Lib.hid hfr
  clear hfr
  go_wp2_with fail
  go_end0
  refine ⟨rfl, .slice a2 (k + 1) c2, book_set HB1.out _, HO1.out.elsewhere _ HFR.out, HFR.out, ?_, ?_, ?_, ?_⟩
  · rcases HG1.out.2 with e | e
    · exact .inl e
    · exact .inr fun j hj => by have := e j hj; simp at this; omega
  · simp [World.setCell]; omega
  · exact (HG1.out.below ((Below.refl B w).alloc (by omega) _) (by simp; omega) (fun j hj => (HO.out.lt j hj).1)).setCell hB _
  · intro j hj hjb hjf
    rw [Below.heap_setCell _ _ _ _ hjb]
    exact HK.out j hj hjf
def bookObj (fv : Value) : Obj := .cells #[.slice none 0 0, .slice none 0 0, .slice none 0 0, .slice none 0 0, fv, .slice none 0 0, .slice none 0 0, .slice none 0 0] 56 (0, 0)
set_option maxRecDepth 100000 in
set_option maxHeartbeats 2000000 in
theorem bookown_any (B b G m cl : Nat) (v : Nat → Value) (n : Nat → Nat) (X : Nat → List Value) (w : World) (h : LL b (bookObj (.slice (some ⟨G, 0, none⟩) m cl)) w B G m v n X) (hm : m ≤ 16) (hn : ∀ i, i < m → n i ≤ 33554431) (hB : B ≤ w.heap.size) :
    Calls Try.prog 25 #[.pointer (some ⟨b, 0, none⟩)] w fun e w' => e = .returned (.bool true) ∧ Below B w w' := by
  have hb : Book w b (.slice (some ⟨G, 0, none⟩) m cl) := h.bk
  obtain ⟨c0, c1, c2, c3, c5, c6, c7⟩ := book_nil hb
  have c4 := book_cell hb
  have HH := Lib.hid h
  have HN := Lib.hid hn
  clear h hn hb
  go_enter Try.func25, Try.ntmps25
  go_wp2_with fail
  refine (ownnil36 _).mono ?_
  rintro e w' ⟨rfl, rfl⟩
  go_wp2_with fail
  refine (ownnil37 _).mono ?_
  rintro e w' ⟨rfl, rfl⟩
  go_wp2_with fail
  refine (ownnil38 _).mono ?_
  rintro e w' ⟨rfl, rfl⟩
  go_wp2_with fail
  refine (ownnil39 _).mono ?_
  rintro e w' ⟨rfl, rfl⟩
  go_wp2_with fail
  refine (own1 b _ _ B G m cl v n X HH.out hm HN.out hB).mono ?_
  rintro e w1 ⟨rfl, b1, k1⟩
  have hb1 : Book w1 b (.slice (some ⟨G, 0, none⟩) m cl) := k1
  obtain ⟨d0, d1, d2, d3, d5, d6, d7⟩ := book_nil hb1
  have HB := Lib.hid b1
  clear k1 hb1 b1 d0 d1 d2 d3
  go_wp2_with fail
  refine (ownnil41 _).mono ?_
  rintro e w' ⟨rfl, rfl⟩
  go_wp2_with fail
  refine (ownnil42 _).mono ?_
  rintro e w' ⟨rfl, rfl⟩
  go_wp2_with fail
  refine (ownnil43 _).mono ?_
  rintro e w' ⟨rfl, rfl⟩
  go_wp2_with fail
  go_ret
  exact ⟨rfl, HB.out⟩
end Go.Proofs.Ytidflgagcamdpaa
