/- A range over a function whose iterator keeps its state in a cell of its own: the law (the library's own, of RangeFuncFrom, turned: two premises more). Plain: a selector's parts, each behind a colon: what they say of its keywords. strings.SplitAfterSeq(s, ":"): the iterator's contract. -/
import Derived.RangeFuncFrom
import Derived.Test.YtoklnpoacckbfaaGreatDoorKaag
import Derived.Lib.IndexLaws
import Derived.Test.YtoklnpoacckbfaaGreatDoorKaaf
import Derived.RangeFuncBound
import Derived.RangeFuncCalls
import Derived.RangeFuncLeaves
import Derived.Shelf.Abstract
import Derived.Shelf.RegionOpen
import Derived.WalkKit
import Derived.OwnWalkIn
import Derived.TacticsInMore
import Derived.LoopNIn
import Derived.LoopIn
namespace Go.Proofs.YtoklnpoacckbfaaGreatDoor
open Go Go.RowKit
/-- the contract of an iterator that keeps its state in cell 0 of block Bn: the caller's words abide its writing there -/
def SeqStopsC {α : Type} (F : Fence) (n : Nat) (P : Program) (g : Nat) (lb : Array Value) (encs : α → Array Value) (Kp : World → World → Prop) (S Sp : List α → Prop) (N : Nat) (w : World) (Bn : Nat) : Prop :=
  ∀ (l : Nat) (J Jx : List α → World → Prop) (W : World), Below w.heap.size w W → AbidesFrom W.heap.size J → AbidesFrom W.heap.size Jx →
    (∀ s W v, J s W → J s (W.setCell ⟨Bn, 0, none⟩ v)) → (∀ s W v, Jx s W → Jx s (W.setCell ⟨Bn, 0, none⟩ v)) →
    (∀ pre x W1, J pre W1 → pre.length < N → YieldAt F (n - 1) P l (encs x) W1 fun e W' =>
      (e = .returned (.bool true) ∧ J (pre ++ [x]) W' ∧ Kp W1 W') ∨ (e = .returned (.bool false) ∧ Jx (pre ++ [x]) W')) →
    J [] W →
    CallsIn F n P g (#[.func (.yield l) #[] #[]] ++ lb) W fun e W' => (∃ v, e = .returned v) ∧ ((∃ xs, S xs ∧ J xs W') ∨ (∃ pre, Sp pre ∧ Jx pre W'))
variable {F : Fence} {n : Nat} {P : Program}
/-- A range over a function whose iterator keeps its state in a cell of its own. (The library's fourth law, turned.) -/
theorem wpIn_rangeFunc_ownC {α : Type} {g : Operand} {ps : Array Tmp} {assign body : Code} {Q : Exit → Act → World → Prop} {a : Act} {w : World}
    (hro : F.round = none) (h1 : 1 ≤ n) {gf : Nat} {lb : Array Value} (hg : a.eval g = .func (.func gf) #[] lb) (hFg : F.fn gf) (eg : ∀ args w, (callFunc gf args).run P w = .ok (.enter gf args) w)
    {encs : α → Array Value} {Kp : World → World → Prop} {S Sp : List α → Prop} {N : Nat} {w0 : World} {Bn : Nat} (hseq : SeqStopsC F (n - 1) P gf lb encs Kp S Sp N w0 Bn)
    (hKt : ∀ {A B C : World}, Kp A B → Kp B C → Kp A C) (hKb : ∀ (W : World) (l : Nat) (o o' : Obj), w.heap.size ≤ l → W.heap[l]? = some o → o.isCells = false → o.isWalk = false → Kp W (W.putObj l o')) (hb0 : Below w0.heap.size w0 w) (hps : ∀ x, (encs x).size = ps.size)
    (I : List α → World → Prop) (Ix : Code → List α → World → Prop) (hI : OwnFrom w.heap.size I) (hIx : ∀ c, OwnFrom w.heap.size (Ix c)) (hIc : ∀ s W v, I s W → I s (W.setCell ⟨Bn, 0, none⟩ v)) (hIxc : ∀ c s W v, Ix c s W → Ix c s (W.setCell ⟨Bn, 0, none⟩ v)) (h0 : I [] w) (a₁ : α → Act)
    (hassign : ∀ (l : Nat) (x : α) (W : World) (K : Act → World → Prop), K (a₁ x) W →
      assign.wpIn (F.inRound l) (n - 1 - 1) P (Exit.then K (fun _ _ _ => False)) { tmps := (ps.zip (encs x)).foldl (fun t (p, v) => t.setIfInBounds p v) a.tmps, defers := [] } W)
    (hbody : ∀ (l : Nat) (pre : List α) (x : α) (W : World), I pre W → pre.length < N → body.wpIn (F.inRound l) (n - 1 - 1) P (ownPostK Kp I Ix (pre ++ [x]) W) (a₁ x) W)
    (hdone : ∀ (D : Nat) (xs : List α) (W : World), w.heap.size ≤ D → S xs → I xs W → W.heap[D]? = some (.deferred (some [])) → Q .normal { a with defers := { target := .collected D, args := #[] } :: a.defers } W)
    (hstop : ∀ (D : Nat) (c : Code) (pre : List α) (W : World), w.heap.size ≤ D → Sp pre → Ix c pre W → W.heap[D]? = some (.deferred (some [])) → c.wpIn F n P Q { a with defers := { target := .collected D, args := #[] } :: a.defers } W) :
    (Code.rangeFunc g ps assign body).wpIn F n P Q a w := by
  refine wpIn_rangeFunc ?_
  intro fn hfn
  rw [hro]
  obtain ⟨rec, hrec⟩ : ∃ rec : LoopState → Option Code → Loop, rec = fun st pe => { state := st, pending := pe, fn, tmps := a.tmps, params := ps, assign, body, defers := w.heap.size } := ⟨_, rfl⟩
  obtain ⟨W1, hW1⟩ : ∃ W1, (w.alloc (.deferred (some []))).alloc (.loop (rec .ready none)) = W1 := ⟨_, rfl⟩
  have hL1 : W1.heap[w.heap.size + 1]? = some (.loop (rec .ready none)) := by
    rw [← hW1]; have := World.alloc_heap_new (w.alloc (.deferred (some []))) (.loop (rec .ready none)); rwa [World.size_alloc] at this
  have hK1 : W1.heap[w.heap.size]? = some (.deferred (some [])) := by
    rw [← hW1]; exact (Below.heap_alloc _ _ _ (by simp)).trans (World.alloc_heap_new w _)
  have hI1 : I [] W1 := by rw [← hW1]; exact hI.alloc _ (hI.alloc _ h0)
  have hb1 : Below w0.heap.size w0 W1 := by
    rw [← hW1]; exact hb0.trans ((((Below.refl _ w).alloc (Nat.le_refl _) _).alloc (by simp) _).mono hb0.size)
  refine ⟨w.heap.size + 1, [{ target := .collected w.heap.size, args := #[] }], W1, { target := .fn (.func gf) lb, args := #[.func (.yield (w.heap.size + 1)) #[] #[]] }, W1, gf,
    #[.func (.yield (w.heap.size + 1)) #[] #[]] ++ lb, W1, ?_, ?_, ?_, ?_, fun _ => h1, ?_⟩
  · rw [← hW1, hrec]; exact run_enterLoop_outer _ _ _ _ _
  · simp only [resolve, hg]
    simp [go_sem]
  · intro f' hf'; simp [Target.leads] at hf'; subst hf'; exact hFg
  · simp [invoke, go_sem, eg]
  · -- THE ITERATOR's CONTRACT, AT THE CALLER's INVARIANT WITH THE TWO FACTS OF BOOK-KEEPING BESIDE IT
    have hnw : ∀ {A B : World} {row : Option Nat}, (∀ r, row = some r → W1.heap.size ≤ r ∧ ∃ o : Obj, A.heap[r]? = some o ∧ o.isWalk = true) → (∀ r, row = some r → w.heap.size ≤ r ∧ ∃ o : Obj, A.heap[r]? = some o ∧ o.isCells = false) :=
      fun hr r e => by obtain ⟨hB, o, ho, hw⟩ := hr r e; exact ⟨by rw [← hW1] at hB; simp at hB; omega, o, ho, Obj.not_cells_of_walk hw⟩
    refine (hseq (w.heap.size + 1)
      (fun pre W => I pre W ∧ W.heap[w.heap.size + 1]? = some (.loop (rec .ready none)) ∧ W.heap[w.heap.size]? = some (.deferred (some [])))
      (fun pre W => ∃ c, Ix c pre W ∧ W.heap[w.heap.size + 1]? = some (.loop (rec .done (some c))) ∧ W.heap[w.heap.size]? = some (.deferred (some [])))
      W1 hb1
      (fun s A B row hs hg' hr => ⟨hI s A B row hs.1 hg' (hnw (B := B) hr), (grownBy_keeps hg' (fun r e => (hr r e).2) hs.2.1 rfl).trans hs.2.1, (grownBy_keeps hg' (fun r e => (hr r e).2) hs.2.2 rfl).trans hs.2.2⟩)
      (fun s A B row hs hg' hr => by
        obtain ⟨c, hc, hl, hk⟩ := hs
        exact ⟨c, hIx c s A B row hc hg' (hnw (B := B) hr), (grownBy_keeps hg' (fun r e => (hr r e).2) hl rfl).trans hl, (grownBy_keeps hg' (fun r e => (hr r e).2) hk rfl).trans hk⟩)
      (fun s W v hs => ⟨hIc _ _ _ hs.1, (KeepsOthers.setCell _ _ _).same _ _ hs.2.1 rfl, (KeepsOthers.setCell _ _ _).same _ _ hs.2.2 rfl⟩)
      (fun s W v hs => by
        obtain ⟨c, hc, hl, hk⟩ := hs
        exact ⟨c, hIxc _ _ _ _ hc, (KeepsOthers.setCell _ _ _).same _ _ hl rfl, (KeepsOthers.setCell _ _ _).same _ _ hk rfl⟩)
      ?_ ⟨hI1, hL1, hK1⟩).mono ?_
    · -- ONE ROUND
      rintro pre x W ⟨hi, hl, hk⟩ hlen
      have hlt : w.heap.size + 1 < W.heap.size := (Array.getElem?_eq_some_iff.1 hl).1
      have hy := run_yield (P := P) (args := encs x) hl (by rw [hrec]; exact hps x)
      rw [hrec] at hy
      refine ⟨fn, _, assign, body, hy, roundIn_of_wpIn hfn (hassign _ x W _ ⟨_, run_beginRound hl (by rw [hrec]), ?_⟩)⟩
      have hl2 : (W.putObj (w.heap.size + 1) (.loop { rec .ready none with state := .busy })).heap[w.heap.size + 1]? = some (.loop { rec .ready none with state := .busy }) := World.putObj_heap_same hlt
      have hk2 : (W.putObj (w.heap.size + 1) (.loop { rec .ready none with state := .busy })).heap[w.heap.size]? = some (.deferred (some [])) := (World.putObj_heap_other (by omega)).trans hk
      have hw2 : Kp W (W.putObj (w.heap.size + 1) (.loop { rec .ready none with state := .busy })) := hKb _ _ _ _ (by omega) hl rfl rfl
      refine wpIn_mono (hbody _ pre x _ (hI.putObj _ hi (by omega) hl rfl) hlen) ?_
      have fin : ∀ (jump : Option Code) (W3 : World), KeepsOthers (W.putObj (w.heap.size + 1) (.loop { rec .ready none with state := .busy })) W3 →
          (Instr.endRound (w.heap.size + 1) jump).run P W3 = .ok (.bool jump.isNone) (W3.putObj (w.heap.size + 1) (.loop (rec (if jump.isNone then .ready else .done) jump))) ∧
          W3.heap[w.heap.size + 1]? = some (.loop { rec .ready none with state := .busy }) ∧
          (W3.putObj (w.heap.size + 1) (.loop (rec (if jump.isNone then .ready else .done) jump))).heap[w.heap.size + 1]? = some (.loop (rec (if jump.isNone then .ready else .done) jump)) ∧
          (W3.putObj (w.heap.size + 1) (.loop (rec (if jump.isNone then .ready else .done) jump))).heap[w.heap.size]? = some (.deferred (some [])) := fun jump W3 hk3 => by
        have hl3 := hk3.same _ _ hl2 rfl
        have := run_endRound (P := P) jump hl3
        rw [hrec] at this ⊢
        exact ⟨this, by rw [hrec] at hl3; exact hl3, World.putObj_heap_same (Array.getElem?_eq_some_iff.1 hl3).1, (World.putObj_heap_other (by omega)).trans (hk3.same _ _ hk2 rfl)⟩
      rintro e a3 W3 hp
      cases e with
      | normal =>
        obtain ⟨hk3, hkp3, hi3⟩ := hp
        obtain ⟨hr, hl3, hl4, hk4⟩ := fin none W3 hk3
        exact ⟨_, _, hr, .inl ⟨rfl, ⟨hI.putObj _ hi3 (by omega) hl3 rfl, hl4, hk4⟩, hKt (hKt hw2 hkp3) (hKb _ _ _ _ (by omega) hl3 rfl rfl)⟩⟩
      | ret =>
        obtain ⟨hk3, hi3⟩ := hp
        obtain ⟨hr, hl3, hl4, hk4⟩ := fin (some .ret) W3 hk3
        exact ⟨_, _, hr, .inr ⟨rfl, .ret, (hIx _).putObj _ hi3 (by omega) hl3 rfl, hl4, hk4⟩⟩
      | exit id =>
        obtain ⟨hk3, hi3⟩ := hp
        obtain ⟨hr, hl3, hl4, hk4⟩ := fin (some (.exit id)) W3 hk3
        exact ⟨_, _, hr, .inr ⟨rfl, .exit id, (hIx _).putObj _ hi3 (by omega) hl3 rfl, hl4, hk4⟩⟩
      | goto t =>
        obtain ⟨hk3, hi3⟩ := hp
        obtain ⟨hr, hl3, hl4, hk4⟩ := fin (some (.goto t)) W3 hk3
        exact ⟨_, _, hr, .inr ⟨rfl, .goto t, (hIx _).putObj _ hi3 (by omega) hl3 rfl, hl4, hk4⟩⟩
      | panic ch => exact hp.elim
      | outgrown => exact hp.elim
    · -- BEHIND THE ITERATOR
      rintro e W2 ⟨⟨v, rfl⟩, (⟨xs, hS, hi, hl, hk⟩ | ⟨pre, hSp, c, hi, hl, hk⟩)⟩
      · exact ⟨none, _, by have := run_endLoop (P := P) hl (by rw [hrec]; simp); rw [hrec] at this; exact this, hdone _ xs _ (Nat.le_refl _) hS (hI.putObj _ hi (by omega) hl rfl) ((World.putObj_heap_other (by omega)).trans hk)⟩
      · exact ⟨some c, _, by have := run_endLoop (P := P) hl (by rw [hrec]; simp); rw [hrec] at this; exact this, hstop _ c pre _ (Nat.le_refl _) hSp ((hIx c).putObj _ hi (by omega) hl rfl) ((World.putObj_heap_other (by omega)).trans hk)⟩
end Go.Proofs.YtoklnpoacckbfaaGreatDoor
namespace Go.Proofs.YtoklnpoacckbfaaGreatDoor
namespace Pl
/-- is a part a name and a colon? -/
def partOk (x : List UInt8) : Bool := Lib.hasSuffix x [58] && name (Lib.trimSuffix x [58])
/-- these parts have come, and place i is come to -/
inductive Came (l : List UInt8) : List (List UInt8) → Nat → Prop
  | start : Came l [] 0
  | snoc (pre : List (List UInt8)) (i j : Nat) (h : Came l pre i) (hj : Lib.indexByte (l.drop i) 58 = (j : Int)) : Came l (pre ++ [(l.drop i).take (j + 1)]) (i + j + 1)
theorem inn_take : ∀ {l : List UInt8} {c : UInt8}, c ∈ l.takeWhile inn → inn c = true := by
  intro l
  induction l with
  | nil => intro c h; simp at h
  | cons d r ih =>
    intro c h
    rw [List.takeWhile_cons] at h
    cases hd : inn d with
    | false => rw [hd] at h; simp at h
    | true =>
      rw [if_pos hd] at h
      rcases List.mem_cons.1 h with rfl | h
      · exact hd
      · exact ih h
theorem name_inn {l : List UInt8} (h : name l = true) : ∀ c ∈ l, inn c = true := by
  unfold name at h
  simp only [Bool.and_eq_true, decide_eq_true_eq] at h
  have h2 := h.2.2.2
  unfold wordEnd at h2
  simp only [List.drop_zero, Nat.zero_add] at h2
  intro c hc
  have hp : l.takeWhile inn = l := (List.takeWhile_prefix inn).eq_of_length h2
  rw [← hp] at hc
  exact inn_take hc
theorem wordEnd_all {l : List UInt8} {i k : Nat} (h1 : i ≤ k) (h2 : k < wordEnd l i) (h3 : k < l.length) : inn l[k] = true := by
  unfold wordEnd at h2
  have hk : k - i < ((l.drop i).takeWhile inn).length := by omega
  have hm := inn_take (List.getElem_mem hk)
  have he : ((l.drop i).takeWhile inn)[k - i] = (l.drop i)[k - i]'(by rw [List.length_drop]; omega) := (List.takeWhile_prefix inn).getElem hk
  rw [he, List.getElem_drop] at hm
  have : i + (k - i) = k := by omega
  simpa only [this] using hm
theorem wordEnd_stop {l : List UInt8} {i : Nat} (h : wordEnd l i < l.length) : inn l[wordEnd l i] = false := by
  have hlen : ((l.drop i).takeWhile inn).length < (l.drop i).length := by
    unfold wordEnd at h; rw [List.length_drop]; omega
  have h2 : ∀ (m : List UInt8), (hl : (m.takeWhile inn).length < m.length) → inn (m[(m.takeWhile inn).length]) = false := by
    intro m
    induction m with
    | nil => intro hl; simp at hl
    | cons c r ih =>
      intro hl
      cases hc : inn c with
      | false => simp [hc]
      | true =>
        have e : (c :: r).takeWhile inn = c :: r.takeWhile inn := by rw [List.takeWhile_cons, if_pos hc]
        simp only [e, List.length_cons, List.getElem_cons_succ]
        exact ih (by rw [e] at hl; simpa using hl)
  have h3 := h2 _ hlen
  rw [List.getElem_drop] at h3
  exact h3
theorem colon_of {l : List UInt8} {i j : Nat} (h : Lib.indexByte (l.drop i) 58 = (j : Int)) : i + j < l.length ∧ peek l (i + j) = 58 ∧ ∀ k, i ≤ k → k < i + j → peek l k ≠ 58 := by
  obtain ⟨h1, h2⟩ := Lib.indexByte_some h
  rw [List.getElem?_drop] at h1
  have hlt := (List.getElem?_eq_some_iff.1 h1).1
  refine ⟨hlt, by unfold peek; rw [h1]; rfl, ?_⟩
  intro k hk1 hk2 hp
  have := h2 (k - i) (by omega)
  rw [List.getElem?_drop, show i + (k - i) = k by omega] at this
  have hkl : k < l.length := by omega
  rw [peek_at hkl] at hp
  apply this
  rw [List.getElem?_eq_getElem hkl]
  exact congrArg some (UInt8.toNat_inj.1 hp)
theorem inn_58 : inn 58 = false := by decide
theorem peek_58 {l : List UInt8} {k : Nat} (h : peek l k = 58) (hk : k < l.length) : l[k] = 58 := by
  rw [peek_at hk] at h; exact UInt8.toNat_inj.1 h
theorem seg_mem {l : List UInt8} {i j k : Nat} (h1 : i ≤ k) (h2 : k < j) (h3 : k < l.length) : l[k] ∈ seg l i j := by
  unfold seg
  rw [List.mem_iff_getElem?]
  exact ⟨k - i, by rw [List.getElem?_take, if_pos (by omega), List.getElem?_drop, show i + (k - i) = k by omega, List.getElem?_eq_getElem h3]⟩
theorem wordEnd_colon {l : List UInt8} {i j : Nat} (h : Lib.indexByte (l.drop i) 58 = (j : Int)) : wordEnd l i ≤ i + j := by
  obtain ⟨h1, h2, h3⟩ := colon_of h
  rcases Nat.lt_or_ge (i + j) (wordEnd l i) with hlt | hge
  · have := wordEnd_all (by omega) hlt h1
    rw [peek_58 h2 h1, inn_58] at this; cases this
  · exact hge
theorem kwOk_seg {l : List UInt8} {i j : Nat} (h : Lib.indexByte (l.drop i) 58 = (j : Int)) : kwOk l i = name (seg l i (i + j)) ∧ (kwOk l i = true → wordEnd l i = i + j) := by
  obtain ⟨h1, h2, h3⟩ := colon_of h
  have hle := wordEnd_colon h
  have hi : i ≤ wordEnd l i := (wordEnd_le l i (by omega)).1
  by_cases e : wordEnd l i = i + j
  · refine ⟨?_, fun _ => e⟩
    unfold kwOk; rw [e, h2]; simp
  · have hlt : wordEnd l i < i + j := by omega
    have hno : kwOk l i = false := by
      unfold kwOk
      rw [show decide (peek l (wordEnd l i) = 58) = false by simpa using h3 _ hi hlt, Bool.and_false]
    have hs := wordEnd_stop (l := l) (i := i) (by omega)
    have hn : name (seg l i (i + j)) = false := by
      cases hname : name (seg l i (i + j)) with
      | false => rfl
      | true =>
        have := name_inn hname _ (seg_mem hi hlt (by omega))
        rw [hs] at this; cases this
    exact ⟨by rw [hno, hn], fun hk => by rw [hno] at hk; cases hk⟩
theorem kwOk_none {l : List UInt8} {i : Nat} (hi : i ≤ l.length) (h : Lib.indexByte (l.drop i) 58 = -1) : kwOk l i = false := by
  cases hk : kwOk l i with
  | false => rfl
  | true =>
    have hlt := kwOk_lt hi hk
    have hge := (wordEnd_le l i hi).1
    unfold kwOk at hk
    simp only [Bool.and_eq_true, decide_eq_true_eq] at hk
    have := Lib.indexByte_none h (wordEnd l i - i)
    rw [List.getElem?_drop, show i + (wordEnd l i - i) = wordEnd l i by omega, List.getElem?_eq_getElem hlt, peek_58 hk.2 hlt] at this
    exact absurd rfl this
theorem hasSuffix_one (x : List UInt8) (c : UInt8) : Lib.hasSuffix (x ++ [c]) [c] = true := by
  unfold Lib.hasSuffix; simp
theorem trimSuffix_one (x : List UInt8) (c : UInt8) : Lib.trimSuffix (x ++ [c]) [c] = x := by
  unfold Lib.trimSuffix; rw [if_pos (hasSuffix_one x c)]; simp
theorem take_colon {l : List UInt8} {i j : Nat} (h : Lib.indexByte (l.drop i) 58 = (j : Int)) : (l.drop i).take (j + 1) = seg l i (i + j) ++ [58] := by
  have h1 := (Lib.indexByte_some h).1
  have hlt := (List.getElem?_eq_some_iff.1 h1).1
  rw [List.take_add_one, h1]
  unfold seg
  rw [show i + j - i = j by omega]; rfl
theorem partOk_seg {l : List UInt8} {i j : Nat} (h : Lib.indexByte (l.drop i) 58 = (j : Int)) : partOk ((l.drop i).take (j + 1)) = kwOk l i := by
  unfold partOk
  rw [take_colon h, hasSuffix_one, trimSuffix_one, (kwOk_seg h).1, Bool.true_and]
theorem partOk_none {x : List UInt8} (h : Lib.indexByte x 58 = -1) : partOk x = false := by
  unfold partOk
  cases hs : Lib.hasSuffix x [58] with
  | false => rfl
  | true =>
    unfold Lib.hasSuffix at hs
    obtain ⟨t, ht⟩ := List.isSuffixOf_iff_suffix.1 hs
    have := Lib.indexByte_none h t.length
    rw [← ht] at this
    simp at this
theorem Came.keys {l : List UInt8} {pre : List (List UInt8)} {i : Nat} (h : Came l pre i) : (∀ x ∈ pre, partOk x = true) → i ≤ l.length ∧ pre.length ≤ i ∧ ∃ f, l.length < i + f ∧ keywords l = kw l f i pre.length := by
  induction h with
  | start => intro _; exact ⟨Nat.zero_le _, Nat.le_refl _, l.length + 1, by omega, rfl⟩
  | snoc pre i j h hj ih =>
    intro hall
    obtain ⟨h1, h2, f, h3, h4⟩ := ih (fun x hx => hall x (by simp [hx]))
    have hk : kwOk l i = true := by rw [← partOk_seg hj]; exact hall _ (by simp)
    obtain ⟨h5, _⟩ := colon_of hj
    obtain ⟨g, rfl⟩ : ∃ g, f = g + 1 := ⟨f - 1, by omega⟩
    refine ⟨by omega, by simp; omega, g, by omega, ?_⟩
    rw [h4, kw_go (by omega) hk, (kwOk_seg hj).2 hk]
    simp
theorem Came.bad {l : List UInt8} {pre : List (List UInt8)} {i j : Nat} (h : Came l pre i) (hall : ∀ x ∈ pre, partOk x = true) (hj : Lib.indexByte (l.drop i) 58 = (j : Int)) (hb : partOk ((l.drop i).take (j + 1)) = false) : keywords l = -1 := by
  obtain ⟨h1, h2, f, h3, h4⟩ := h.keys hall
  obtain ⟨h5, _⟩ := colon_of hj
  rw [h4]; exact kw_no (by omega) (by omega) (by rw [← partOk_seg hj]; exact hb)
theorem Came.over {l : List UInt8} {pre : List (List UInt8)} {i : Nat} (h : Came l pre i) (hall : ∀ x ∈ pre, partOk x = true) (hj : Lib.indexByte (l.drop i) 58 = -1) : keywords l = if l.drop i = [] then (pre.length : Int) else -1 := by
  obtain ⟨h1, h2, f, h3, h4⟩ := h.keys hall
  rw [h4]
  by_cases e : l.drop i = []
  · rw [if_pos e]; exact kw_stop (List.drop_eq_nil_iff.1 e)
  · rw [if_neg e]; exact kw_no (by rw [List.drop_eq_nil_iff] at e; omega) (by omega) (kwOk_none h1 hj)
end Pl
end Go.Proofs.YtoklnpoacckbfaaGreatDoor
namespace Go.Proofs.YtoklnpoacckbfaaGreatDoor
open Go Go.RowKit Go.Shelf
attribute [local go_sem] Oper.semAt_some
abbrev Part := { x : ByteArray // x.size ≤ 140737488355328 }
def partL (pre : List Part) : List (List UInt8) := pre.map fun x => x.1.data.toList
def Kp3 (b : Nat) (W W' : World) : Prop := W'.heap[b]? = W.heap[b]? ∧ W'.heap[b + 1]? = W.heap[b + 1]? ∧ W'.heap[b + 2]? = W.heap[b + 2]?
def strAt (W : World) (b : Nat) : Nat := match W.cell? ⟨b, 0, none⟩ with
  | some (.string r) => r.size
  | _ => 0
theorem strAt_eq {W : World} {b : Nat} {r : ByteArray} (h : W.cell? ⟨b, 0, none⟩ = some (.string r)) : strAt W b = r.size := by unfold strAt; rw [h]
def AllCame (s : ByteArray) (xs : List Part) : Prop := ∃ pre i, partL xs = pre ++ [s.data.toList.drop i] ∧ Pl.Came s.data.toList pre i ∧ Lib.indexByte (s.data.toList.drop i) 58 = -1
def SomeCame (s : ByteArray) (xs : List Part) : Prop := AllCame s xs ∨ ∃ pre i j, partL xs = pre ++ [(s.data.toList.drop i).take (j + 1)] ∧ Pl.Came s.data.toList pre i ∧ Lib.indexByte (s.data.toList.drop i) 58 = ((j : Nat) : Int)
theorem index_cases (l : List UInt8) (c : UInt8) : Lib.indexByte l c = -1 ∨ ∃ j : Nat, Lib.indexByte l c = j := by
  have := Lib.indexByte_ge l c
  rcases Int.lt_or_le (Lib.indexByte l c) 0 with h | h
  · left; omega
  · right; exact ⟨(Lib.indexByte l c).toNat, by omega⟩
theorem Pl.Came.length {l : List UInt8} {pre : List (List UInt8)} {i : Nat} (h : Pl.Came l pre i) : pre.length ≤ i ∧ i ≤ l.length := by
  induction h with
  | start => exact ⟨Nat.le_refl _, Nat.zero_le _⟩
  | snoc pre i j h hj ih =>
    obtain ⟨h1, _⟩ := Pl.colon_of hj
    simp; omega
set_option maxRecDepth 100000 in
set_option maxHeartbeats 2000000 in
theorem split_stops (s : ByteArray) (hs : s.size ≤ 140737488355328) (n b : Nat) (hn : 1 ≤ n) (w : World) (hb : b + 2 < w.heap.size) (c0 : w.cell? ⟨b, 0, none⟩ = some (.string s)) (c1 : w.cell? ⟨b + 1, 0, none⟩ = some (.string ⟨#[58]⟩)) (c2 : w.cell? ⟨b + 2, 0, none⟩ = some (.int .i64 1)) (cf : w.frozen? ⟨b, 0, none⟩ = false) :
    SeqStopsC Fence.wide n Tryz.prog 178 #[.pointer (some ⟨b + 1, 0, none⟩), .pointer (some ⟨b, 0, none⟩), .pointer (some ⟨b + 2, 0, none⟩)] (fun x : Part => #[.string x.1]) (Kp3 b) (AllCame s) (SomeCame s) (s.size + 2) w b := fun l J Jx W hW hJ hJx hJc hJxc hY h0 => by
  have d0 : W.cell? ⟨b, 0, none⟩ = some (.string s) := by rw [hW.cell (p := ⟨b, 0, none⟩) (by simp; omega)]; exact c0
  have d1 : W.cell? ⟨b + 1, 0, none⟩ = some (.string ⟨#[58]⟩) := by rw [hW.cell (p := ⟨b + 1, 0, none⟩) (by simp; omega)]; exact c1
  have d2 : W.cell? ⟨b + 2, 0, none⟩ = some (.int .i64 1) := by rw [hW.cell (p := ⟨b + 2, 0, none⟩) (by simp; omega)]; exact c2
  have df : W.frozen? ⟨b, 0, none⟩ = false := by rw [hW.frozen (p := ⟨b, 0, none⟩) (by simp; omega)]; exact cf
  clear c0 c1 c2 cf hJ hJx hW
  refine callsIn_of_wp Tryz.func178 rfl trivial ?_ rfl
  simp only [Tryz.ntmps178, List.size_toArray, List.length_cons, List.length_nil, Nat.reduceAdd, Nat.reduceSub, Array.replicate_succ, Array.replicate_zero, List.push_toArray, List.append_toArray, List.nil_append, List.cons_append]
  have HY := Lib.hid hY
  have HJC := Lib.hid hJc
  have HXC := Lib.hid hJxc
  have HJ0 := Lib.hid h0
  clear hY hJc hJxc h0
  gi_wp2
  gi_loopw [7, 8] (fun p q wr => ∃ (pre : List Part) (i : Nat) (r : ByteArray), wr.cell? ⟨b, 0, none⟩ = some (.string r) ∧ r.data.toList = s.data.toList.drop i ∧ Pl.Came s.data.toList (partL pre) i ∧ J pre wr ∧
      wr.cell? ⟨b + 1, 0, none⟩ = some (.string ⟨#[58]⟩) ∧ wr.cell? ⟨b + 2, 0, none⟩ = some (.int .i64 1) ∧ wr.frozen? ⟨b, 0, none⟩ = false) (fun p q wr => strAt wr b)
  case atStart => exact ⟨[], 0, s, d0, rfl, .start, HJ0.out, d1, d2, df⟩
  case round =>
    obtain ⟨pre, i, r, e0, hr, hc, hj, e1, e2, ef⟩ := hrel
    have hlen := hc.length
    have ls : s.data.toList.length = s.size := by simp
    have lr : r.data.toList.length = r.size := by simp
    have hrs : r.size = s.size - i := by rw [← lr, hr, List.length_drop, ls]
    have hpl : pre.length = (partL pre).length := by unfold partL; rw [List.length_map]
    have HR := Lib.hid hr
    have HC := Lib.hid hc
    rw [ls] at hlen
    have hN : pre.length < s.size + 2 := by omega
    clear hr hc ls lr
    rcases index_cases r.data.toList 58 with hi | ⟨j, hi⟩
    · obtain ⟨fn, tmps, assign, body, hy, hRn⟩ := HY.out pre ⟨r, by omega⟩ wr hj hN
      dsimp only at hy
      have HN := Lib.hid hRn
      clear hRn
      have HALL := Lib.hid (show AllCame s (pre ++ [⟨r, by omega⟩]) from ⟨partL pre, i, by unfold partL; rw [List.map_append, List.map_cons, List.map_nil, HR.out], HC.out, by rw [← HR.out]; exact hi⟩)
      gi_wp2_with (refine ⟨trivial, ?_⟩; gi_at_call 180; refine (callsIn_wide.2 (Tryz.strings_Index_one r 58 _)).mono ?_; rintro e w' ⟨rfl, rfl⟩)
      refine HN.out.mono ?_
      rintro e W3 (⟨rfl, hJ3, _⟩ | ⟨rfl, hx⟩)
      · gi_wp2
        go_end0
        exact ⟨⟨_, rfl⟩, .inl ⟨_, HALL.out, hJ3⟩⟩
      · gi_wp2
        go_end0
        exact ⟨⟨_, rfl⟩, .inr ⟨_, .inl HALL.out, hx⟩⟩
    · have hj2 := Pl.colon_of (l := s.data.toList) (i := i) (j := j) (by rw [← HR.out]; exact hi)
      obtain ⟨hj3, _, _⟩ := hj2
      rw [show s.data.toList.length = s.size by simp] at hj3
      have hxs : (r.extract 0 (j + 1)).size ≤ 140737488355328 := by rw [ByteArray.size_extract]; omega
      obtain ⟨fn, tmps, assign, body, hy, hRn⟩ := HY.out pre ⟨r.extract 0 (j + 1), hxs⟩ wr hj hN
      dsimp only at hy
      have HN := Lib.hid hRn
      clear hRn
      have hxl : (r.extract 0 (j + 1)).data.toList = (s.data.toList.drop i).take (j + 1) := by rw [← HR.out]; simp [ByteArray.data_extract]
      have HI := Lib.hid (show Lib.indexByte (s.data.toList.drop i) 58 = (j : Int) by rw [← HR.out]; exact hi)
      have hpx : partL (pre ++ [⟨r.extract 0 (j + 1), hxs⟩]) = partL pre ++ [(s.data.toList.drop i).take (j + 1)] := by unfold partL; rw [List.map_append, List.map_cons, List.map_nil, hxl]
      have HSOME := Lib.hid (show SomeCame s (pre ++ [⟨r.extract 0 (j + 1), hxs⟩]) from .inr ⟨partL pre, i, j, hpx, HC.out, HI.out⟩)
      have HCAME := Lib.hid (show Pl.Came s.data.toList (partL (pre ++ [⟨r.extract 0 (j + 1), hxs⟩])) (i + j + 1) by rw [hpx]; exact .snoc _ _ _ HC.out HI.out)
      clear hxl hpx
      have hjr : j + 1 ≤ r.size := by omega
      gi_wp2_with (refine ⟨trivial, ?_⟩; gi_at_call 180; refine (callsIn_wide.2 (Tryz.strings_Index_one r 58 _)).mono ?_; rintro e w' ⟨rfl, rfl⟩)
      refine HN.out.mono ?_
      rintro e W3 (⟨rfl, hJ3, hk⟩ | ⟨rfl, hx⟩)
      · obtain ⟨hk0, hk1, hk2⟩ := hk
        have g0 : W3.cell? ⟨b, 0, none⟩ = some (.string r) := by rw [World.cell?_of_block hk0]; exact e0
        have g1 : W3.cell? ⟨b + 1, 0, none⟩ = some (.string ⟨#[58]⟩) := by rw [World.cell?_of_block hk1]; exact e1
        have g2 : W3.cell? ⟨b + 2, 0, none⟩ = some (.int .i64 1) := by rw [World.cell?_of_block hk2]; exact e2
        have gf : W3.frozen? ⟨b, 0, none⟩ = false := by unfold World.frozen? at ef ⊢; simp only [hk0]; exact ef
        have HJ3 := Lib.hid (HJC.out _ _ (.string (r.extract (j + 1) r.size)) hJ3)
        clear hJ3
        have hle : j + 1 ≤ r.size := hjr
        gi_wp2
        go_roundw
        case rel =>
          refine ⟨_, i + j + 1, r.extract (j + 1) (s.size - i), ?_, ?_, HCAME.out, by rw [← hrs]; exact HJ3.out, ?_, ?_, ?_⟩
          · rw [World.cell?_setCell_same _ _ _ g0]
          · rw [← hrs]
            have e : (r.extract (j + 1) r.size).data.toList = r.data.toList.drop (j + 1) := by
              simp only [ByteArray.data_extract, Array.toList_extract, List.extract_eq_take_drop]
              rw [List.take_of_length_le (by simp)]
            rw [e, HR.out, List.drop_drop]
            congr 1
          · rw [World.cell?_of_block (Below.heap_setCell _ _ _ _ (by simp))]; exact g1
          · rw [World.cell?_of_block (Below.heap_setCell _ _ _ _ (by simp))]; exact g2
          · rw [World.frozen?_setCell]; exact gf
        case measure =>
          rw [strAt_eq e0, strAt_eq (r := r.extract (j + 1) (s.size - i)) (by rw [World.cell?_setCell_same _ _ _ g0]), ByteArray.size_extract]
          omega
      · gi_wp2
        refine bodyPost_ret (results_none rfl _ _ _) rfl ?_
        exact ⟨⟨_, rfl⟩, .inr ⟨_, HSOME.out, hx⟩⟩
end Go.Proofs.YtoklnpoacckbfaaGreatDoor
