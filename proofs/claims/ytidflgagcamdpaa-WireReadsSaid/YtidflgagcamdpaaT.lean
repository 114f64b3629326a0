/- Lists of files that are their owners', second part: what is put behind each. -/
import Derived.Test.YtidflgagcamdpaaS
namespace Go.Proofs.Ytidflgagcamdpaa
open Go.RowKit Go.Lib
/-- While things are put behind each list: list j is now r j (N j of them: R j); what it was, v j, reads as Y j; 'lg' holds the first c of the new ones. -/
structure L2 (b : Nat) (O : Obj) (w : World) (B G m : Nat) (v : Nat → Value) (Y : Nat → List Value) (lg : Value) (c : Nat) (r : Nat → Value) (N : Nat → Nat) (R : Nat → List Value) : Prop where
  at_ : ∀ i, i < m → w.cell? ⟨G, i, none⟩ = some (v i)
  own : ∀ i, i < m → Owns w B 60 2 (r i) (N i) (R i)
  apart : ∀ i j, i < m → j < m → i ≠ j → (r i).ownBlock = none ∨ (r i).ownBlock ≠ (r j).ownBlock
  out : ∀ i, i < m → (r i).ownBlock ≠ some G
  reads : ∀ i, i < m → Reads w (v i) (Y i)
  old : ∀ i, i < m → ∀ g, (v i).ownBlock = some g → g < w.heap.size
  vapart : ∀ i j, i < m → j < m → i ≠ j → (v i).ownBlock = none ∨ (v i).ownBlock ≠ (r j).ownBlock
  pre : ∀ i, i < m → ∃ Z, R i = Y i ++ Z
  lgo : Owns w B 42 1 lg c ((List.range c).map r)
  lgr : ∀ i, i < m → lg.ownBlock = none ∨ lg.ownBlock ≠ (r i).ownBlock
  lgv : ∀ i, i < m → lg.ownBlock = none ∨ lg.ownBlock ≠ (v i).ownBlock
  lgG : lg.ownBlock ≠ some G
  lt : G < w.heap.size
  bk : w.heap[b]? = some O
  rb : ∀ i, i < m → (r i).ownBlock ≠ some b
  lgb : lg.ownBlock ≠ some b
section
variable {b : Nat} {O : Obj} {w w' : World} {B G m : Nat} {v : Nat → Value} {Y : Nat → List Value} {lg : Value} {c : Nat} {r : Nat → Value} {N : Nat → Nat} {R : Nat → List Value}
theorem L2.below (h : L2 b O w B G m v Y lg c r N R) (hb : Below w.heap.size w w') : L2 b O w' B G m v Y lg c r N R where
  at_ i hi := (hb.cell (p := ⟨G, i, none⟩) h.lt).trans (h.at_ i hi)
  own i hi := (h.own i hi).below hb (fun k hk => ((h.own i hi).lt k hk).2)
  apart := h.apart
  out := h.out
  reads i hi := (h.reads i hi).block (fun g hg => hb.block g (h.old i hi g hg))
  old i hi g hg := Nat.lt_of_lt_of_le (h.old i hi g hg) hb.size
  vapart := h.vapart
  pre := h.pre
  lgo := h.lgo.below hb (fun k hk => (h.lgo.lt k hk).2)
  lgr := h.lgr
  lgv := h.lgv
  lgG := h.lgG
  lt := Nat.lt_of_lt_of_le h.lt hb.size
  bk := (hb.block b (Array.getElem?_eq_some_iff.1 h.bk).1).trans h.bk
  rb := h.rb
  lgb := h.lgb
theorem upd_same {α : Type} (f : Nat → α) (i : Nat) (a : α) : (fun j => if j = i then a else f j) i = a := if_pos rfl
theorem upd_ne {α : Type} (f : Nat → α) (i : Nat) (a : α) {j : Nat} (h : j ≠ i) : (fun j => if j = i then a else f j) j = f j := if_neg h
theorem ne_some {a b : Option Nat} (h : a = none ∨ a ≠ b) {k : Nat} (hk : a = some k) : some k ≠ b := by
  rcases h with h | h
  · rw [h] at hk; cases hk
  · rw [hk] at h; exact h
/-- A fresh block is none of the old ones. -/
theorem fresh_ne {a b : Option Nat} {s : Nat} (h : ∀ k, a = some k → s ≤ k) (hb : ∀ k, b = some k → k < s) : a = none ∨ a ≠ b := by
  cases a with
  | none => exact .inl rfl
  | some x =>
    right
    intro e
    have h1 := h x rfl
    have h2 := hb x e.symm
    omega
/-- One thing more is put behind list i. -/
theorem L2.put (h : L2 b O w B G m v Y lg c r N R) {i : Nat} (hi : i < m) (hc : c ≤ i) {x : Value} {news : List Value} {k : Nat} (ho : Owns w' B 60 2 x k (R i ++ news)) (hg : Grow w (r i) w' x) (hr : Reads w' (r i) (R i)) :
    L2 b O w' B G m v Y lg c (fun j => if j = i then x else r j) (fun j => if j = i then k else N j) (fun j => if j = i then R i ++ news else R j) := by
  have hkeep : ∀ g, g < w.heap.size → some g ≠ (r i).ownBlock → w'.heap[g]? = w.heap[g]? := fun g hl hne => hg.1.block g hl hne
  have hsz := hg.1.size
  -- the new row's block against an old one that is not r i's
  have hx : ∀ b : Option Nat, (∀ k, b = some k → k < w.heap.size) → ((r i).ownBlock = none ∨ (r i).ownBlock ≠ b) → (x.ownBlock = none ∨ x.ownBlock ≠ b) := by
    intro b hb hne
    rcases hg.2 with e | e
    · rw [e]; exact hne
    · exact fresh_ne e hb
  have hrl : ∀ j, j < m → ∀ k, (r j).ownBlock = some k → k < w.heap.size := fun j hj k hk => ((h.own j hj).lt k hk).2
  refine ⟨fun j hj => ?_, fun j hj => ?_, fun j l hj hl hne => ?_, fun j hj => ?_, fun j hj => ?_, fun j hj g hgg => Nat.lt_of_lt_of_le (h.old j hj g hgg) hsz, fun j l hj hl hne => ?_, fun j hj => ?_, ?_, fun j hj => ?_, h.lgv, h.lgG, Nat.lt_of_lt_of_le h.lt hsz, ?_, fun j hj => ?_, h.lgb⟩
  · rw [← h.at_ j hj]
    exact World.cell?_of_block (hkeep G h.lt (fun e => h.out i hi e.symm))
  · by_cases e : j = i
    · subst e; simp only [if_true]; exact ho
    · simp only [if_neg e]
      exact (h.own j hj).kept hg.1 (h.apart j i hj hi e)
  · by_cases e : j = i
    · subst e
      simp only [if_true, if_neg (Ne.symm hne)]
      exact hx _ (hrl l hl) (h.apart j l hj hl hne)
    · by_cases f : l = i
      · subst f
        simp only [if_neg e, if_true]
        have := hx _ (hrl j hj) (h.apart l j hl hj (Ne.symm hne))
        rcases this with t | t
        · cases hh : (r j).ownBlock with
          | none => exact .inl rfl
          | some y => right; rw [t]; simp
        · exact .inr (Ne.symm t)
      · simp only [if_neg e, if_neg f]; exact h.apart j l hj hl hne
  · by_cases e : j = i
    · subst e
      simp only [if_true]
      have := hx (some G) (fun k hk => by cases hk; exact h.lt) (.inr (h.out j hi))
      rcases this with t | t
      · rw [t]; simp
      · exact t
    · simp only [if_neg e]; exact h.out j hj
  · by_cases e : j = i
    · subst e
      by_cases hb : (v j).ownBlock = (r j).ownBlock
      · obtain ⟨Z, hZ⟩ := h.pre j hj
        refine hr.of_same (fun g hgv => ?_) (fun t x ht => ?_)
        · rw [hb] at hgv
          rcases (h.own j hj).2 with ⟨h1, _⟩ | ⟨g', cap, cur, fz, h1, _⟩
          · rw [h1] at hgv; cases hgv
          · rw [h1] at hgv; cases hgv; exact ⟨_, _, h1⟩
        · rw [hZ, List.getElem?_append_left (List.getElem?_eq_some_iff.1 ht).1]; exact ht
      · refine (h.reads j hj).block (fun g hgv => hkeep g (h.old j hj g hgv) ?_)
        rw [← hgv]; exact hb
    · exact (h.reads j hj).block (fun g hgv => hkeep g (h.old j hj g hgv) (ne_some (h.vapart j i hj hi e) hgv))
  · by_cases f : l = i
    · subst f
      simp only [if_true]
      cases hh : (v j).ownBlock with
      | none => exact .inl rfl
      | some y =>
        right
        have h1 : (r l).ownBlock = none ∨ (r l).ownBlock ≠ some y := by
          rcases h.vapart j l hj hl hne with t | t
          · rw [t] at hh; cases hh
          · rw [hh] at t; exact .inr (Ne.symm t)
        have := hx (some y) (fun k hk => by cases hk; exact h.old j hj y hh) h1
        rcases this with t | t
        · rw [t]; simp
        · exact Ne.symm t
    · simp only [if_neg f]; exact h.vapart j l hj hl hne
  · by_cases e : j = i
    · subst e
      simp only [if_true]
      obtain ⟨Z, hZ⟩ := h.pre j hj
      exact ⟨Z ++ news, by rw [hZ, List.append_assoc]⟩
    · simp only [if_neg e]; exact h.pre j hj
  · have e : (List.range c).map (fun j => if j = i then x else r j) = (List.range c).map r := by
      apply List.map_congr_left
      intro j hj
      have : j < c := by simpa using hj
      exact if_neg (by omega)
    rw [e]
    exact h.lgo.kept hg.1 (h.lgr i hi)
  · by_cases e : j = i
    · subst e
      simp only [if_true]
      cases hh : lg.ownBlock with
      | none => exact .inl rfl
      | some y =>
        right
        have h1 : (r j).ownBlock = none ∨ (r j).ownBlock ≠ some y := by
          rcases h.lgr j hj with t | t
          · rw [t] at hh; cases hh
          · rw [hh] at t; exact .inr (Ne.symm t)
        have := hx (some y) (fun k hk => by cases hk; exact (h.lgo.lt y hh).2) h1
        rcases this with t | t
        · rw [t]; simp
        · exact Ne.symm t
    · simp only [if_neg e]; exact h.lgr j hj
  · exact (hkeep b (Array.getElem?_eq_some_iff.1 h.bk).1 (fun e => h.rb i hi e.symm)).trans h.bk
  · by_cases e : j = i
    · subst e
      simp only [if_true]
      have := hx (some b) (fun k hk => by cases hk; exact (Array.getElem?_eq_some_iff.1 h.bk).1) (.inr (h.rb j hi))
      rcases this with t | t
      · rw [t]; simp
      · exact t
    · simp only [if_neg e]; exact h.rb j hj
/-- List c goes into the list of the new ones. -/
theorem L2.next (h : L2 b O w B G m v Y lg c r N R) {x : Value} (ho : Owns w' B 42 1 x (c + 1) ((List.range c).map r ++ [r c])) (hg : Grow w lg w' x) :
    L2 b O w' B G m v Y x (c + 1) r N R := by
  have hkeep : ∀ g, g < w.heap.size → some g ≠ lg.ownBlock → w'.heap[g]? = w.heap[g]? := fun g hl hne => hg.1.block g hl hne
  have hsz := hg.1.size
  have hx : ∀ b : Option Nat, (∀ k, b = some k → k < w.heap.size) → (lg.ownBlock = none ∨ lg.ownBlock ≠ b) → (x.ownBlock = none ∨ x.ownBlock ≠ b) := by
    intro b hb hne
    rcases hg.2 with e | e
    · rw [e]; exact hne
    · exact fresh_ne e hb
  have flip : ∀ {a : Option Nat}, (lg.ownBlock = none ∨ lg.ownBlock ≠ a) → (a = none ∨ a ≠ lg.ownBlock) := by
    intro a h
    cases a with
    | none => exact .inl rfl
    | some y =>
      right
      rcases h with t | t
      · rw [t]; simp
      · exact Ne.symm t
  refine ⟨fun j hj => ?_, fun j hj => (h.own j hj).kept hg.1 (flip (h.lgr j hj)), h.apart, h.out, fun j hj => ?_, fun j hj g hgg => Nat.lt_of_lt_of_le (h.old j hj g hgg) hsz, h.vapart, h.pre, ?_, fun j hj => ?_, fun j hj => ?_, ?_, Nat.lt_of_lt_of_le h.lt hsz, ?_, h.rb, ?_⟩
  · rw [← h.at_ j hj]
    exact World.cell?_of_block (hkeep G h.lt (fun e => h.lgG e.symm))
  · exact (h.reads j hj).block (fun g hgv => hkeep g (h.old j hj g hgv) (ne_some (flip (h.lgv j hj)) hgv))
  · rw [List.range_succ, List.map_append]; exact ho
  · exact hx _ (fun k hk => ((h.own j hj).lt k hk).2) (h.lgr j hj)
  · exact hx _ (fun k hk => h.old j hj k hk) (h.lgv j hj)
  · rcases hx (some G) (fun k hk => by cases hk; exact h.lt) (.inr h.lgG) with t | t
    · rw [t]; simp
    · exact t
  · exact (hkeep b (Array.getElem?_eq_some_iff.1 h.bk).1 (fun e => h.lgb e.symm)).trans h.bk
  · rcases hx (some b) (fun k hk => by cases hk; exact (Array.getElem?_eq_some_iff.1 h.bk).1) (.inr h.lgb) with t | t
    · rw [t]; simp
    · exact t
theorem L2.congr {r' : Nat → Value} {N' : Nat → Nat} {R' : Nat → List Value} (h : L2 b O w B G m v Y lg c r N R) (hr : r = r') (hN : N = N') (hR : R = R') : L2 b O w B G m v Y lg c r' N' R' := by
  subst hr hN hR; exact h
/-- At first. -/
theorem L2.start {n : Nat → Nat} (h : LL b O w B G m v n Y) : L2 b O w B G m v Y (.slice none 0 0) 0 v n Y :=
  ⟨h.at_, h.own, h.apart, h.out, fun i hi => (h.own i hi).reads, fun i hi g hg => ((h.own i hi).lt g hg).2, h.apart, fun i _ => ⟨[], by simp⟩, Owns.nil _ _ _ _, fun _ _ => .inl rfl, fun _ _ => .inl rfl, by simp [Value.ownBlock], h.lt, h.bk, h.bout, by simp [Value.ownBlock]⟩
end
end Go.Proofs.Ytidflgagcamdpaa
