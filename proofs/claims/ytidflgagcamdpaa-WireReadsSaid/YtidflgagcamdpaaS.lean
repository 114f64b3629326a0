/- Lists of files that are their owners': what 'ownFiles' needs of memory. -/
import Derived.Test.YtidflgagcamdpaaR
import Derived.Test.YtidflgagcamdpaaQ
import Derived.Test.YtidflgagcamdpaaOwnr
namespace Go.Proofs.Ytidflgagcamdpaa
open Go.RowKit Go.Lib
/-- A list of pairs of cells whose first so many are written over. -/
def MM (X : List Value) (f : Nat → Value) : Nat → List Value
  | 0 => X
  | c + 1 => ((MM X f c).set (c * 2) (f c)).set (c * 2 + 1) (.string ⟨#[]⟩)
theorem MM_len (X : List Value) (f : Nat → Value) : ∀ c, (MM X f c).length = X.length
  | 0 => rfl
  | c + 1 => by simp [MM, MM_len X f c]
theorem MM_at (X : List Value) (f : Nat → Value) : ∀ c, c * 2 ≤ X.length → ∀ t, t < c → (MM X f c)[t * 2]? = some (f t) ∧ (MM X f c)[t * 2 + 1]? = some (.string ⟨#[]⟩)
  | 0, _, t, ht => by omega
  | c + 1, hc, t, ht => by
    have hl := MM_len X f c
    simp only [MM]
    by_cases h : t = c
    · subst h
      constructor
      · rw [List.getElem?_set_ne (by omega), List.getElem?_set_self (by rw [hl]; omega)]
      · rw [List.getElem?_set_self (by simp [hl]; omega)]
    · have ih := MM_at X f c (by omega) t (by omega)
      constructor
      · rw [List.getElem?_set_ne (by omega), List.getElem?_set_ne (by omega)]; exact ih.1
      · rw [List.getElem?_set_ne (by omega), List.getElem?_set_ne (by omega)]; exact ih.2
/-- A list of lists, each its owner's. -/
structure LL (b : Nat) (O : Obj) (w : World) (B G m : Nat) (v : Nat → Value) (n : Nat → Nat) (X : Nat → List Value) : Prop where
  at_ : ∀ i, i < m → w.cell? ⟨G, i, none⟩ = some (v i)
  own : ∀ i, i < m → Owns w B 60 2 (v i) (n i) (X i)
  apart : ∀ i j, i < m → j < m → i ≠ j → (v i).ownBlock = none ∨ (v i).ownBlock ≠ (v j).ownBlock
  out : ∀ i, i < m → (v i).ownBlock ≠ some G
  lt : G < w.heap.size
  bk : w.heap[b]? = some O
  bout : ∀ i, i < m → (v i).ownBlock ≠ some b
theorem LL.below {b : Nat} {O : Obj} {w w' : World} {B G m : Nat} {v : Nat → Value} {n : Nat → Nat} {X : Nat → List Value} (h : LL b O w B G m v n X) (hb : Below w.heap.size w w') : LL b O w' B G m v n X :=
  ⟨fun i hi => (hb.cell (p := ⟨G, i, none⟩) h.lt).trans (h.at_ i hi), fun i hi => (h.own i hi).below hb (fun k hk => ((h.own i hi).lt k hk).2), h.apart, h.out, Nat.lt_of_lt_of_le h.lt hb.size, (hb.block b (Array.getElem?_eq_some_iff.1 h.bk).1).trans h.bk, h.bout⟩
theorem LL.congr {b : Nat} {O : Obj} {w : World} {B G m : Nat} {v : Nat → Value} {n : Nat → Nat} {X Y : Nat → List Value} (h : LL b O w B G m v n X) (hxy : ∀ i, i < m → X i = Y i) : LL b O w B G m v n Y :=
  ⟨h.at_, fun i hi => by rw [← hxy i hi]; exact h.own i hi, h.apart, h.out, h.lt, h.bk, h.bout⟩
/-- What a store at an element needs. -/
theorem LL.slot {b : Nat} {O : Obj} {w : World} {B G m : Nat} {v : Nat → Value} {n : Nat → Nat} {X : Nat → List Value} (h : LL b O w B G m v n X) {i g cap k : Nat} (hi : i < m) (hv : v i = .slice (some ⟨g, 0, none⟩) (n i) cap) (hk : k < n i) :
    ∃ o0 o1, w.cell? ⟨g, k * 2, none⟩ = some o0 ∧ w.cell? ⟨g, k * 2 + 1, none⟩ = some o1 ∧ w.frozen? ⟨g, k * 2, none⟩ = false ∧ w.frozen? ⟨g, k * 2 + 1, none⟩ = false ∧ w.cell? ⟨G, i, none⟩ = some (.slice (some ⟨g, 0, none⟩) (n i) cap) := by
  have ho := h.own i hi
  rw [hv] at ho
  have hl := ho.1
  have hcap : n i ≤ cap := by
    rcases ho.2 with ⟨h1, _⟩ | ⟨g', cap', cur, fz, h1, hb, hg, hfz, hnc, hcm, hcs, ht⟩
    · cases h1
    · injection h1 with _ _ h2; rw [h2]; exact hnc
  refine ⟨_, _, ho.cellAt (List.getElem?_eq_getElem (by omega)), ho.cellAt (List.getElem?_eq_getElem (by omega)), ho.free (by omega), ho.free (by omega), ?_⟩
  rw [← hv]; exact h.at_ i hi
/-- One element is written over. -/
theorem LL.marked {b : Nat} {O : Obj} {w : World} {B G m : Nat} {v : Nat → Value} {n : Nat → Nat} {X : Nat → List Value} (h : LL b O w B G m v n X) {i g cap k : Nat} (hi : i < m) (hv : v i = .slice (some ⟨g, 0, none⟩) (n i) cap) (a c : Value) :
    LL b O ((w.setCell ⟨g, k * 2, none⟩ a).setCell ⟨g, k * 2 + 1, none⟩ c) B G m v n (fun j => if j = i then ((X i).set (k * 2) a).set (k * 2 + 1) c else X j) := by
  have hgG : g ≠ G := fun e => h.out i hi (by rw [hv, e]; rfl)
  refine ⟨fun j hj => ?_, fun j hj => ?_, h.apart, h.out, by simpa [World.setCell] using h.lt, ?_, h.bout⟩
  · rw [← h.at_ j hj]
    refine (World.cell?_of_block (Below.heap_setCell _ _ _ _ (Ne.symm hgG))).trans (World.cell?_of_block (Below.heap_setCell _ _ _ _ (Ne.symm hgG)))
  · by_cases hji : j = i
    · subst hji
      rw [if_pos rfl]
      have ho := h.own j hj
      rw [hv] at ho ⊢
      exact (ho.stored a).stored c
    · rw [if_neg hji]
      have hne : (v j).ownBlock ≠ some g := by
        rcases h.apart j i hj hi hji with h1 | h1
        · rw [h1]; simp
        · rw [hv] at h1; exact h1
      exact ((h.own j hj).elsewhere (a := ⟨g, k * 2, none⟩) a hne).elsewhere (a := ⟨g, k * 2 + 1, none⟩) c hne
  · have hgb : b ≠ g := fun e => h.bout i hi (by rw [hv, e]; rfl)
    rw [Below.heap_setCell _ _ _ _ hgb, Below.heap_setCell _ _ _ _ hgb]; exact h.bk
/-- How many of list j are written over when list i is at k. -/
def cnt (n : Nat → Nat) (i k j : Nat) : Nat := if j < i then n j else if j = i then k else 0
theorem cnt_next (n : Nat → Nat) (i j : Nat) : cnt n i (n i) j = cnt n (i + 1) 0 j := by
  unfold cnt
  by_cases h1 : j < i
  · rw [if_pos h1, if_pos (by omega)]
  · by_cases h2 : j = i
    · subst h2; rw [if_neg h1, if_pos rfl, if_pos (by omega)]
    · rw [if_neg h1, if_neg h2, if_neg (by omega)]; split <;> rfl
theorem cnt_step (X : Nat → List Value) (f : Nat → Nat → Value) (n : Nat → Nat) (i k j : Nat) :
    (if j = i then ((MM (X i) (f i) (cnt n i k i)).set (k * 2) (f i k)).set (k * 2 + 1) (.string ⟨#[]⟩) else MM (X j) (f j) (cnt n i k j)) = MM (X j) (f j) (cnt n i (k + 1) j) := by
  by_cases h : j = i
  · subst h
    rw [if_pos rfl]
    simp [cnt, MM]
  · rw [if_neg h]
    unfold cnt
    rw [if_neg h, if_neg h]
def mk (i k : Nat) : Value := .string (bs (markOf ((i : Int) * 1000 + k)))
end Go.Proofs.Ytidflgagcamdpaa
