/- Plain: instructions; the heights of a unit's places are the one consistent assignment, whatever the order in which they are explored. -/
namespace Go.Proofs.YtoklnpoacckbfaaGreatDoor
namespace Pl
structure Ins where
  op : Nat
  a : Int
  b : Int
  deriving DecidableEq
def ins (l : List Ins) (p : Nat) : Ins := l.getD p ⟨0, 0, 0⟩
/-- what an instruction takes off, and lays -/
def off (x : Ins) : Int :=
  if x.op = 16 ∨ x.op = 17 then x.b + 1 else if x.op = 24 then x.a else if x.op = 25 then x.b
  else if 10 ≤ x.op ∧ x.op ≤ 15 ∨ 19 ≤ x.op ∧ x.op ≤ 22 then 1 else 0
def lays (x : Ins) : Int := if x.op = 14 ∨ 18 ≤ x.op ∧ x.op ≤ 22 then 0 else if x.op = 15 then 2 else 1
def Jumps (x : Ins) : Prop := 18 ≤ x.op ∧ x.op ≤ 20
def GoesOn (x : Ins) : Prop := x.op ≠ 18 ∧ x.op ≠ 21 ∧ x.op ≠ 22
def Follows (l : List Ins) (p k : Nat) : Prop := GoesOn (ins l p) ∧ k = p + 1 ∨ Jumps (ins l p) ∧ k = (ins l p).a.toNat
def now (l : List Ins) (p : Nat) (h : Int) : Int := h - off (ins l p) + lays (ins l p)
def Good (l : List Ins) (st : Int) (H : Nat → Option Int) : Prop :=
  H 0 = some 0 ∧ ∀ p h, p < l.length → H p = some h → off (ins l p) ≤ h ∧ h ≤ st ∧ now l p h ≤ st ∧ ∀ k, Follows l p k → k < l.length ∧ now l p h ≤ 250 ∧ H k = some (now l p h)
def Fits (l : List Ins) (st : Int) : Prop := ∃ H, Good l st H
/-- the height that is noted of a place -/
def ht (hs : List Nat) (p : Nat) : Int := (hs.getD p 0 : Nat) - 1
def Set (hs : List Nat) (p : Nat) : Prop := hs.getD p 0 ≠ 0
def Done (l : List Ins) (hs : List Nat) (most : Int) (p : Nat) : Prop :=
  off (ins l p) ≤ ht hs p ∧ now l p (ht hs p) ≤ most ∧ ∀ k, Follows l p k → k < l.length ∧ now l p (ht hs p) ≤ 250 ∧ Set hs k ∧ ht hs k = now l p (ht hs p)
structure Inv (l : List Ins) (st : Int) (hs : List Nat) (todo : Nat → Prop) (most : Int) : Prop where
  len : hs.length = l.length
  pos : 0 < l.length
  zero : hs.getD 0 0 = 1
  small : ∀ p, hs.getD p 0 ≤ 251
  todos : ∀ p, todo p → p < l.length ∧ Set hs p
  done : ∀ p, p < l.length → Set hs p → todo p ∨ Done l hs most p
  most0 : 0 ≤ most
  le : ∀ p, p < l.length → Set hs p → ht hs p ≤ most
  up : ∀ H, Good l st H → most ≤ st ∧ ∀ p, p < l.length → Set hs p → H p = some (ht hs p)
theorem getD_replicate (n p : Nat) : (List.replicate n 0).getD p 0 = 0 := by
  rw [List.getD_eq_getElem?_getD, List.getElem?_replicate]; split <;> rfl
theorem getD_set (hs : List Nat) (k v p : Nat) : (hs.set k v).getD p 0 = if k = p ∧ k < hs.length then v else hs.getD p 0 := by
  rw [List.getD_eq_getElem?_getD, List.getElem?_set, List.getD_eq_getElem?_getD]
  by_cases h : k = p
  · subst h
    by_cases h2 : k < hs.length
    · simp [h2]
    · simp [h2]
  · simp [h]
theorem Inv.start {l : List Ins} {st : Int} (hst : 0 ≤ st) (hp : 0 < l.length) : Inv l st ((List.replicate l.length 0).set 0 1) (· = 0) 0 := by
  have hg : ∀ p, ((List.replicate l.length 0).set 0 1).getD p 0 = if 0 = p then 1 else 0 := by
    intro p
    rw [getD_set, getD_replicate]
    by_cases h : 0 = p
    · rw [if_pos ⟨h, by simpa using hp⟩, if_pos h]
    · rw [if_neg (fun e => h e.1), if_neg h]
  have h0 : ∀ p, Set ((List.replicate l.length 0).set 0 1) p → p = 0 := by
    intro p h
    unfold Set at h; rw [hg] at h
    by_cases e : 0 = p
    · exact e.symm
    · rw [if_neg e] at h; exact absurd rfl h
  have hh : ht ((List.replicate l.length 0).set 0 1) 0 = 0 := by unfold ht; rw [hg]; rfl
  refine ⟨by simp, hp, by rw [hg]; rfl, fun p => by rw [hg]; split <;> omega, ?_, fun p _ h => .inl (h0 p h), by omega, ?_, ?_⟩
  · intro p e; subst e; exact ⟨hp, by unfold Set; rw [hg]; decide⟩
  · intro p _ h; rw [h0 p h, hh]; omega
  · intro H hH
    exact ⟨by omega, fun p _ h => by rw [h0 p h, hh]; exact hH.1⟩
variable {l : List Ins} {st : Int} {hs : List Nat} {todo : Nat → Prop} {most : Int}
theorem nonneg {p : Nat} (h : Set hs p) : 0 ≤ ht hs p := by unfold Set at h; unfold ht; omega
theorem Inv.high (I : Inv l st hs todo most) (p : Nat) : ht hs p ≤ 250 := by have := I.small p; unfold ht; omega
/-- too little lies there -/
theorem Inv.low (I : Inv l st hs todo most) {p : Nat} (hp : todo p) (h : ht hs p < off (ins l p)) : ¬ Fits l st := by
  rintro ⟨H, hH⟩
  obtain ⟨h1, h2⟩ := I.todos p hp
  have := (hH.2 p _ h1 ((I.up H hH).2 p h1 h2)).1
  omega
/-- a place that may not be come to -/
theorem Inv.bad (I : Inv l st hs todo most) {p k : Nat} (hp : todo p) (hk : Follows l p k) (h : l.length ≤ k ∨ 250 < now l p (ht hs p) ∨ Set hs k ∧ ht hs k ≠ now l p (ht hs p)) : ¬ Fits l st := by
  rintro ⟨H, hH⟩
  obtain ⟨h1, h2⟩ := I.todos p hp
  obtain ⟨_, _, _, h3⟩ := hH.2 p _ h1 ((I.up H hH).2 p h1 h2)
  obtain ⟨h4, h5, h6⟩ := h3 k hk
  rcases h with h | h | ⟨hs', hne⟩
  · omega
  · omega
  · have := (I.up H hH).2 k h4 hs'
    rw [h6] at this
    exact hne (Option.some.inj this).symm
theorem Done.mono {p : Nat} (h : Done l hs most p) {m : Int} (hm : most ≤ m) : Done l hs m p := ⟨h.1, by have := h.2.1; omega, h.2.2⟩
/-- what lies at most is more -/
theorem Inv.raise (I : Inv l st hs todo most) {p : Nat} (hp : todo p) {m : Int} (hm : m = most ∨ m = now l p (ht hs p) ∨ m = ht hs p) (hle : most ≤ m) : Inv l st hs todo m := by
  obtain ⟨h1, h2⟩ := I.todos p hp
  refine ⟨I.len, I.pos, I.zero, I.small, I.todos, fun q hq hsq => (I.done q hq hsq).imp id (·.mono hle), by have := I.most0; omega, fun q hq hsq => by have := I.le q hq hsq; omega, fun H hH => ⟨?_, (I.up H hH).2⟩⟩
  obtain ⟨_, hh, hn, _⟩ := hH.2 p _ h1 ((I.up H hH).2 p h1 h2)
  have := (I.up H hH).1
  rcases hm with rfl | rfl | rfl <;> omega
theorem ht_set (hs : List Nat) (k v p : Nat) : ht (hs.set k v) p = if k = p ∧ k < hs.length then (v : Int) - 1 else ht hs p := by
  unfold ht; rw [getD_set]; split <;> rfl
theorem Set.keep {k v p : Nat} (h : Set hs p) (hv : v ≠ 0) : Set (hs.set k v) p := by
  unfold Set; rw [getD_set]; split
  · exact hv
  · exact h
/-- a place is come to for the first time -/
theorem Inv.come (I : Inv l st hs todo most) {p k : Nat} (hp : todo p) (hk : Follows l p k) (hlt : k < l.length) (hn : now l p (ht hs p) ≤ 250) (hm : now l p (ht hs p) ≤ most)
    (hn0 : 0 ≤ now l p (ht hs p)) (h0 : hs.getD k 0 = 0) : Inv l st (hs.set k ((now l p (ht hs p)).toNat + 1)) (fun q => q = k ∨ todo q) most := by
  obtain ⟨h1, h2⟩ := I.todos p hp
  have hkl : k < hs.length := by rw [I.len]; exact hlt
  have hne : ∀ q, Set hs q → ¬ (k = q ∧ k < hs.length) := by rintro q hq ⟨rfl, _⟩; exact hq h0
  have hset : ∀ q, Set (hs.set k ((now l p (ht hs p)).toNat + 1)) q → q = k ∨ Set hs q := by
    intro q hq
    by_cases e : q = k
    · exact .inl e
    · right; unfold Set at hq ⊢; rw [getD_set, if_neg (by rintro ⟨e', _⟩; exact e e'.symm)] at hq; exact hq
  have hkk : ht (hs.set k ((now l p (ht hs p)).toNat + 1)) k = now l p (ht hs p) := by rw [ht_set, if_pos ⟨rfl, hkl⟩]; omega
  have hold : ∀ q, Set hs q → ht (hs.set k ((now l p (ht hs p)).toNat + 1)) q = ht hs q := fun q hq => by rw [ht_set, if_neg (hne q hq)]
  refine ⟨by rw [List.length_set]; exact I.len, I.pos, ?_, ?_, ?_, ?_, I.most0, ?_, ?_⟩
  · rw [getD_set, if_neg]
    · exact I.zero
    · rintro ⟨rfl, _⟩; have := I.zero; omega
  · intro q; rw [getD_set]; split
    · omega
    · exact I.small q
  · rintro q (rfl | hq)
    · exact ⟨hlt, by unfold Set; rw [getD_set, if_pos ⟨rfl, hkl⟩]; omega⟩
    · exact ⟨(I.todos q hq).1, (I.todos q hq).2.keep (by omega)⟩
  · intro q hq hsq
    rcases hset q hsq with rfl | hq'
    · exact .inl (.inl rfl)
    · rcases I.done q hq hq' with h | ⟨d1, d2, d3⟩
      · exact .inl (.inr h)
      · refine .inr ⟨by rw [hold q hq']; exact d1, by rw [hold q hq']; exact d2, fun j hj => ?_⟩
        obtain ⟨e1, e2, e3, e4⟩ := d3 j hj
        exact ⟨e1, by rw [hold q hq']; exact e2, e3.keep (by omega), by rw [hold j e3, hold q hq']; exact e4⟩
  · intro q hq hsq
    rcases hset q hsq with rfl | hq'
    · rw [hkk]; exact hm
    · rw [hold q hq']; exact I.le q hq hq'
  · intro H hH
    refine ⟨(I.up H hH).1, fun q hq hsq => ?_⟩
    rcases hset q hsq with rfl | hq'
    · rw [hkk]
      exact ((hH.2 p _ h1 ((I.up H hH).2 p h1 h2)).2.2.2 q hk).2.2
    · rw [hold q hq']; exact (I.up H hH).2 q hq hq'
/-- a place is done -/
theorem Inv.drop (I : Inv l st hs todo most) {p : Nat} (hd : Done l hs most p) {todo' : Nat → Prop} (h1 : ∀ q, todo q → q = p ∨ todo' q) (h2 : ∀ q, todo' q → todo q) : Inv l st hs todo' most := by
  refine ⟨I.len, I.pos, I.zero, I.small, fun q hq => I.todos q (h2 q hq), fun q hq hsq => ?_, I.most0, I.le, I.up⟩
  rcases I.done q hq hsq with h | h
  · rcases h1 q h with rfl | h
    · exact .inr hd
    · exact .inl h
  · exact .inr h
theorem Inv.congr (I : Inv l st hs todo most) {todo' : Nat → Prop} (h : ∀ q, todo q ↔ todo' q) : Inv l st hs todo' most :=
  ⟨I.len, I.pos, I.zero, I.small, fun q hq => I.todos q ((h q).2 hq), fun q hq hsq => (I.done q hq hsq).imp (h q).1 id, I.most0, I.le, I.up⟩
/-- nothing is left -/
theorem Inv.end (I : Inv l st hs todo most) (h : ∀ q, ¬ todo q) : Fits l st ↔ most ≤ st := by
  constructor
  · rintro ⟨H, hH⟩; exact (I.up H hH).1
  · intro hm
    refine ⟨fun p => if p < l.length ∧ hs.getD p 0 ≠ 0 then some (ht hs p) else none, ?_, ?_⟩
    · show (if 0 < l.length ∧ hs.getD 0 0 ≠ 0 then some (ht hs 0) else none) = some 0
      have h0 := I.zero
      rw [if_pos ⟨I.pos, by omega⟩]; unfold ht; rw [h0]; rfl
    · intro p x hp hx
      simp only at hx
      by_cases hc : p < l.length ∧ hs.getD p 0 ≠ 0
      · rw [if_pos hc] at hx
        obtain rfl := Option.some.inj hx
        rcases I.done p hp hc.2 with ht | ⟨d1, d2, d3⟩
        · exact absurd ht (h p)
        · refine ⟨d1, by have := I.le p hp hc.2; omega, by omega, fun k hk => ?_⟩
          obtain ⟨e1, e2, e3, e4⟩ := d3 k hk
          exact ⟨e1, e2, by simp only; rw [if_pos ⟨e1, e3⟩, e4]⟩
      · rw [if_neg hc] at hx; cases hx
theorem count_set {hs : List Nat} {k v : Nat} (hk : k < hs.length) (h0 : hs.getD k 0 = 0) (hv : v ≠ 0) : (hs.set k v).count 0 + 1 = hs.count 0 := by
  have hg : hs[k] = 0 := by rw [List.getD_eq_getElem?_getD, List.getElem?_eq_getElem hk] at h0; exact h0
  have hpos : 0 < hs.count 0 := List.count_pos_iff.2 (by rw [← hg]; exact List.getElem_mem hk)
  rw [List.count_set hk, hg]
  simp [hv]; omega
theorem off_nonneg {x : Ins} (ha : 0 ≤ x.a ∨ x.op ≠ 24) (hb : 0 ≤ x.b ∨ (x.op ≠ 16 ∧ x.op ≠ 17 ∧ x.op ≠ 25)) : 0 ≤ off x := by
  unfold off; split
  · omega
  · split
    · omega
    · split
      · omega
      · split <;> omega
theorem lays_bd (x : Ins) : 0 ≤ lays x ∧ lays x ≤ 2 := by
  unfold lays; split
  · omega
  · split <;> omega
end Pl
end Go.Proofs.YtoklnpoacckbfaaGreatDoor
