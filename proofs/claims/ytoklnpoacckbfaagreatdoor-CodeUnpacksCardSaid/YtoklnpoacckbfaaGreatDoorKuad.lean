/- Plain: the document's reader reads zeros behind the end, and notes it. The document's reader wherever it stands; an instruction in its box; a unit in its. Lists that grow by a literal, a unit; instructions copied; a new code in a box. -/
import Derived.Test.YtoklnpoacckbfaaGreatDoorKabo
import Derived.Test.YtoklnpoacckbfaaGreatDoorKabl
import Derived.Test.YtoklnpoacckbfaaGreatDoorKuab
namespace Go.Proofs.YtoklnpoacckbfaaGreatDoor
open Go Go.RowKit Go.Lib
namespace Pl
/-- the byte at i, where the reader stands then, whether something was lacking -/
def nxV (l : List Nat) (i : Nat) : Nat := l.getD i 0
def nxI (l : List Nat) (i : Nat) : Nat := if i < l.length then i + 1 else i
def nxB (l : List Nat) (i : Nat) (b : Bool) : Bool := if i < l.length then b else true
theorem nx_in {l : List Nat} {i : Nat} (h : i < l.length) (b : Bool) : l.drop i = nxV l i :: l.drop (i + 1) ∧ nxI l i = i + 1 ∧ nxB l i b = b := by
  refine ⟨?_, if_pos h, if_pos h⟩
  rw [List.drop_eq_getElem_cons h]
  unfold nxV
  rw [List.getD_eq_getElem?_getD, List.getElem?_eq_getElem h]; rfl
theorem nx_out {l : List Nat} {i : Nat} (h : ¬ i < l.length) (b : Bool) : l.drop i = [] ∧ nxI l i = i ∧ nxB l i b = true ∧ nxV l i = 0 := by
  refine ⟨List.drop_eq_nil_of_le (by omega), if_neg h, if_neg h, ?_⟩
  unfold nxV
  rw [List.getD_eq_getElem?_getD, List.getElem?_eq_none (by omega)]; rfl
theorem nxB_true (l : List Nat) (i : Nat) : nxB l i true = true := by unfold nxB; split <;> rfl
theorem nxV_lt {l : List Nat} (hl : ∀ b ∈ l, b < 256) (i : Nat) : nxV l i < 256 := by
  by_cases h : i < l.length
  · unfold nxV
    rw [List.getD_eq_getElem?_getD, List.getElem?_eq_getElem h]
    exact hl _ (List.getElem_mem h)
  · rw [(nx_out h true).2.2.2]; omega
theorem nxI_le {l : List Nat} {i : Nat} (h : i ≤ l.length) : nxI l i ≤ l.length := by unfold nxI; split <;> omega
/-- an instruction's A, from byte i on; where the reader stands then; whether something was lacking -/
def stA (l : List Nat) (op i : Nat) (b : Bool) : Int × Nat × Bool :=
  if bytesA op = 0 then (0, i, b) else if bytesA op = 1 then ((nxV l i : Int), nxI l i, nxB l i b)
  else ((nxV l i : Int) + 256 * (nxV l (nxI l i) : Int), nxI l (nxI l i), nxB l (nxI l i) (nxB l i b))
def stB (l : List Nat) (op i : Nat) (b : Bool) : Int × Nat × Bool :=
  if two op = true then ((nxV l i : Int), nxI l i, nxB l i b) else (0, i, b)
theorem stA_true (l : List Nat) (op i : Nat) : (stA l op i true).2.2 = true := by
  unfold stA
  split
  · rfl
  · split
    · exact nxB_true _ _
    · show nxB _ _ (nxB _ _ true) = true
      rw [nxB_true, nxB_true]
theorem stB_true (l : List Nat) (op i : Nat) : (stB l op i true).2.2 = true := by
  unfold stB
  split
  · exact nxB_true _ _
  · rfl
theorem rdA_st (l : List Nat) (op i : Nat) : rdA op (l.drop i) = if (stA l op i false).2.2 = true then none else some ((stA l op i false).1, l.drop (stA l op i false).2.1) := by
  unfold rdA stA
  by_cases h0 : bytesA op = 0
  · simp [h0]
  · rw [if_neg h0, if_neg h0]
    by_cases h1 : bytesA op = 1
    · rw [if_pos h1, if_pos h1]
      by_cases hi : i < l.length
      · obtain ⟨e1, e2, e3⟩ := nx_in hi false
        rw [e1]; simp only [e2, e3]; rfl
      · obtain ⟨e1, e2, e3, _⟩ := nx_out hi false
        rw [e1]; simp only [e3]; rfl
    · rw [if_neg h1, if_neg h1]
      by_cases hi : i < l.length
      · obtain ⟨e1, e2, e3⟩ := nx_in hi false
        rw [e1]; simp only [e2, e3]
        by_cases hj : i + 1 < l.length
        · obtain ⟨f1, f2, f3⟩ := nx_in hj false
          rw [f1]; simp only [f2, f3]; rfl
        · obtain ⟨f1, f2, f3, _⟩ := nx_out hj false
          rw [f1]; simp only [f3]; rfl
      · obtain ⟨e1, e2, e3, _⟩ := nx_out hi false
        rw [e1]; simp only [e3, nxB_true]; rfl
theorem rdB_st (l : List Nat) (op i : Nat) : rdB op (l.drop i) = if (stB l op i false).2.2 = true then none else some ((stB l op i false).1, l.drop (stB l op i false).2.1) := by
  unfold rdB stB
  by_cases h1 : two op = true
  · rw [if_pos h1, if_pos h1]
    by_cases hi : i < l.length
    · obtain ⟨e1, e2, e3⟩ := nx_in hi false
      rw [e1]; simp only [e2, e3]; rfl
    · obtain ⟨e1, e2, e3, _⟩ := nx_out hi false
      rw [e1]; simp only [e3]; rfl
  · simp [h1]
/-- an instruction from byte i on -/
def stIns (l : List Nat) (i : Nat) (b : Bool) : Ins × Nat × Bool :=
  let op := nxV l i
  let x := stA l op (nxI l i) (nxB l i b)
  let y := stB l op x.2.1 x.2.2
  (⟨op, x.1, y.1⟩, y.2.1, y.2.2)
theorem rdIns_st (l : List Nat) (i : Nat) : rdIns (fun _ => true) (l.drop i) = if (stIns l i false).2.2 = true then none else some ((stIns l i false).1, l.drop (stIns l i false).2.1) := by
  by_cases hi : i < l.length
  · obtain ⟨e1, e2, e3⟩ := nx_in hi false
    rw [e1]
    have hA := rdA_st l (nxV l i) (i + 1)
    unfold stIns
    simp only [e2, e3]
    unfold rdIns
    simp only [if_true]
    cases hb : (stA l (nxV l i) (i + 1) false).2.2 with
    | true =>
      rw [hb] at hA
      rw [if_pos rfl] at hA
      rw [hA]
      rw [if_pos (stB_true ..)]
    | false =>
      rw [hb] at hA
      rw [if_neg (by simp)] at hA
      rw [hA]
      simp only []
      rw [rdB_st]
      cases hc : (stB l (nxV l i) (stA l (nxV l i) (i + 1) false).2.1 false).2.2 <;> simp
  · obtain ⟨e1, e2, e3, _⟩ := nx_out hi false
    rw [e1]
    unfold stIns
    simp only [e3]
    rw [if_pos (by
      have := stA_true l (nxV l i) (nxI l i)
      rw [this]
      exact stB_true ..)]
    rfl
/-- a round more -/
theorem glue_st {α : Type} {rd : List Nat → Option (α × List Nat)} {l l0 : List Nat} {i i' n k : Nat} {b' : Bool} {x : α} {xs : List α} (hk : k < n) (h0 : rdMany rd n l0 = glue xs (rdMany rd (n - k) (l.drop i))) (h : rd (l.drop i) = if b' = true then none else some (x, l.drop i')) :
    rdMany rd n l0 = if b' = true then none else glue (xs ++ [x]) (rdMany rd (n - (k + 1)) (l.drop i')) := by
  obtain ⟨d, hd⟩ : ∃ d, n - k = d + 1 := ⟨n - k - 1, by omega⟩
  rw [h0, hd, show n - (k + 1) = d by omega]
  cases b' with
  | true => rw [if_pos rfl] at h ⊢; exact glue_stop h
  | false => rw [if_neg (by simp)] at h ⊢; exact glue_step h
/-- the six bytes that a unit begins with -/
def st6 (l : List Nat) (i : Nat) : Nat × Nat × Nat × Nat × Nat × Nat :=
  (i, nxI l i, nxI l (nxI l i), nxI l (nxI l (nxI l i)), nxI l (nxI l (nxI l (nxI l i))), nxI l (nxI l (nxI l (nxI l (nxI l i)))))
theorem six_in {l : List Nat} {i : Nat} (h : i + 6 ≤ l.length) (b : Bool) :
    nxI l i = i + 1 ∧ nxI l (i + 1) = i + 2 ∧ nxI l (i + 2) = i + 3 ∧ nxI l (i + 3) = i + 4 ∧ nxI l (i + 4) = i + 5 ∧ nxI l (i + 5) = i + 6 ∧
    nxB l i b = b ∧ nxB l (i + 1) b = b ∧ nxB l (i + 2) b = b ∧ nxB l (i + 3) b = b ∧ nxB l (i + 4) b = b ∧ nxB l (i + 5) b = b ∧
    l.drop i = nxV l i :: nxV l (i + 1) :: nxV l (i + 2) :: nxV l (i + 3) :: nxV l (i + 4) :: nxV l (i + 5) :: l.drop (i + 6) := by
  have h0 := nx_in (l := l) (i := i) (by omega) b
  have h1 := nx_in (l := l) (i := i + 1) (by omega) b
  have h2 := nx_in (l := l) (i := i + 2) (by omega) b
  have h3 := nx_in (l := l) (i := i + 3) (by omega) b
  have h4 := nx_in (l := l) (i := i + 4) (by omega) b
  have h5 := nx_in (l := l) (i := i + 5) (by omega) b
  refine ⟨h0.2.1, h1.2.1, h2.2.1, h3.2.1, h4.2.1, h5.2.1, h0.2.2, h1.2.2, h2.2.2, h3.2.2, h4.2.2, h5.2.2, ?_⟩
  rw [h0.1, h1.1, h2.1, h3.1, h4.1, h5.1]
/-- whether the six, all of them, are there -/
def six (l : List Nat) (i : Nat) : Bool := 
  nxB l (nxI l (nxI l (nxI l (nxI l (nxI l i))))) (nxB l (nxI l (nxI l (nxI l (nxI l i)))) (nxB l (nxI l (nxI l (nxI l i))) (nxB l (nxI l (nxI l i)) (nxB l (nxI l i) (nxB l i false)))))
theorem six_of {l : List Nat} {i : Nat} (h : ¬ i + 6 ≤ l.length) : six l i = true := by
  unfold six
  by_cases h0 : i < l.length
  · rw [(nx_in h0 false).2.1, (nx_in h0 false).2.2]
    by_cases h1 : i + 1 < l.length
    · rw [(nx_in h1 false).2.1, (nx_in h1 false).2.2]
      by_cases h2 : i + 1 + 1 < l.length
      · rw [(nx_in h2 false).2.1, (nx_in h2 false).2.2]
        by_cases h3 : i + 1 + 1 + 1 < l.length
        · rw [(nx_in h3 false).2.1, (nx_in h3 false).2.2]
          by_cases h4 : i + 1 + 1 + 1 + 1 < l.length
          · rw [(nx_in h4 false).2.1, (nx_in h4 false).2.2]
            exact (nx_out (show ¬ i + 1 + 1 + 1 + 1 + 1 < l.length by omega) false).2.2.1
          · rw [(nx_out h4 false).2.2.1]; exact nxB_true _ _
        · rw [(nx_out h3 false).2.2.1]; simp only [nxB_true]
      · rw [(nx_out h2 false).2.2.1]; simp only [nxB_true]
    · rw [(nx_out h1 false).2.2.1]; simp only [nxB_true]
  · rw [(nx_out h0 false).2.2.1]; simp only [nxB_true]
theorem check_known {c : Cod} (h : check c = 0) : AllKnown c.units := by
  obtain ⟨hf, hs, _⟩ := check_ok.1 h
  intro u hu x hx
  obtain ⟨i, hi⟩ := List.mem_iff_getElem?.1 hu
  exact ((hs i u hi x hx).insOk hf.nl hf.nu.2 hf.u).op
theorem unpackC_of_any {sel : ByteArray} {lits : List Lit} {b : ByteArray} {p : Int} {us : List Unt} (h : rdQ (fun _ => true) (sb b) = some (p, us)) (hc : check ⟨sel, p, lits, us⟩ = 0) : unpackC sel lits b = some ⟨sel, p, lits, us⟩ :=
  unpackC_ok (rd_any.2 ⟨h, check_known hc⟩) hc
theorem unpackC_not_any {sel : ByteArray} {lits : List Lit} {b : ByteArray} (h : rdQ (fun _ => true) (sb b) = none) : unpackC sel lits b = none := by
  refine unpackC_none ?_
  cases hr : rd (sb b) with
  | none => rfl
  | some x => rw [(rd_any.1 hr).1] at h; cases h
theorem unpackC_any_bad {sel : ByteArray} {lits : List Lit} {b : ByteArray} {p : Int} {us : List Unt} (h : rdQ (fun _ => true) (sb b) = some (p, us)) (hc : check ⟨sel, p, lits, us⟩ ≠ 0) : unpackC sel lits b = none := by
  cases hr : rd (sb b) with
  | none => exact unpackC_none hr
  | some x =>
    have := (rd_any.1 hr).1
    rw [h] at this
    cases this
    exact unpackC_bad hr hc
theorem six_false {l : List Nat} {i : Nat} (h : six l i = false) : i + 6 ≤ l.length ∧ nxI l (nxI l (nxI l (nxI l (nxI l (nxI l i))))) = i + 6 ∧
    l.drop i = nxV l i :: nxV l (nxI l i) :: nxV l (nxI l (nxI l i)) :: nxV l (nxI l (nxI l (nxI l i))) :: nxV l (nxI l (nxI l (nxI l (nxI l i)))) :: nxV l (nxI l (nxI l (nxI l (nxI l (nxI l i))))) :: l.drop (i + 6) := by
  by_cases h6 : i + 6 ≤ l.length
  · obtain ⟨e0, e1, e2, e3, e4, e5, _, _, _, _, _, _, e⟩ := six_in h6 false
    refine ⟨h6, ?_, ?_⟩
    · rw [e0, e1, e2, e3, e4, e5]
    · rw [e0, e1, e2, e3, e4]; exact e
  · rw [six_of h6] at h; cases h
theorem six_true {l : List Nat} {i : Nat} (h : six l i = true) (q : Nat → Bool) : rdUnt q (l.drop i) = none := by
  by_cases h6 : i + 6 ≤ l.length
  · obtain ⟨e0, e1, e2, e3, e4, e5, f0, f1, f2, f3, f4, f5, _⟩ := six_in h6 false
    unfold six at h
    rw [e0, e1, e2, e3, e4, f0, f1, f2, f3, f4, f5] at h
    cases h
  · exact rdUnt_few (by rw [List.length_drop]; omega)
theorem rdQ_few {q : Nat → Bool} {l : List Nat} (h : l.length < 2) : rdQ q l = none := by
  unfold rdQ rdUnts
  match l, h with
  | [], _ => rfl
  | [_], _ => rfl
  | _ :: _ :: _, h => simp at h; omega
theorem rdQ_none {q : Nat → Bool} {p n : Nat} {r : List Nat} (h : rdMany (rdUnt q) n r = none) : rdQ q (p :: n :: r) = none := by
  unfold rdQ rdUnts; simp [h]
theorem rdQ_more {q : Nat → Bool} {p n : Nat} {r r1 : List Nat} {us : List Unt} (h : rdMany (rdUnt q) n r = some (us, r1)) (h1 : r1 ≠ []) : rdQ q (p :: n :: r) = none := by
  unfold rdQ rdUnts; simp [h]
  cases r1 with
  | nil => exact absurd rfl h1
  | cons x t => rfl
theorem rdQ_some {q : Nat → Bool} {p n : Nat} {r : List Nat} {us : List Unt} (h : rdMany (rdUnt q) n r = some (us, [])) : rdQ q (p :: n :: r) = some ((p : Int), us) := by
  unfold rdQ rdUnts; simp [h]
/-- the first two bytes -/
theorem two_false {l : List Nat} (h : nxB l (nxI l 0) (nxB l 0 false) = false) : 2 ≤ l.length ∧ nxI l (nxI l 0) = 2 ∧ l = nxV l 0 :: nxV l (nxI l 0) :: l.drop 2 := by
  by_cases h0 : 0 < l.length
  · have e0 := nx_in h0 false
    rw [e0.2.1, e0.2.2] at h
    by_cases h1 : 0 + 1 < l.length
    · have e1 := nx_in h1 false
      refine ⟨by omega, by rw [e0.2.1, e1.2.1], ?_⟩
      have e := e0.1
      rw [List.drop_zero, e1.1] at e
      rw [e0.2.1]
      exact e
    · rw [(nx_out h1 false).2.2.1] at h; cases h
  · rw [(nx_out h0 false).2.2.1, nxB_true] at h; cases h
theorem two_true {l : List Nat} (h : nxB l (nxI l 0) (nxB l 0 false) = true) : l.length < 2 := by
  by_cases h2 : l.length < 2
  · exact h2
  · have e0 := nx_in (l := l) (i := 0) (by omega) false
    have e1 := nx_in (l := l) (i := 0 + 1) (by omega) false
    rw [e0.2.1, e0.2.2, e1.2.2] at h; cases h
/-- an instruction more: the unit is read on, or it is none -/
theorem ins_more {l : List Nat} {i0 i M k : Nat} {xs : List Ins} (hk : k < M) (hM : M = nxV l (nxI l (nxI l (nxI l (nxI l i0)))) + 256 * nxV l (nxI l (nxI l (nxI l (nxI l (nxI l i0))))))
    (h6 : six l i0 = false) (h : rdMany (rdIns fun _ => true) M (l.drop (i0 + 6)) = glue xs (rdMany (rdIns fun _ => true) (M - k) (l.drop i))) :
    ((stIns l i false).2.2 = true → rdUnt (fun _ => true) (l.drop i0) = none) ∧
    ((stIns l i false).2.2 = false → rdMany (rdIns fun _ => true) M (l.drop (i0 + 6)) = glue (xs ++ [(stIns l i false).1]) (rdMany (rdIns fun _ => true) (M - (k + 1)) (l.drop (stIns l i false).2.1))) := by
  have := glue_st hk h (rdIns_st l i)
  refine ⟨fun e => ?_, fun e => ?_⟩
  · rw [e, if_pos rfl] at this
    rw [(six_false h6).2.2]
    exact rdUnt_none (by rw [← hM]; exact this)
  · rw [e, if_neg (by simp)] at this
    exact this
theorem unt_done {l : List Nat} {i0 i M : Nat} {xs : List Ins} (hM : M = nxV l (nxI l (nxI l (nxI l (nxI l i0)))) + 256 * nxV l (nxI l (nxI l (nxI l (nxI l (nxI l i0))))))
    (h6 : six l i0 = false) (h : rdMany (rdIns fun _ => true) M (l.drop (i0 + 6)) = glue xs (rdMany (rdIns fun _ => true) (M - M) (l.drop i))) :
    rdUnt (fun _ => true) (l.drop i0) = some (⟨nxV l i0, nxV l (nxI l i0), nxV l (nxI l (nxI l i0)), nxV l (nxI l (nxI l (nxI l i0))), xs⟩, l.drop i) := by
  rw [show M - M = 0 by omega, glue_done] at h
  rw [(six_false h6).2.2]
  exact rdUnt_some (by rw [← hM]; exact h)
/-- a unit more -/
theorem unt_more {l : List Nat} {i i' N k : Nat} {us : List Unt} {u : Unt} (hk : k < N) (h : rdMany (rdUnt fun _ => true) N (l.drop 2) = glue us (rdMany (rdUnt fun _ => true) (N - k) (l.drop i))) (hu : rdUnt (fun _ => true) (l.drop i) = some (u, l.drop i')) :
    rdMany (rdUnt fun _ => true) N (l.drop 2) = glue (us ++ [u]) (rdMany (rdUnt fun _ => true) (N - (k + 1)) (l.drop i')) := by
  have := glue_st (b' := false) hk h (by rw [hu]; rfl)
  rw [if_neg (by simp)] at this; exact this
theorem unt_stop {l : List Nat} {i N k : Nat} {us : List Unt} (hk : k < N) (h : rdMany (rdUnt fun _ => true) N (l.drop 2) = glue us (rdMany (rdUnt fun _ => true) (N - k) (l.drop i))) (hu : rdUnt (fun _ => true) (l.drop i) = none) :
    rdMany (rdUnt fun _ => true) N (l.drop 2) = none := by
  have := glue_st (b' := true) (x := (⟨0, 0, 0, 0, []⟩ : Unt)) (i' := i) hk h (by rw [hu]; rfl)
  rw [if_pos rfl] at this; exact this
theorem stIns_le {l : List Nat} {i : Nat} (h : i ≤ l.length) (b : Bool) : (stIns l i b).2.1 ≤ l.length := by
  unfold stIns
  simp only []
  unfold stB
  split
  · refine nxI_le ?_
    show (stA l _ _ _).2.1 ≤ _
    unfold stA
    split
    · exact nxI_le h
    · split
      · exact nxI_le (nxI_le h)
      · exact nxI_le (nxI_le (nxI_le h))
  · show (stA l _ _ _).2.1 ≤ _
    unfold stA
    split
    · exact nxI_le h
    · split
      · exact nxI_le (nxI_le h)
      · exact nxI_le (nxI_le (nxI_le h))
end Pl
end Go.Proofs.YtoklnpoacckbfaaGreatDoor
namespace Go.Proofs.YtoklnpoacckbfaaGreatDoor
open Go Go.RowKit Go.Lib
theorem nxV_at {s : ByteArray} {i : Nat} (h : i < s.size) : Pl.nxV (Pl.sb s) i = s[i].toNat := by
  have hl : i < (Pl.sb s).length := by rw [Pl.sb_size]; exact h
  unfold Pl.nxV
  rw [List.getD_eq_getElem?_getD, List.getElem?_eq_getElem hl]
  simp [Pl.sb]
  rfl
theorem RdrAt.save {S : Nat → Prop} {w w' : World} {P : Nat} {s : ByteArray} {i : Nat} {bad : Bool} (h : RdrAt w P s i bad) (hP : P < w.heap.size) (k : Save S w w') (hS : ¬ S P) : RdrAt w' P s i bad :=
  ⟨(k.cell 0 hP hS).trans h.c0, (k.cell 1 hP hS).trans h.c1, (k.cell 2 hP hS).trans h.c2, (k.frozen 1 hP hS).trans h.f1, (k.frozen 2 hP hS).trans h.f2⟩
/-- the document's reader at block P, what else has been written since w0 -/
structure DS (S : Nat → Prop) (w0 w : World) (P : Nat) (b : ByteArray) (i : Nat) (bad : Bool) : Prop where
  r : RdrAt w P b i bad
  hP : P < w0.heap.size
  s : Save S w0 w
theorem DS.save {S T : Nat → Prop} {w0 w w' : World} {P : Nat} {b : ByteArray} {i : Nat} {bad : Bool} (h : DS S w0 w P b i bad) (s : Save T w w') (hT : ¬ T P) (hS : ∀ j, j < w0.heap.size → T j → S j) : DS S w0 w' P b i bad :=
  ⟨h.r.save (Nat.lt_of_lt_of_le h.hP h.s.size) s hT, h.hP, h.s.trans s hS⟩
theorem DS.alloc {S : Nat → Prop} {w0 w : World} {P : Nat} {b : ByteArray} {i : Nat} {bad : Bool} (h : DS S w0 w P b i bad) (o : Obj) : DS S w0 (w.alloc o) P b i bad :=
  h.save (T := fun _ => False) ((Save.refl _ w).alloc o) (fun f => f) (fun _ _ f => f.elim)
theorem DS.drew {S : Nat → Prop} {w0 w : World} {P : Nat} {b : ByteArray} {i : Nat} {bad : Bool} (h : DS S w0 w P b i bad) : DS S w0 w.drew P b i bad :=
  h.save (T := fun _ => False) ((Save.refl _ w).drew) (fun f => f) (fun _ _ f => f.elim)
theorem DS.set {S : Nat → Prop} {w0 w : World} {P : Nat} {b : ByteArray} {i : Nat} {bad : Bool} (h : DS S w0 w P b i bad) (U j : Nat) (v : Value) (hU : ¬ P = U) (hS : U < w0.heap.size → S U) : DS S w0 (w.setCell ⟨U, j, none⟩ v) P b i bad :=
  h.save (T := fun g => g = U) ((Save.refl _ w).set ⟨U, j, none⟩ v (fun _ => rfl)) hU (fun g hg e => by subst e; exact hS hg)
theorem DS.self {S T : Nat → Prop} {w0 w : World} {P : Nat} {b : ByteArray} {i : Nat} {bad : Bool} (h : DS S w0 w P b i bad) : DS T w w P b i bad := ⟨h.r, Nat.lt_of_lt_of_le h.hP h.s.size, Save.refl _ _⟩
theorem DS.lift {S T : Nat → Prop} {w0 w1 w : World} {P : Nat} {b : ByteArray} {i : Nat} {bad : Bool} (h : DS T w1 w P b i bad) (k : Save S w0 w1) (hP : P < w0.heap.size) (hT : ∀ j, j < w0.heap.size → T j → S j) : DS S w0 w P b i bad :=
  ⟨h.r, hP, k.trans h.s hT⟩
theorem nextD {S : Nat → Prop} {w0 w : World} {P : Nat} {b : ByteArray} {i : Nat} {bad : Bool} {l : List Nat} (hl : Pl.sb b = l) (h : DS S w0 w P b i bad) (hS : S P) (hb : b.size ≤ 140737488355328) :
    Calls Tryz.prog 45 #[.pointer (some ⟨P, 0, none⟩)] w fun e w' => Pl.nxV l i < 256 ∧ e = .returned (.int .i64 (Pl.nxV l i : Nat)) ∧ DS S w0 w' P b (Pl.nxI l i) (Pl.nxB l i bad) ∧ But P w w' := by
  subst hl
  have hv := Pl.nxV_lt (Pl.sb_lt b) i
  by_cases hi : i < b.size
  · refine (rnext_any w P b i bad h.r hb hi).mono ?_
    rintro e w' ⟨rfl, hr, hbt⟩
    have e2 := (Pl.nx_in (l := Pl.sb b) (i := i) (by rw [Pl.sb_size]; exact hi) bad)
    rw [e2.2.1, e2.2.2]
    exact ⟨hv, by rw [nxV_at hi], ⟨hr, h.hP, h.s.trans hbt.save (fun j _ e => by subst e; exact hS)⟩, hbt⟩
  · refine (rnext_end w P b i bad h.r (by omega)).mono ?_
    rintro e w' ⟨rfl, hr, hbt⟩
    have e2 := (Pl.nx_out (l := Pl.sb b) (i := i) (by rw [Pl.sb_size]; exact hi) bad)
    rw [e2.2.1, e2.2.2.1]
    exact ⟨hv, by rw [e2.2.2.2]; rfl, ⟨hr, h.hP, h.s.trans hbt.save (fun j _ e => by subst e; exact hS)⟩, hbt⟩
theorem UntBox.set0 {w : World} {U : Nat} {a c o s : Int} {v : Value} (h : UntBox w U a c o s v) (a' : Int) : UntBox (w.setCell ⟨U, 0, none⟩ (.int .i64 a')) U a' c o s v :=
  ⟨by rw [World.cell?_setCell_same' _ _ _ (by rw [h.c0]; rfl)], by rw [World.cell?_setCell_other _ _ _ _ (by simp)]; exact h.c1, by rw [World.cell?_setCell_other _ _ _ _ (by simp)]; exact h.c2, by rw [World.cell?_setCell_other _ _ _ _ (by simp)]; exact h.c3, by rw [World.cell?_setCell_other _ _ _ _ (by simp)]; exact h.c4,
    by rw [World.frozen?_setCell]; exact h.f0, by rw [World.frozen?_setCell]; exact h.f1, by rw [World.frozen?_setCell]; exact h.f2, by rw [World.frozen?_setCell]; exact h.f3, by rw [World.frozen?_setCell]; exact h.f4, by simpa using h.lt⟩
theorem UntBox.set1 {w : World} {U : Nat} {a c o s : Int} {v : Value} (h : UntBox w U a c o s v) (a' : Int) : UntBox (w.setCell ⟨U, 1, none⟩ (.int .i64 a')) U a a' o s v :=
  ⟨by rw [World.cell?_setCell_other _ _ _ _ (by simp)]; exact h.c0, by rw [World.cell?_setCell_same' _ _ _ (by rw [h.c1]; rfl)], by rw [World.cell?_setCell_other _ _ _ _ (by simp)]; exact h.c2, by rw [World.cell?_setCell_other _ _ _ _ (by simp)]; exact h.c3, by rw [World.cell?_setCell_other _ _ _ _ (by simp)]; exact h.c4,
    by rw [World.frozen?_setCell]; exact h.f0, by rw [World.frozen?_setCell]; exact h.f1, by rw [World.frozen?_setCell]; exact h.f2, by rw [World.frozen?_setCell]; exact h.f3, by rw [World.frozen?_setCell]; exact h.f4, by simpa using h.lt⟩
theorem UntBox.set2 {w : World} {U : Nat} {a c o s : Int} {v : Value} (h : UntBox w U a c o s v) (a' : Int) : UntBox (w.setCell ⟨U, 2, none⟩ (.int .i64 a')) U a c a' s v :=
  ⟨by rw [World.cell?_setCell_other _ _ _ _ (by simp)]; exact h.c0, by rw [World.cell?_setCell_other _ _ _ _ (by simp)]; exact h.c1, by rw [World.cell?_setCell_same' _ _ _ (by rw [h.c2]; rfl)], by rw [World.cell?_setCell_other _ _ _ _ (by simp)]; exact h.c3, by rw [World.cell?_setCell_other _ _ _ _ (by simp)]; exact h.c4,
    by rw [World.frozen?_setCell]; exact h.f0, by rw [World.frozen?_setCell]; exact h.f1, by rw [World.frozen?_setCell]; exact h.f2, by rw [World.frozen?_setCell]; exact h.f3, by rw [World.frozen?_setCell]; exact h.f4, by simpa using h.lt⟩
theorem UntBox.set3 {w : World} {U : Nat} {a c o s : Int} {v : Value} (h : UntBox w U a c o s v) (a' : Int) : UntBox (w.setCell ⟨U, 3, none⟩ (.int .i64 a')) U a c o a' v :=
  ⟨by rw [World.cell?_setCell_other _ _ _ _ (by simp)]; exact h.c0, by rw [World.cell?_setCell_other _ _ _ _ (by simp)]; exact h.c1, by rw [World.cell?_setCell_other _ _ _ _ (by simp)]; exact h.c2, by rw [World.cell?_setCell_same' _ _ _ (by rw [h.c3]; rfl)], by rw [World.cell?_setCell_other _ _ _ _ (by simp)]; exact h.c4,
    by rw [World.frozen?_setCell]; exact h.f0, by rw [World.frozen?_setCell]; exact h.f1, by rw [World.frozen?_setCell]; exact h.f2, by rw [World.frozen?_setCell]; exact h.f3, by rw [World.frozen?_setCell]; exact h.f4, by simpa using h.lt⟩
theorem InsBox.set0A {w : World} {X op : Nat} {a b : Int} (h : InsBox w X op a b) (a' : Int) : InsBox (w.setCell ⟨X, 1, none⟩ (.int .i64 a')) X op a' b := h.setA a'
/-- units in blocks as Q says -/
def UntsOf (Q : Nat → Prop) (w : World) (l : List Pl.Unt) (v : Value) : Prop := ∃ A cap V, v = .slice A l.length cap ∧ (l ≠ [] → ∀ a, A = some a → Q a.block) ∧ RowAt 5 untCells w l A cap V ∧ (∀ x ∈ l, Pl.UntW x) ∧ ∀ (i : Nat) (x : Pl.Unt), l[i]? = some x → InssOf Q w x.code (V i)
theorem UntsOf.save {Q S : Nat → Prop} {w w' : World} {l : List Pl.Unt} {v : Value} (h : UntsOf Q w l v) (s : Save S w w') (hS : ∀ k, k < w.heap.size → Q k → ¬ S k) : UntsOf Q w' l v := by
  obtain ⟨A, cap, V, rfl, hB, hr, hw, hi⟩ := h
  exact ⟨A, cap, V, rfl, hB, hr.move s.size fun hn a ha => s.block _ (hr.lt hn a ha) (hS _ (hr.lt hn a ha) (hB hn a ha)), hw, fun i x hx => (hi i x hx).save s hS⟩
theorem UntsOf.mono {Q Q' : Nat → Prop} {w : World} {l : List Pl.Unt} {v : Value} (h : UntsOf Q w l v) (hQ : ∀ k, k < w.heap.size → Q k → Q' k) : UntsOf Q' w l v := by
  obtain ⟨A, cap, V, rfl, hB, hr, hw, hi⟩ := h
  exact ⟨A, cap, V, rfl, fun hn a ha => hQ _ (hr.lt hn a ha) (hB hn a ha), hr, hw, fun i x hx => (hi i x hx).mono hQ⟩
theorem UntsOf.at {Q : Nat → Prop} {w : World} {l : List Pl.Unt} {v : Value} (h : UntsOf Q w l v) : UntsAt w.heap.size w l v := by
  obtain ⟨A, cap, V, rfl, hB, hr, hw, hi⟩ := h
  exact ⟨A, cap, V, rfl, fun hn a ha => hr.lt hn a ha, hr, hw, fun i x hx => (hi i x hx).at⟩
theorem UntsOf.of_owns {Q : Nat → Prop} {w : World} {base : Nat} {e : TypeId} {v : Value} {l : List Pl.Unt} {ps : List (Pl.Unt × Value)} (h : Owns w base e 5 v ps.length (rowOf untCells ps)) (hl : ps.map (·.1) = l) (hlen : ps.length ≤ 140737488355328)
    (hw : ∀ x ∈ l, Pl.UntW x) (hv : ∀ k, v.ownBlock = some k → Q k) (hr : ∀ (i : Nat) (p : Pl.Unt × Value), ps[i]? = some p → InssOf Q w p.1.code p.2) : UntsOf Q w l v := by
  obtain ⟨A, cap, e1, hA, hrow⟩ := RowAt.of_owns untCells_len h hlen
  subst hl
  refine ⟨A, cap, valOf ps, e1, fun _ a ha => hv _ (hA a ha), hrow, hw, ?_⟩
  intro i x hx
  rw [List.getElem?_map] at hx
  cases hps : ps[i]? with
  | none => rw [hps] at hx; cases hx
  | some p =>
    rw [hps] at hx
    have : p.1 = x := by simpa using hx
    rw [valOf_at hps, ← this]
    exact hr i p hps
/-- how the document's Unpack ends -/
def RunEnd (sel : ByteArray) (lits : List Pl.Lit) (b : ByteArray) (L : Value) (w : World) (e : Ending) (w' : World) : Prop :=
  ((∃ c U', Pl.unpackC sel lits b = some c ∧ e = .returned (.tuple #[codV c L U', .int .i64 0]) ∧ UntsOf (fun k => w.heap.size ≤ k) w' c.units U') ∨
    (Pl.unpackC sel lits b = none ∧ e = .returned (.tuple #[.agg #[.string ⟨#[]⟩, .int .i64 0, .slice none 0 0, .slice none 0 0], .int .i64 203]))) ∧ Below w.heap.size w w'
end Go.Proofs.YtoklnpoacckbfaaGreatDoor
namespace Go.Proofs.YtoklnpoacckbfaaGreatDoor
open Go Go.RowKit Go.Lib
theorem step_appL {ops : Array Oper} {o : Oper} {a : Act} {K : Act → World → Prop} {Q : Exit → Act → World → Prop} {E : Prop} {w : World} (hgd : o.guard = none) (s x : Operand)
    (ho : o.op = .call { callee := .builtin .append, args := #[s, x], argTypes := #[22, 22] }) (base : Nat) (v : Value) (ps : List (Pl.Lit × Value)) (hs : a.eval s = v) (hown : Owns w base 37 5 v ps.length (rowOf litCells ps))
    (p : Pl.Lit × Value) (hp : p.2.oneCell' = true) (cs : Array Value) (hc : cs.toList = litCells p.1 p.2) (hx : a.eval x = .slice (some ⟨w.heap.size, 0, none⟩) 1 1) (hlen : ps.length ≤ 1099511627776) (hbase : base ≤ w.heap.size)
    (h : ∀ v' w', Owns w' base 37 5 v' (ps.length + 1) (rowOf litCells (ps ++ [p])) → Grow w v w' v' → K (a.put o.dst v') w') :
    if Region.wanted o (yielded ops a.tmps) = true then Oper.wp Tryz.prog o a (w.alloc (.cells cs 37)) K Q else E := by
  have hw : Region.wanted o (yielded ops a.tmps) = true := by simp [Region.wanted, hgd]
  rw [if_pos hw]
  obtain ⟨i0, hi, hz0, hz1, hz2⟩ := info_parts info_lit
  obtain ⟨v', w', hr, h2, h3⟩ := run_append_owns (P := Tryz.prog) 22 o.type i0 _ 64 Tryz.underlying22 hi hz0 hz1 hz2 rfl (hown.alloc (.cells cs 37)) ⟨w.heap.size, 0, none⟩ 1 1 (litCells p.1 p.2) rfl
    (fun j u hj => new_cells w cs _ j u (by rw [hc]; exact hj)) (by
      intro u hu
      unfold litCells at hu
      simp at hu
      rcases hu with rfl | rfl | rfl | rfl | rfl <;> first | rfl | exact hp) (by unfold maxLen; omega) (by omega) (by simp; omega)
  unfold Oper.wp execOp
  simp only [ho, resolve, invoke, builtin, Sem.run_bind, Sem.run_pure, Result.andThen_ok, List.map_toArray, List.map_cons, List.map_nil, hs, hx, hr]
  refine h v' w' ?_ ((Grow.alloc w v _).trans h3)
  rw [rowOf_append, rowOf_one]
  exact h2
theorem wpList_appU {ops : Array Oper} {rest : List Oper} {o : Oper} {a : Act} {Q : Exit → Act → World → Prop} {w : World} (hgd : o.guard = none) (s x : Operand)
    (ho : o.op = .call { callee := .builtin .append, args := #[s, x], argTypes := #[23, 23] }) (base : Nat) (v : Value) (ps : List (Pl.Unt × Value)) (hs : a.eval s = v) (hown : Owns w base 58 5 v ps.length (rowOf untCells ps))
    (p : Pl.Unt × Value) (hp : p.2.oneCell' = true) (cs : Array Value) (hc : cs.toList = untCells p.1 p.2) (hx : a.eval x = .slice (some ⟨w.heap.size, 0, none⟩) 1 1) (hlen : ps.length ≤ 1099511627776) (hbase : base ≤ w.heap.size)
    (h : ∀ v' w', Owns w' base 58 5 v' (ps.length + 1) (rowOf untCells (ps ++ [p])) → Grow w v w' v' → wpList Tryz.prog ops Q rest (a.put o.dst v') w') : wpList Tryz.prog ops Q (o :: rest) a (w.alloc (.cells cs 58)) := by
  obtain ⟨i0, hi, hz0, hz1, hz2⟩ := info_parts info_unt
  refine wpList_append_owns hgd s x 23 ho base 58 i0 _ 5 56 Tryz.underlying23 hi hz0 hz1 hz2 rfl v ps.length (rowOf untCells ps) hs (hown.alloc _) ⟨w.heap.size, 0, none⟩ 1 1 (untCells p.1 p.2) hx rfl ?_ ?_ (by unfold maxLen; omega) (by omega) (by simp; omega) ?_
  · intro j u hj
    exact new_cells w cs _ j u (by rw [hc]; exact hj)
  · intro u hu
    unfold untCells at hu
    simp at hu
    rcases hu with rfl | rfl | rfl | rfl | rfl <;> first | rfl | exact hp
  · intro v' w' ho' hg'
    refine h v' w' ?_ ((Grow.alloc w v _).trans hg')
    rw [rowOf_append, rowOf_one]
    exact ho'
/-- instructions appended to nil: a row of their own -/
theorem wpList_copyI {ops : Array Oper} {rest : List Oper} {o : Oper} {a : Act} {Q : Exit → Act → World → Prop} {w : World} (hgd : o.guard = none) (s x : Operand)
    (ho : o.op = .call { callee := .builtin .append, args := #[s, x], argTypes := #[56, 56] }) (hs : a.eval s = .slice none 0 0) {B : Nat} {l : List Pl.Ins} {u : Value} (hu : InssAt B w l u) (hx : a.eval x = u) (hl : l.length ≤ 1099511627776)
    (h : ∀ v' w', InssOf (fun k => w.heap.size ≤ k) w' l v' → v'.oneCell' = true → Below w.heap.size w w' → wpList Tryz.prog ops Q rest (a.put o.dst v') w') : wpList Tryz.prog ops Q (o :: rest) a w := by
  obtain ⟨A, cap, rfl, hB, hr, hw⟩ := hu
  obtain ⟨i0, hi, hz0, hz1, hz2⟩ := info_parts info_ins
  have hown : Owns w w.heap.size 61 3 (.slice none 0 0) 0 [] := Owns.nil _ _ _ _
  by_cases h0 : l = []
  · subst h0
    have hin : ∀ v' w', Owns w' w.heap.size 61 3 v' 0 [] → InssOf (fun k => w.heap.size ≤ k) w' [] v' := fun v' w' k => InssOf.of_owns (l := []) k (by simp) (by simp)
    rcases A with _ | ad
    · have hc := hr.nil rfl
      subst hc
      refine wpList_plain hgd fun K hK => ?_
      have hrun := run_append_owned_none (P := Tryz.prog) (w := w) w.heap.size 56 o.type 61 i0 3 Tryz.underlying56 hi (.slice none 0 0) 0 [] ⟨by simp, .inl ⟨rfl, rfl⟩⟩
      unfold Oper.wp execOp
      simp only [ho, resolve, invoke, builtin, Sem.run_bind, Sem.run_pure, Result.andThen_ok, List.map_toArray, List.map_cons, List.map_nil, hs, hx, List.length_nil, hrun]
      exact hK _ _ (h _ _ (hin _ _ hown) rfl (Below.refl _ _))
    · refine wpList_append_owns hgd s x 56 ho w.heap.size 61 i0 _ 3 24 Tryz.underlying56 hi hz0 hz1 hz2 rfl _ 0 [] hs hown ad 0 cap [] hx rfl (by simp) (by simp) (by unfold maxLen; omega) (by omega) (Nat.le_refl _) ?_
      intro v' w' ho' hg'
      obtain ⟨qa, qc, hq⟩ := ho'.form
      exact h v' w' (hin _ _ ho') (by rw [hq]; rfl) (hg'.below (Below.refl _ _) (Nat.le_refl _) (by simp [Value.ownBlock]))
  · obtain ⟨b, o', rfl⟩ := hr.addr h0
    refine wpList_append_owns hgd s x 56 ho w.heap.size 61 i0 _ 3 24 Tryz.underlying56 hi hz0 hz1 hz2 rfl _ 0 [] hs hown ⟨b, o', none⟩ l.length cap (insRow l) hx (by unfold insRow; rw [rowOf_len insCells_len, List.length_map]) ?_ ?_ (by unfold maxLen; omega) (by omega) (Nat.le_refl _) ?_
    · intro j u hj
      have hjl : j < (insRow l).length := (List.getElem?_eq_some_iff.1 hj).1
      have hlen : (insRow l).length = l.length * 3 := by unfold insRow; rw [rowOf_len insCells_len, List.length_map]
      obtain ⟨y, hy⟩ : ∃ y, l[j / 3]? = some y := ⟨_, List.getElem?_eq_getElem (by omega)⟩
      have hps : (l.map fun x => (x, Value.nilFunc))[j / 3]? = some (y, .nilFunc) := by rw [List.getElem?_map, hy]; rfl
      obtain ⟨u', hu'⟩ : ∃ u', (insCells y .nilFunc)[j % 3]? = some u' := ⟨_, List.getElem?_eq_getElem (by simp [insCells]; omega)⟩
      have h2 := rowOf_at insCells_len _ _ _ hps _ _ hu'
      rw [show j / 3 * 3 + j % 3 = j by omega] at h2
      have e : u = u' := by unfold insRow at hj; rw [h2] at hj; cases hj; rfl
      subst e
      have h3 := hr.cells b o' rfl (j / 3) y hy (j % 3) u hu'
      rw [show o' + j / 3 * 3 + j % 3 = o' + j by omega] at h3
      rw [show (⟨b, o', none⟩ : Addr).add j = ⟨b, o' + j, none⟩ from by unfold Addr.add; split <;> simp_all]
      exact h3
    · intro u hu
      unfold insRow rowOf at hu
      obtain ⟨p, hp, hu⟩ := List.mem_flatMap.1 hu
      obtain ⟨y, _, rfl⟩ := List.mem_map.1 hp
      simp [insCells] at hu
      rcases hu with rfl | rfl | rfl <;> rfl
    · intro v' w' ho' hg'
      rw [Nat.zero_add, List.nil_append] at ho'
      obtain ⟨qa, qc, hq⟩ := ho'.form
      exact h v' w' (InssOf.of_owns ho' hw hr.len) (by rw [hq]; rfl) (hg'.below (Below.refl _ _) (Nat.le_refl _) (by simp [Value.ownBlock]))
theorem boxFrozen {w : World} {cs : Array Value} {t : TypeId} {W : World} (hb : Below (w.heap.size + 1) (w.alloc (.cells cs t)) W) {j : Nat} : W.frozen? ⟨w.heap.size, j, none⟩ = false := by
  rw [hb.frozen (p := ⟨w.heap.size, j, none⟩) (by simp)]
  simp [go_sem]
theorem CodBox.new (w : World) (s p l u : Value) : CodBox (w.alloc (.cells #[s, p, l, u] 25)) w.heap.size s p l u :=
  ⟨by simp [go_sem], by simp [go_sem], by simp [go_sem], by simp [go_sem], by simp [go_sem], by simp [go_sem], by simp [go_sem], by simp [go_sem], by simp⟩
end Go.Proofs.YtoklnpoacckbfaaGreatDoor
