/- Stores into rows that a call owns; lists of lists: nothing of a program. -/
import Derived.Test.YtidflgagcamdpaaOwn
namespace Go.Proofs.Ytidflgagcamdpaa
open Go Go.RowKit Go.Lib
section
variable {w : World} {base : Nat} {e : TypeId} {size : Nat} {v : Value} {n : Nat} {xs : List Value}

theorem heap_setCell_at (w : World) (g j : Nat) (u : Value) {cur : Array Value} {e : TypeId} {fz : Nat × Nat} (h : w.heap[g]? = some (.cells cur e fz)) :
    (w.setCell ⟨g, j, none⟩ u).heap[g]? = some (.cells (cur.setIfInBounds j u) e fz) := by
  simp only [World.setCell, Array.getElem?_modify, if_pos, h]
  rfl
/-- A store into an owned row. -/
theorem Owns.stored {g cap : Nat} (h : Owns w base e size (.slice (some ⟨g, 0, none⟩) n cap) n xs) {j : Nat} (u : Value) :
    Owns (w.setCell ⟨g, j, none⟩ u) base e size (.slice (some ⟨g, 0, none⟩) n cap) n (xs.set j u) := by
  refine ⟨by rw [List.length_set]; exact h.1, ?_⟩
  rcases h.2 with ⟨h1, _⟩ | ⟨g', cap', cur, fz, h1, hb, hg, hfz, hnc, hcm, hcs, ht⟩
  · cases h1
  · injection h1 with h1 _ h2
    injection h1 with h1
    injection h1 with h1
    subst h1 h2
    refine .inr ⟨g, cap, _, fz, rfl, hb, heap_setCell_at w g j u hg, hfz, hnc, hcm, by simpa using hcs, ?_⟩
    rw [Array.toList_setIfInBounds, List.take_set, ht]
/-- A store elsewhere. -/
theorem Owns.elsewhere (h : Owns w base e size v n xs) {a : Addr} (u : Value) (hne : v.ownBlock ≠ some a.block) : Owns (w.setCell a u) base e size v n xs := by
  refine ⟨h.1, ?_⟩
  rcases h.2 with hn | ⟨g, cap, cur, fz, rfl, hb, hgg, rest⟩
  · exact .inl hn
  · refine .inr ⟨g, cap, cur, fz, rfl, hb, ?_, rest⟩
    rw [Below.heap_setCell _ _ _ _ (fun e => hne (by simp [Value.ownBlock, e]))]
    exact hgg
/-- No cell of it is frozen. -/
theorem Owns.free {g cap : Nat} (h : Owns w base e size (.slice (some ⟨g, 0, none⟩) n cap) n xs) {j : Nat} (hj : j < cap * size) : w.frozen? ⟨g, j, none⟩ = false := by
  rcases h.2 with ⟨h1, _⟩ | ⟨g', cap', cur, fz, h1, hb, hg, hfz, hnc, hcm, hcs, ht⟩
  · cases h1
  · injection h1 with h1 _ h2
    injection h1 with h1
    injection h1 with h1
    subst h1 h2
    obtain ⟨lo, hi⟩ := fz
    simp only [World.frozen?, hg, Bool.and_eq_false_iff, decide_eq_false_iff_not]
    simp only at hfz
    omega
/-- Its cells. -/
theorem Owns.cellAt {g cap : Nat} (h : Owns w base e size (.slice (some ⟨g, 0, none⟩) n cap) n xs) {j : Nat} {u : Value} (hu : xs[j]? = some u) : w.cell? ⟨g, j, none⟩ = some u := by
  have := h.cells (g := g) rfl j u hu
  rw [Addr.add_lit, Nat.zero_add] at this
  exact this
/-- An owner of something is no nil. -/
theorem Owns.some_of (h : Owns w base e size v n xs) (hn : 0 < n) : ∃ g cap, v = .slice (some ⟨g, 0, none⟩) n cap ∧ base ≤ g ∧ g < w.heap.size ∧ n ≤ cap := by
  rcases h.2 with ⟨_, h0⟩ | ⟨g, cap, cur, fz, rfl, hb, hg, _, hnc, _⟩
  · omega
  · exact ⟨g, cap, rfl, hb, (Array.getElem?_eq_some_iff.1 hg).1, hnc⟩
end
/-- What a slice value at its block's head reads as. -/
def Reads (w : World) (v : Value) (xs : List Value) : Prop := ∀ g n cap, v = .slice (some ⟨g, 0, none⟩) n cap → ∀ j u, xs[j]? = some u → w.cell? ⟨g, j, none⟩ = some u
section
variable {P : Program} {w : World} {base : Nat} {e : TypeId} {size : Nat} {v : Value} {n : Nat} {xs : List Value}
theorem Owns.reads (h : Owns w base e size v n xs) : Reads w v xs := by
  intro g n' cap hv j u hu
  subst hv
  have := h.cells (g := g) rfl j u hu
  rw [Addr.add_lit, Nat.zero_add] at this
  exact this
theorem Reads.block {w' : World} (h : Reads w v xs) (hb : ∀ g, v.ownBlock = some g → w'.heap[g]? = w.heap[g]?) : Reads w' v xs := by
  intro g n cap hv j u hu
  rw [← h g n cap hv j u hu]
  exact World.cell?_of_block (hb g (by rw [hv]; rfl))
theorem Reads.of_same {u : Value} {ys : List Value} (h : Reads w u ys) (hu : ∀ g, v.ownBlock = some g → ∃ n cap, u = .slice (some ⟨g, 0, none⟩) n cap) (hx : ∀ (j : Nat) (x : Value), xs[j]? = some x → ys[j]? = some x) : Reads w v xs := by
  intro g n cap hv j x hj
  obtain ⟨n', cap', hu'⟩ := hu g (by rw [hv]; rfl)
  exact h g n' cap' hu' j x (hx j x hj)
/-- Appending leaves what the old value reads as. -/
theorem run_append_owns_reads (t ty : TypeId) (i : TypeInfo) (z : Value) (bytes : Nat) (ht : P.underlying t = some (.slice e)) (hi : P.info? e = some i) (hz : i.zero = some z)
    (hsize : i.size = size) (hby : i.bytes = bytes) (hzs : z.cells.size = size) (hown : Owns w base e size v n xs)
    (a : Addr) (m c : Nat) (news : List Value) (hl : news.length = m * size) (hnews : ∀ j u, news[j]? = some u → w.cell? (a.add j) = some u) (h1 : ∀ u ∈ news, u.oneCell' = true)
    (h63 : n + m ≤ maxLen) (hbytes : (n + m) * bytes ≤ 140737488355328) (hbase : base ≤ w.heap.size) :
    ∃ v' w', (Builtin.append_ #[t, t] ty #[v, .slice (some a) m c]).run P w = .ok v' w' ∧ Owns w' base e size v' (n + m) (xs ++ news) ∧ Grow w v w' v' ∧ Reads w' v xs := by
  obtain ⟨v', w', hr, ho, hg⟩ := run_append_owns (P := P) t ty i z bytes ht hi hz hsize hby hzs hown a m c news hl hnews h1 h63 hbytes hbase
  refine ⟨v', w', hr, ho, hg, ?_⟩
  subst hsize
  subst hby
  have hsmall : n + m ≤ 9223372036854775807 := by simp only [maxLen] at h63; omega
  rcases hown.2 with ⟨rfl, rfl⟩ | ⟨g, cap, cur, fz, rfl, hbg, hgg, hfz, hnc, hcm, hcs, htake⟩
  · intro g n cap hv; cases hv
  · by_cases hroom : n + m ≤ cap
    · have hle : (n + m) * i.size ≤ cap * i.size := Nat.mul_le_mul_right _ hroom
      have ha : n * i.size + m * i.size = (n + m) * i.size := (Nat.add_mul n m i.size).symm
      have hf := run_firstCells_some (P := P) w i.size m a m c news hl hnews
      have hst := run_storeCells_free P g (n * i.size) e fz news 0 cur w hgg (by omega) (by omega) h1
      simp only [Nat.add_zero] at hst
      have hr2 : (Builtin.append_ #[t, t] ty #[.slice (some ⟨g, 0, none⟩) n cap, .slice (some a) m c]).run P w = .ok (.slice (some ⟨g, 0, none⟩) (n + m) cap) (w.setRow g (cur.toList.take (n * i.size) ++ news ++ cur.toList.drop (n * i.size + news.length)).toArray) := by
        simp [Builtin.append_, run_underlying ht, sizeOf, typeInfo, hi, Builtin.lenOf, hroom, hf, Addr.add_lit, hst]
      rw [hr] at hr2
      injection hr2 with hv hw
      subst hv hw
      intro g' n' cap' hv' j u hu
      injection hv' with hv' _ _
      injection hv' with hv'
      injection hv' with hv'
      subst hv'
      rw [cell_of_row _ g j _ e fz (setRow_heap w g cur _ e _ hgg)]
      have hj : j < xs.length := (List.getElem?_eq_some_iff.1 hu).1
      rw [htake]
      simp only [List.getElem?_toArray, List.append_assoc]
      rw [List.getElem?_append_left hj]; exact hu
    · have holds : ∀ j u, xs[j]? = some u → w.cell? ((⟨g, 0, none⟩ : Addr).add j) = some u := hown.cells (g := g) rfl
      have hr2 := run_append_grow (P := P) w t ty e i z ht hi hz ⟨g, 0, none⟩ n cap xs hown.1 holds a m c news hl hnews (by omega) (by omega) (growslice_fits (by omega) hbytes)
      rw [hr] at hr2
      injection hr2 with hv hw
      subst hv hw
      exact (Owns.reads hown).block (fun k hk => Below.heap_alloc w.drew _ k (hown.lt k hk).2)
variable {ops : Array Oper} {rest : List Oper} {o : Oper} {a : Act} {Q : Exit → Act → World → Prop}
theorem wpList_append_owns_reads (hgd : o.guard = none) (s x : Operand) (t : TypeId)
    (ho : o.op = .call { callee := .builtin .append, args := #[s, x], argTypes := #[t, t] })
    (base : Nat) (e : TypeId) (i : TypeInfo) (z : Value) (size bytes : Nat) (ht : P.underlying t = some (.slice e)) (hi : P.info? e = some i) (hz : i.zero = some z)
    (hsize : i.size = size) (hby : i.bytes = bytes) (hzs : z.cells.size = size)
    (v : Value) (n : Nat) (xs : List Value) (hs : a.eval s = v) (hown : Owns w base e size v n xs)
    (ad : Addr) (m c : Nat) (news : List Value) (hx : a.eval x = .slice (some ad) m c) (hl : news.length = m * size) (hnews : ∀ j u, news[j]? = some u → w.cell? (ad.add j) = some u) (h1 : ∀ u ∈ news, u.oneCell' = true)
    (h63 : n + m ≤ maxLen) (hbytes : (n + m) * bytes ≤ 140737488355328) (hbase : base ≤ w.heap.size)
    (h : ∀ v' w', Owns w' base e size v' (n + m) (xs ++ news) → Grow w v w' v' → Reads w' v xs → wpList P ops Q rest (a.put o.dst v') w') : wpList P ops Q (o :: rest) a w := by
  refine wpList_plain hgd fun K hK => ?_
  obtain ⟨v', w', hr, h2, h3, h4⟩ := run_append_owns_reads (P := P) t o.type i z bytes ht hi hz hsize hby hzs hown ad m c news hl hnews h1 h63 hbytes hbase
  unfold Oper.wp execOp
  simp only [ho, resolve, invoke, builtin, Sem.run_bind, Sem.run_pure, Result.andThen_ok, List.map_toArray, List.map_cons, List.map_nil, hs, hx, hr]
  exact hK _ _ (h v' w' h2 h3 h4)
end
end Go.Proofs.Ytidflgagcamdpaa
