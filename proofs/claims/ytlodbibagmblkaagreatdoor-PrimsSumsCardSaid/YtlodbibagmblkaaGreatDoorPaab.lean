/- Rows that a call owns, whatever mark their block bears behind its cells: nothing of a program. Small facts that the walks over large integers and primitives share. Rows of words: the contract of trim. Words as a large number: the contracts of large and Of. A number as a large one: the contracts of Of, Check and told. -/
import Derived.WalkKit
import Derived.Lib.AppendStr
import Derived.Lib.ConvBytes
import Derived.Laws.BytesString
import Derived.Laws.CopyRow
import Derived.Below
import Derived.Test.YtlodbibagmblkaaGreatDoorProg
import Derived.LoopN
import Derived.LoopTactic
import Derived.WalkMore
import Derived.Deep.LoopGhost
import Derived.Deep.RegionWith
import Derived.RegionTactic
import Derived.ChangeAlike
import Derived.Lib.Hide
import Derived.Lib.ItoaNum
import Derived.Shelf.Small.Bits
import Derived.OwnWalk
namespace Go.Proofs.YtlodbibagmblkaaGreatDoor
open Go Go.RowKit Go.Lib

/-- The slice value 'v', of 'n' elements of 'size' cells each, owns the cells 'xs'; no cell up to its capacity is frozen. -/
def Owns (w : World) (base : Nat) (e : TypeId) (size : Nat) (v : Value) (n : Nat) (xs : List Value) : Prop :=
  xs.length = n * size ∧
  ((v = .slice none 0 0 ∧ n = 0) ∨
   ∃ g cap cur fz, v = .slice (some ⟨g, 0, none⟩) n cap ∧ base ≤ g ∧ w.heap[g]? = some (.cells cur e fz) ∧ (fz.2 ≤ fz.1 ∨ cap * size ≤ fz.1) ∧ n ≤ cap ∧ cap ≤ maxLen ∧ cur.size = cap * size ∧ cur.toList.take (n * size) = xs)

/-- From (w, v) to (w', v'): new blocks, and writes to v's own block alone; v' lies in v's block or in a new one. -/
def Grow (w : World) (v : Value) (w' : World) (v' : Value) : Prop :=
  w.grownBy w' v.ownBlock ∧ (v'.ownBlock = v.ownBlock ∨ ∀ k, v'.ownBlock = some k → w.heap.size ≤ k)

section
variable {w : World} {base : Nat} {e : TypeId} {size : Nat} {v : Value} {n : Nat} {xs : List Value}

theorem Grow.refl (w : World) (v : Value) : Grow w v w v := ⟨⟨rfl, rfl, rfl, Nat.le_refl _, fun _ _ _ => rfl⟩, .inl rfl⟩
theorem Grow.trans {w w1 w2 : World} {v v1 v2 : Value} (h : Grow w v w1 v1) (k : Grow w1 v1 w2 v2) : Grow w v w2 v2 := by
  obtain ⟨h1, h2⟩ := h
  obtain ⟨k1, k2⟩ := k
  have hs := h1.size
  refine ⟨⟨k1.os.trans h1.os, k1.tape.trans h1.tape, k1.output.trans h1.output, Nat.le_trans h1.size k1.size, fun j hj hne => ?_⟩, ?_⟩
  · refine (k1.block j (by omega) ?_).trans (h1.block j hj hne)
    rcases h2 with h2 | h2
    · rw [h2]; exact hne
    · intro e; have := h2 j e.symm; omega
  · rcases k2 with k2 | k2
    · rw [k2]; exact h2
    · exact .inr fun j hj => by have := k2 j hj; omega
theorem Grow.alloc (w : World) (v : Value) (o : Obj) : Grow w v (w.alloc o) v :=
  ⟨World.grownBy_alloc w o _, .inl rfl⟩
theorem Grow.drew (w : World) (v : Value) : Grow w v w.drew v := ⟨⟨rfl, rfl, rfl, Nat.le_refl _, fun _ _ _ => rfl⟩, .inl rfl⟩
theorem Grow.below {w0 w w' : World} {v v' : Value} {B : Nat} (h : Grow w v w' v') (hb : Below B w0 w) (hB : B ≤ w.heap.size) (hv : ∀ k, v.ownBlock = some k → B ≤ k) : Below B w0 w' :=
  hb.grown h.1 hB hv

theorem Owns.nil (w : World) (base : Nat) (e : TypeId) (size : Nat) : Owns w base e size (.slice none 0 0) 0 [] := ⟨by simp, .inl ⟨rfl, rfl⟩⟩
theorem Owns.lt (h : Owns w base e size v n xs) : ∀ k, v.ownBlock = some k → base ≤ k ∧ k < w.heap.size := by
  intro k hk
  rcases h.2 with ⟨rfl, _⟩ | ⟨g, cap, cur, fz, rfl, hb, hg, _⟩
  · simp [Value.ownBlock] at hk
  · simp [Value.ownBlock] at hk
    subst hk
    exact ⟨hb, (Array.getElem?_eq_some_iff.1 hg).1⟩
theorem Owns.kept {w' : World} {row : Option Nat} (h : Owns w base e size v n xs) (hg : w.grownBy w' row) (hne : v.ownBlock = none ∨ v.ownBlock ≠ row) : Owns w' base e size v n xs := by
  refine ⟨h.1, ?_⟩
  rcases h.2 with hn | ⟨g, cap, cur, fz, rfl, hb, hgg, rest⟩
  · exact .inl hn
  · refine .inr ⟨g, cap, cur, fz, rfl, hb, ?_, rest⟩
    rw [hg.block g (Array.getElem?_eq_some_iff.1 hgg).1 (by simpa [Value.ownBlock] using hne)]
    exact hgg
theorem Owns.alloc (h : Owns w base e size v n xs) (o : Obj) : Owns (w.alloc o) base e size v n xs :=
  h.kept (World.grownBy_alloc w o none) (by cases v.ownBlock <;> simp)
theorem Owns.drew (h : Owns w base e size v n xs) : Owns w.drew base e size v n xs := h
theorem Owns.below {w' : World} {B : Nat} (h : Owns w base e size v n xs) (hb : Below B w w') (hB : ∀ k, v.ownBlock = some k → k < B) : Owns w' base e size v n xs := by
  refine ⟨h.1, ?_⟩
  rcases h.2 with hn | ⟨g, cap, cur, fz, rfl, hb1, hgg, rest⟩
  · exact .inl hn
  · exact .inr ⟨g, cap, cur, fz, rfl, hb1, (hb.block g (hB g rfl)).trans hgg, rest⟩
theorem Owns.cells (h : Owns w base e size v n xs) {g : Nat} (hg : v.ownBlock = some g) : ∀ j u, xs[j]? = some u → w.cell? ((⟨g, 0, none⟩ : Addr).add j) = some u := by
  intro j u hu
  rcases h.2 with ⟨rfl, _⟩ | ⟨g', cap, cur, fz, rfl, _, hgg, _, _, _, _, htake⟩
  · simp [Value.ownBlock] at hg
  · simp [Value.ownBlock] at hg
    subst hg
    have hadd : (⟨g', 0, none⟩ : Addr).add j = ⟨g', j, none⟩ := by unfold Addr.add; split <;> simp_all
    rw [hadd, cell_of_row w g' j cur e fz hgg]
    rw [← htake, List.getElem?_take] at hu
    split at hu
    · simpa using hu
    · cases hu
theorem Owns.of_row (h : w.ownsRow base e size v n xs) : Owns w base e size v n xs := by
  refine ⟨h.1, ?_⟩
  rcases h.2 with hn | ⟨g, cap, cur, hv, hb, hg, rest⟩
  · exact .inl hn
  · exact .inr ⟨g, cap, cur, (0, 0), hv, hb, hg, .inl (Nat.le_refl _), rest⟩
theorem Owns.base_le (h : Owns w base e size v n xs) {b : Nat} (hb : b ≤ base) : Owns w b e size v n xs := by
  refine ⟨h.1, ?_⟩
  rcases h.2 with hn | ⟨g, cap, cur, fz, hv, hbg, rest⟩
  · exact .inl hn
  · exact .inr ⟨g, cap, cur, fz, hv, Nat.le_trans hb hbg, rest⟩
/-- The form of an owner. -/
theorem Owns.form (h : Owns w base e size v n xs) : ∃ a c, v = .slice a n c := by
  rcases h.2 with ⟨rfl, rfl⟩ | ⟨g, cap, cur, fz, rfl, _⟩
  · exact ⟨_, _, rfl⟩
  · exact ⟨_, _, rfl⟩
end

/-- Cells stored where nothing is frozen. -/
theorem run_storeCells_free (P : Program) (g o : Nat) (t : TypeId) (fz : Nat × Nat) : ∀ (vs : List Value) (i : Nat) (cur : Array Value) (w : World), w.heap[g]? = some (.cells cur t fz) → (fz.2 ≤ fz.1 ∨ o + i + vs.length ≤ fz.1) → o + i + vs.length ≤ cur.size → (∀ v ∈ vs, v.oneCell' = true) →
    (storeCells ⟨g, o, none⟩ vs i).run P w = .ok () (w.setRow g (cur.toList.take (o + i) ++ vs ++ cur.toList.drop (o + i + vs.length)).toArray)
  | [], i, cur, w, hg, _, _, _ => by
    simp only [storeCells, List.append_nil, List.length_nil, Nat.add_zero, List.take_append_drop, Array.toArray_toList]
    rw [setRow_self w g cur t fz hg]
    rfl
  | v :: rest, i, cur, w, hg, hfz, hl, h1 => by
    have hi : o + i < cur.size := by simp at hl; omega
    have hadd : (⟨g, o, none⟩ : Addr).add i = ⟨g, o + i, none⟩ := by unfold Addr.add; split <;> simp_all
    have hcell : w.cell? ⟨g, o + i, none⟩ = some cur[o + i] := by simp [World.cell?, hg, hi]
    have hfro : w.frozen? ⟨g, o + i, none⟩ = false := by
      obtain ⟨lo, hi'⟩ := fz
      simp only [World.frozen?, hg, Bool.and_eq_false_iff, decide_eq_false_iff_not]
      simp only [List.length_cons] at hfz
      omega
    have hst : (store ((⟨g, o, none⟩ : Addr).add i) v).run P w = .ok () (w.setRow g (cur.setIfInBounds (o + i) v)) := by
      rw [hadd, run_store P w _ v _ (h1 v (by simp)), hcell]
      simp [hfro, setCell_eq_setRow w g (o + i) cur t fz v hg]
    have ih := run_storeCells_free P g o t fz rest (i + 1) (cur.setIfInBounds (o + i) v) (w.setRow g (cur.setIfInBounds (o + i) v)) (setRow_heap w g cur _ t _ hg) (by simp at hfz; omega) (by simp at hl ⊢; omega) (fun x hx => h1 x (by simp [hx]))
    simp only [storeCells, Sem.run_bind, hst, Result.andThen_ok, ih, setRow_setRow]
    congr 3
    have e := list_seg_step cur.toList (o + i) v rest (by simp at hl ⊢; omega)
    simpa [Array.toList_setIfInBounds, Nat.add_assoc] using e

section
variable {P : Program} {w : World} {base : Nat} {e : TypeId} {size : Nat} {v : Value} {n : Nat} {xs : List Value}

/-- What a new row of the elements and zeros owns. -/
theorem Owns.grown (z : Value) (hzs : z.cells.size = size) (xs : List Value) (n old : Nat) (hlen : xs.length = n * size) (h63 : n ≤ maxLen) (hbase : base ≤ w.heap.size) (u : Value) :
    Owns (w.drew.alloc (.cells (xs.toArray ++ Builtin.zeroCells z.cells (grownCap w n old e - n)) e)) base e size (.slice (some ⟨w.heap.size, 0, none⟩) n (grownCap w n old e)) n xs ∧
    Grow w u (w.drew.alloc (.cells (xs.toArray ++ Builtin.zeroCells z.cells (grownCap w n old e - n)) e)) (.slice (some ⟨w.heap.size, 0, none⟩) n (grownCap w n old e)) := by
  have hge := grownCap_ge w n old e
  have hcm : grownCap w n old e ≤ maxLen := grownCap_le_maxLen w n old e h63
  refine ⟨⟨hlen, .inr ⟨w.heap.size, _, _, (0, 0), rfl, hbase, heap_alloc_new w.drew _, .inl (Nat.le_refl _), hge, hcm, ?_, ?_⟩⟩, ⟨⟨rfl, rfl, rfl, by simp, fun k hk _ => Below.heap_alloc w.drew _ k hk⟩, .inr fun k hk => ?_⟩⟩
  · simp only [Array.size_append, List.size_toArray, size_zeroCells, hzs, hlen, ← Nat.add_mul]
    congr 1
    omega
  · simp only [Array.toList_append]
    rw [← hlen]
    exact List.take_left
  · simp [Value.ownBlock] at hk; omega

/-- Writing behind the elements, within the capacity. -/
theorem Owns.room {g cap : Nat} {cur : Array Value} {fz : Nat × Nat} {news : List Value} {m : Nat} (hxs : cur.toList.take (n * size) = xs) (hxl : xs.length = n * size) (hl : news.length = m * size) (hbg : base ≤ g)
    (hg : w.heap[g]? = some (.cells cur e fz)) (hfz : fz.2 ≤ fz.1 ∨ cap * size ≤ fz.1) (hcm : cap ≤ maxLen) (hcs : cur.size = cap * size) (hroom : n + m ≤ cap) :
    Owns (w.setRow g (cur.toList.take (n * size) ++ news ++ cur.toList.drop (n * size + news.length)).toArray) base e size (.slice (some ⟨g, 0, none⟩) (n + m) cap) (n + m) (xs ++ news) ∧
    Grow w (.slice (some ⟨g, 0, none⟩) n cap) (w.setRow g (cur.toList.take (n * size) ++ news ++ cur.toList.drop (n * size + news.length)).toArray) (.slice (some ⟨g, 0, none⟩) (n + m) cap) := by
  have hlen : (xs ++ news).length = (n + m) * size := by rw [List.length_append, hxl, hl, Nat.add_mul]
  have hle : (n + m) * size ≤ cap * size := Nat.mul_le_mul_right _ hroom
  have ha : n * size + m * size = (n + m) * size := (Nat.add_mul n m size).symm
  refine ⟨⟨hlen, .inr ⟨g, cap, _, fz, rfl, hbg, setRow_heap w g cur _ e _ hg, hfz, hroom, hcm, ?_, ?_⟩⟩, ⟨⟨rfl, rfl, rfl, by simp, fun k _ hk => setRow_other w g k _ (fun e => hk (by simp [Value.ownBlock, e]))⟩, .inl rfl⟩⟩
  · simp only [List.size_toArray, List.length_append, List.length_take, List.length_drop, Array.length_toList]
    omega
  · rw [hxs, ← hlen]
    exact List.take_left

theorem run_append_owns (t ty : TypeId) (i : TypeInfo) (z : Value) (bytes : Nat) (ht : P.underlying t = some (.slice e)) (hi : P.info? e = some i) (hz : i.zero = some z)
    (hsize : i.size = size) (hby : i.bytes = bytes) (hzs : z.cells.size = size) (hown : Owns w base e size v n xs)
    (a : Addr) (m c : Nat) (news : List Value) (hl : news.length = m * size) (hnews : ∀ j u, news[j]? = some u → w.cell? (a.add j) = some u) (h1 : ∀ u ∈ news, u.oneCell' = true)
    (h63 : n + m ≤ maxLen) (hbytes : (n + m) * bytes ≤ 140737488355328) (hbase : base ≤ w.heap.size) :
    ∃ v' w', (Builtin.append_ #[t, t] ty #[v, .slice (some a) m c]).run P w = .ok v' w' ∧ Owns w' base e size v' (n + m) (xs ++ news) ∧ Grow w v w' v' := by
  subst hsize
  subst hby
  have hsmall : n + m ≤ 9223372036854775807 := by simp only [maxLen] at h63; omega
  have hlen : (xs ++ news).length = (n + m) * i.size := by rw [List.length_append, hown.1, hl, Nat.add_mul]
  rcases hown.2 with ⟨rfl, rfl⟩ | ⟨g, cap, cur, fz, rfl, hbg, hg, hfz, hnc, hcm, hcs, htake⟩
  · have hx : xs = [] := List.eq_nil_of_length_eq_zero (by simpa using hown.1)
    subst hx
    by_cases hm : m = 0
    · subst hm
      have hn : news = [] := List.eq_nil_of_length_eq_zero (by simpa using hl)
      subst hn
      refine ⟨.slice none 0 0, w, ?_, Owns.nil w base e i.size, Grow.refl _ _⟩
      simp [Builtin.append_, run_underlying ht, sizeOf, typeInfo, hi, Builtin.lenOf, Builtin.firstCells, loadCells, loadCellsFrom]
    · have hr := run_append_nil (P := P) w t ty e i z ht hi hz a m c news hl hnews (by omega) (by omega) (by have hb := hbytes; simp only [Nat.zero_add] at hb; omega)
      obtain ⟨o1, o2⟩ := Owns.grown (w := w) (base := base) (e := e) z hzs news m 0 hl (by omega) hbase (.slice none 0 0)
      simp only [Nat.zero_add, List.nil_append]
      exact ⟨_, _, hr, o1, o2⟩
  · by_cases hroom : n + m ≤ cap
    · have hle : (n + m) * i.size ≤ cap * i.size := Nat.mul_le_mul_right _ hroom
      have ha : n * i.size + m * i.size = (n + m) * i.size := (Nat.add_mul n m i.size).symm
      have hf := run_firstCells_some (P := P) w i.size m a m c news hl hnews
      have hst := run_storeCells_free P g (n * i.size) e fz news 0 cur w hg (by omega) (by omega) h1
      simp only [Nat.add_zero] at hst
      obtain ⟨o1, o2⟩ := Owns.room (w := w) (base := base) (e := e) htake hown.1 hl hbg hg hfz hcm hcs hroom
      refine ⟨_, _, ?_, o1, o2⟩
      simp [Builtin.append_, run_underlying ht, sizeOf, typeInfo, hi, Builtin.lenOf, hroom, hf, Addr.add_lit, hst]
    · have holds : ∀ j u, xs[j]? = some u → w.cell? ((⟨g, 0, none⟩ : Addr).add j) = some u := hown.cells (g := g) rfl
      have hr := run_append_grow (P := P) w t ty e i z ht hi hz ⟨g, 0, none⟩ n cap xs hown.1 holds a m c news hl hnews (by omega) (by omega) (growslice_fits (by omega) hbytes)
      obtain ⟨o1, o2⟩ := Owns.grown (w := w) (base := base) (e := e) z hzs (xs ++ news) (n + m) cap hlen h63 hbase (.slice (some ⟨g, 0, none⟩) n cap)
      rw [show xs.toArray ++ news.toArray = (xs ++ news).toArray from by simp] at hr
      exact ⟨_, _, hr, o1, o2⟩

/-- The same from a string. -/
theorem run_append_owns_string (t u ty : TypeId) (i : TypeInfo) (ht : P.underlying t = some (.slice e)) (hu : P.underlying u = some .string) (hi : P.info? e = some i) (hz : i.zero = some (.int .u8 0))
    (hsize : i.size = 1) (hby : i.bytes = 1) (hown : Owns w base e 1 v n xs) (s : ByteArray)
    (h63 : n + s.size ≤ maxLen) (hbytes : n + s.size ≤ 140737488355328) (hbase : base ≤ w.heap.size) :
    ∃ v' w', (Builtin.append_ #[t, u] ty #[v, .string s]).run P w = .ok v' w' ∧ Owns w' base e 1 v' (n + s.size) (xs ++ strCells s) ∧ Grow w v w' v' := by
  have hsmall : n + s.size ≤ 9223372036854775807 := by simp only [maxLen] at h63; omega
  have hxl : xs.length = n := by simpa using hown.1
  have hlen : (xs ++ strCells s).length = (n + s.size) * 1 := by rw [List.length_append, hxl, strCells_length, Nat.mul_one]
  rcases hown.2 with ⟨rfl, rfl⟩ | ⟨g, cap, cur, fz, rfl, hbg, hg, hfz, hnc, hcm, hcs, htake⟩
  · obtain ⟨v', w', hr, h2, h3, h4⟩ := run_append_own_string (P := P) w base t u ty e i ht hu hi hz hsize hby (.slice none 0 0) 0 xs ⟨hown.1, .inl ⟨rfl, rfl⟩⟩ s h63 hbytes hbase
    refine ⟨v', w', hr, Owns.of_row h2, h3, ?_⟩
    have hx : xs = [] := List.eq_nil_of_length_eq_zero hxl
    subst hx
    by_cases hm : s.size = 0
    · left; rw [h4.2 ⟨rfl, hm⟩]
    · right
      intro k hk
      have hr2 := run_append_nil_string (P := P) w t u ty e i (.int .u8 0) ht hu hi hz s (by omega) (by omega) (by rw [hby]; omega)
      rw [hr] at hr2
      injection hr2 with hv hw
      subst hv
      simp [Value.ownBlock] at hk; omega
  · by_cases hroom : n + s.size ≤ cap
    · have hf := run_firstCells_string (P := P) w 1 s
      have hst := run_storeCells_free P g n e fz (strCells s) 0 cur w hg (by rw [strCells_length]; omega) (by rw [strCells_length]; omega) (strCells_oneCell s)
      simp only [Nat.add_zero, strCells_length] at hst
      obtain ⟨o1, o2⟩ := Owns.room (w := w) (base := base) (e := e) (size := 1) (news := strCells s) (m := s.size) htake hown.1 (by rw [strCells_length, Nat.mul_one]) hbg hg hfz hcm hcs hroom
      simp only [Nat.mul_one, strCells_length] at o1 o2
      refine ⟨_, _, ?_, o1, o2⟩
      simp [Builtin.append_, run_underlying ht, run_underlying hu, sizeOf, typeInfo, hi, hsize, Builtin.lenOf, hroom, hf, Addr.add_lit, hst]
    · have holds : ∀ j u, xs[j]? = some u → w.cell? ((⟨g, 0, none⟩ : Addr).add j) = some u := hown.cells (g := g) rfl
      have hr := run_append_grow_string (P := P) w t u ty e i (.int .u8 0) ht hu hi hz ⟨g, 0, none⟩ n cap xs (by rw [hsize]; simpa using hxl) holds s (by omega) (by omega) (by rw [hby]; exact growslice_fits (by omega) (by omega))
      obtain ⟨o1, o2⟩ := Owns.grown (w := w) (base := base) (e := e) (size := 1) (.int .u8 0) rfl (xs ++ strCells s) (n + s.size) cap hlen h63 hbase (.slice (some ⟨g, 0, none⟩) n cap)
      rw [show xs.toArray ++ (strCells s).toArray = (xs ++ strCells s).toArray from by simp] at hr
      exact ⟨_, _, hr, o1, o2⟩

variable {ops : Array Oper} {rest : List Oper} {o : Oper} {a : Act} {Q : Exit → Act → World → Prop}

theorem wpList_append_owns (hgd : o.guard = none) (s x : Operand) (t : TypeId)
    (ho : o.op = .call { callee := .builtin .append, args := #[s, x], argTypes := #[t, t] })
    (base : Nat) (e : TypeId) (i : TypeInfo) (z : Value) (size bytes : Nat) (ht : P.underlying t = some (.slice e)) (hi : P.info? e = some i) (hz : i.zero = some z)
    (hsize : i.size = size) (hby : i.bytes = bytes) (hzs : z.cells.size = size)
    (v : Value) (n : Nat) (xs : List Value) (hs : a.eval s = v) (hown : Owns w base e size v n xs)
    (ad : Addr) (m c : Nat) (news : List Value) (hx : a.eval x = .slice (some ad) m c) (hl : news.length = m * size) (hnews : ∀ j u, news[j]? = some u → w.cell? (ad.add j) = some u) (h1 : ∀ u ∈ news, u.oneCell' = true)
    (h63 : n + m ≤ maxLen) (hbytes : (n + m) * bytes ≤ 140737488355328) (hbase : base ≤ w.heap.size)
    (h : ∀ v' w', Owns w' base e size v' (n + m) (xs ++ news) → Grow w v w' v' → wpList P ops Q rest (a.put o.dst v') w') : wpList P ops Q (o :: rest) a w := by
  refine wpList_plain hgd fun K hK => ?_
  obtain ⟨v', w', hr, h2, h3⟩ := run_append_owns (P := P) t o.type i z bytes ht hi hz hsize hby hzs hown ad m c news hl hnews h1 h63 hbytes hbase
  unfold Oper.wp execOp
  simp only [ho, resolve, invoke, builtin, Sem.run_bind, Sem.run_pure, Result.andThen_ok, List.map_toArray, List.map_cons, List.map_nil, hs, hx, hr]
  exact hK _ _ (h v' w' h2 h3)

theorem wpList_append_owns_string (hgd : o.guard = none) (s x : Operand) (t u : TypeId)
    (ho : o.op = .call { callee := .builtin .append, args := #[s, x], argTypes := #[t, u] })
    (base : Nat) (e : TypeId) (i : TypeInfo) (ht : P.underlying t = some (.slice e)) (hu : P.underlying u = some .string) (hi : P.info? e = some i) (hz : i.zero = some (.int .u8 0))
    (hsize : i.size = 1) (hby : i.bytes = 1)
    (v : Value) (n : Nat) (xs : List Value) (hs : a.eval s = v) (hown : Owns w base e 1 v n xs) (st : ByteArray) (hx : a.eval x = .string st)
    (h63 : n + st.size ≤ maxLen) (hbytes : n + st.size ≤ 140737488355328) (hbase : base ≤ w.heap.size)
    (h : ∀ v' w', Owns w' base e 1 v' (n + st.size) (xs ++ strCells st) → Grow w v w' v' → wpList P ops Q rest (a.put o.dst v') w') : wpList P ops Q (o :: rest) a w := by
  refine wpList_plain hgd fun K hK => ?_
  obtain ⟨v', w', hr, h2, h3⟩ := run_append_owns_string (P := P) t u o.type i ht hu hi hz hsize hby hown st h63 hbytes hbase
  unfold Oper.wp execOp
  simp only [ho, resolve, invoke, builtin, Sem.run_bind, Sem.run_pure, Result.andThen_ok, List.map_toArray, List.map_cons, List.map_nil, hs, hx, hr]
  exact hK _ _ (h v' w' h2 h3)

/-- '[]byte(s)': a new row that is owned. -/
theorem Owns.ofString (w : World) (base : Nat) (e : TypeId) (s : ByteArray) (hs : s.size ≤ maxLen) (hb : base ≤ w.heap.size) :
    Owns (bytesWorld w e s) base e 1 (.slice (some ⟨w.heap.size, 0, none⟩) s.size (grownCap w s.size 0 e)) s.size (strCells s) := by
  have hge := grownCap_ge w s.size 0 e
  have hcm : grownCap w s.size 0 e ≤ maxLen := grownCap_le_maxLen w s.size 0 e hs
  have hz : (bytesCells w e s).size = grownCap w s.size 0 e := by
    have : s.data.size = s.size := rfl
    simp [bytesCells]; omega
  refine ⟨by rw [strCells_length, Nat.mul_one], .inr ⟨w.heap.size, _, bytesCells w e s, _, rfl, hb, bytesWorld_at_new w e s, ?_, hge, hcm, by rw [hz, Nat.mul_one], ?_⟩⟩
  · right; simp only; rw [hz, Nat.mul_one]; exact Nat.le_refl _
  · have hl : (strCells s).length = s.size * 1 := by rw [strCells_length, Nat.mul_one]
    have e1 : (bytesCells w e s).toList = strCells s ++ List.replicate (grownCap w s.size 0 e - s.size) (.int .u8 0) := by
      simp [bytesCells, strCells]
    rw [e1, ← hl]; exact List.take_left
theorem bytesWorld_grownBy (w : World) (e : TypeId) (s : ByteArray) (row : Option Nat) : w.grownBy (bytesWorld w e s) row :=
  ⟨rfl, rfl, rfl, by rw [bytesWorld_size]; omega, fun k hk _ => bytesWorld_at_old w e s k hk⟩
theorem bytesWorld_below (w : World) (e : TypeId) (s : ByteArray) : Below w.heap.size w (bytesWorld w e s) :=
  ⟨rfl, rfl, rfl, by rw [bytesWorld_size]; omega, fun k hk => bytesWorld_at_old w e s k hk⟩
theorem wpList_bytes_of_string (hgd : o.guard = none) (x : Operand) (src dst : TypeId) (ho : o.op = .convert src dst x) (s : ByteArray) (hx : a.eval x = .string s) (e : TypeId) {u : TypeDesc}
    (hs : P.underlying src = some u) (hd : P.underlying dst = some (.slice e)) (he : P.underlying e = some (.int .u8))
    (h : wpList P ops Q rest (a.put o.dst (.slice (some ⟨w.heap.size, 0, none⟩) s.size (grownCap w s.size 0 e))) (bytesWorld w e s)) : wpList P ops Q (o :: rest) a w := by
  refine wpList_plain hgd fun K hK => ?_
  have hr := Lib.run_convert_string_bytes (P := P) w src dst e s hs hd he
  unfold Oper.wp execOp
  simp only [ho, Sem.run_bind, Sem.run_pure, Result.andThen_ok, hx, hr]
  exact hK _ _ h

theorem foldl_push : ∀ (l : List UInt8) (s : ByteArray), ((l.map fun b => (b.toNat : Int)).foldl (fun r n => r.push (UInt8.ofNat n.toNat)) s) = ⟨s.data ++ l.toArray⟩
  | [], s => by simp
  | b :: r, s => by
    simp only [List.map_cons, List.foldl_cons]
    rw [foldl_push r]
    simp [ByteArray.push]
/-- 'string(b)' of an owned row. -/
theorem run_string_of_owns {P : Program} {w : World} (src dst : TypeId) (hs : P.underlying src = some (.slice e)) (he : P.underlying e = some (.int .u8)) (hd : P.underlying dst = some .string)
    {l : List UInt8} (hown : Owns w base e 1 v n (l.map fun b => Value.int .u8 b.toNat)) : (convert src dst v).run P w = .ok (.string ⟨l.toArray⟩) w := by
  rcases hown.2 with ⟨rfl, rfl⟩ | ⟨g, cap, cur, fz, rfl, hbg, hg, hfz, hnc, hcm, hcs, htake⟩
  · have hx : l = [] := List.eq_nil_of_length_eq_zero (by simpa using hown.1)
    subst hx
    rw [run_convert_bytes_string w src dst e none 0 0 hs he hd]
    simp [Conv.bytesToString, Sem.run_pure]
    rfl
  · rw [run_convert_bytes_string w src dst e _ n cap hs he hd]
    have hn : l.length = n := by simpa using hown.1
    have hc := hown.cells (g := g) rfl
    have hload : (loadCells ⟨g, 0, none⟩ n).run P w = .ok ((l.map fun b => (b.toNat : Int)).map (Value.int .u8)).toArray w := by
      have h2 := run_loadCells_list (P := P) w ⟨g, 0, none⟩ (l.map fun b => Value.int .u8 b.toNat) hc
      rw [List.length_map, hn] at h2
      rw [h2, List.map_map]
      rfl
    rw [run_bytesToString w ⟨g, 0, none⟩ n cap _ hload, foldl_push]
    simp
end
end Go.Proofs.YtlodbibagmblkaaGreatDoor
namespace Go.Proofs.YtlodbibagmblkaaGreatDoor
open Go.RowKit Go.Lib
theorem add_plain (b o j : Nat) : (⟨b, o, none⟩ : Addr).add j = ⟨b, o + j, none⟩ := by unfold Addr.add; split <;> simp_all
def bc (l : List UInt8) : List Value := l.map fun b => Value.int .u8 b.toNat
theorem bc_app (a b : List UInt8) : bc (a ++ b) = bc a ++ bc b := by simp [bc]
theorem bc_len (a : List UInt8) : (bc a).length = a.length := by simp [bc]
theorem info5 : (Tryz.prog.info? 5).map (fun i => (i.zero, i.size, i.bytes)) = some (some (.int .u8 0), 1, 1) := by kernel_rfl
theorem ones {news : List Int} : ∀ u ∈ news.map (Value.int .u8), u.oneCell' = true := by
  intro u hu; obtain ⟨x, _, rfl⟩ := List.mem_map.1 hu; rfl
theorem wpList_app {ops : Array Oper} {rest : List Oper} {o : Oper} {a : Act} {Q : Exit → Act → World → Prop} {w : World} (hgd : o.guard = none) (s x : Operand)
    (ho : o.op = .call { callee := .builtin .append, args := #[s, x], argTypes := #[85, 85] }) (base : Nat) (v : Value) (n : Nat) (xs : List Value) (hs : a.eval s = v) (hown : Owns w base 5 1 v n xs)
    (news : List Value) (hx : a.eval x = .slice (some ⟨w.heap.size, 0, none⟩) news.length news.length) (h1 : ∀ u ∈ news, u.oneCell' = true) (hlen : n + news.length ≤ 1000000) (hbase : base ≤ w.heap.size)
    (h : ∀ v' w', Owns w' base 5 1 v' (n + news.length) (xs ++ news) → Grow w v w' v' → wpList Tryz.prog ops Q rest (a.put o.dst v') w') : wpList Tryz.prog ops Q (o :: rest) a (w.alloc (.cells news.toArray 5)) := by
  obtain ⟨i0, hi, hz0, hz1, hz2⟩ := info_parts info5
  refine wpList_append_owns hgd s x 85 ho base 5 i0 (.int .u8 0) 1 1 Tryz.underlying85 hi hz0 hz1 hz2 rfl v n xs hs (hown.alloc _) ⟨w.heap.size, 0, none⟩ news.length news.length news hx (by simp) ?_ h1 (by unfold maxLen; omega) (by omega) (by simp; omega) ?_
  · intro j u hj
    rw [add_plain, Nat.zero_add, World.cell?_alloc_new]
    simpa using hj
  · intro v' w' ho' hg'
    exact h v' w' ho' ((Grow.alloc w v _).trans hg')
theorem heap_alloc_at (w : World) (o : Obj) : (w.alloc o).heap[w.heap.size]? = some o := by
  show (w.heap.push o)[w.heap.size]? = some o
  simp
/-- A string of bytes. -/
abbrev bs (l : List UInt8) : ByteArray := ⟨l.toArray⟩
theorem bs_app (a b : List UInt8) : bs a ++ bs b = bs (a ++ b) := by
  apply ByteArray.ext
  simp [ByteArray.data_append]
/-- The bytes of a text at a place. -/
def At (s : ByteArray) (i : Nat) (l : List UInt8) : Prop := ∀ (k : Nat) (h : k < l.length) (h2 : i + k < s.size), s[i + k] = l[k]
theorem At.get {s : ByteArray} {i : Nat} {l : List UInt8} (h : At s i l) {k p : Nat} (hk : k < l.length) (hq : p < s.size) (hp : p = i + k) : s[p]'hq = l[k] := by
  subst hp; exact h k hk hq
theorem wrap_nat {a : Nat} (h : a < 18446744073709551616) : IntKind.u64.wrap (a : Int) = a := by
  have := IntKind.wrap_u64 (a : Int)
  rw [this]; omega
theorem bits_low {a k : Nat} (ha : a < 18446744073709551616) (hk : k ≤ 63) : bits .and .u64 (a : Int) ((2 ^ k - 1 : Nat) : Int) = ((a % 2 ^ k : Nat) : Int) := by
  have h64 : (2 : Nat) ^ IntKind.u64.bits = 18446744073709551616 := rfl
  have hp : 2 ^ k ≤ 2 ^ 63 := Nat.pow_le_pow_right (by decide) hk
  have hm : a % 2 ^ k < 2 ^ k := Nat.mod_lt _ (Nat.pow_pos (by decide))
  simp only [bits, BitVec.ofInt_natCast, BitVec.toNat_and, BitVec.toNat_ofNat, h64]
  rw [Nat.mod_eq_of_lt ha, Nat.mod_eq_of_lt (by omega), Nat.and_two_pow_sub_one_eq_mod, wrap_nat (by omega)]
theorem bs_size (l : List UInt8) : (bs l).size = l.length := rfl
theorem ret_int {k : IntKind} {a b : Int} (h : a = b) : Ending.returned (.int k a) = .returned (.int k b) := by rw [h]
namespace Fl
theorem log2_between {n l : Nat} (h1 : 2 ^ l ≤ n) (h2 : n < 2 ^ (l + 1)) : n.log2 = l := by
  have h0 : n ≠ 0 := by have := Nat.two_pow_pos l; omega
  have a := (Nat.le_log2 h0).2 h1
  have b := (Nat.log2_lt h0).2 h2
  omega
end Fl
namespace Pl
theorem bitLen_bounds {x : Nat} (h : x < 18446744073709551616) (h0 : x ≠ 0) : 1 ≤ Lib.bitLen x ∧ 2 ^ (Lib.bitLen x - 1) ≤ x ∧ x < 2 ^ Lib.bitLen x := bitLenAux_bounds 64 x h h0
theorem bitLen_unique {x k : Nat} (h : x < 18446744073709551616) (h1 : 2 ^ k ≤ x) (h2 : x < 2 ^ (k + 1)) : Lib.bitLen x = k + 1 := by
  obtain ⟨a, b, c⟩ := bitLen_bounds h (by have := Nat.pow_pos (a := 2) (n := k) (by decide); omega)
  have i1 : k < Lib.bitLen x := (Nat.pow_lt_pow_iff_right (a := 2) (by decide)).1 (by omega)
  have i2 : Lib.bitLen x - 1 < k + 1 := (Nat.pow_lt_pow_iff_right (a := 2) (by decide)).1 (by omega)
  omega
end Pl
theorem log2_len {r : Nat} (h0 : r ≠ 0) (h : r < 18446744073709551616) : Lib.bitLen r = r.log2 + 1 := by
  exact Pl.bitLen_unique h (Nat.log2_self_le h0) (by rw [Nat.pow_succ]; exact (by have := Nat.lt_log2_self (n := r); rw [Nat.pow_succ] at this; exact this))
end Go.Proofs.YtlodbibagmblkaaGreatDoor
namespace Go.Proofs.YtlodbibagmblkaaGreatDoor
open Go.RowKit Go.Lib
/-- A slice that reads as words of 32 bits. -/
def Rd (w : World) (v : Value) (xs : List Nat) : Prop :=
  (v = .slice none 0 0 ∧ xs = []) ∨ ∃ b cap, v = .slice (some ⟨b, 0, none⟩) xs.length cap ∧ xs.length ≤ cap ∧ b < w.heap.size ∧ ∀ (j x : Nat), xs[j]? = some x → w.cell? ⟨b, j, none⟩ = some (.int .u32 x)
theorem Rd.below {w w' : World} {v : Value} {xs : List Nat} (h : Rd w v xs) (hb : Below w.heap.size w w') : Rd w' v xs := by
  rcases h with h | ⟨b, cap, h1, h2, h3, h4⟩
  · exact .inl h
  · exact .inr ⟨b, cap, h1, h2, Nat.lt_of_lt_of_le h3 hb.size, fun j x hx => by rw [hb.cell (p := ⟨b, j, none⟩) h3]; exact h4 j x hx⟩
namespace Pl
/-- Words without noughts at the end. -/
def trimW (xs : List Nat) : List Nat := (xs.reverse.dropWhile (· == 0)).reverse
theorem trimW_snoc_zero (l : List Nat) : trimW (l ++ [0]) = trimW l := by simp [trimW]
theorem trimW_snoc {l : List Nat} {c : Nat} (h : c ≠ 0) : trimW (l ++ [c]) = l ++ [c] := by simp [trimW, h]
theorem trimW_nil : trimW [] = [] := rfl
/-- The number that words are. -/
def num : List Nat → Nat
  | [] => 0
  | x :: xs => x + 4294967296 * num xs
theorem num_append : ∀ (a b : List Nat), num (a ++ b) = num a + 4294967296 ^ a.length * num b
  | [], b => by simp [num]
  | x :: a, b => by rw [List.cons_append, num, num_append a b, num, List.length_cons, Nat.pow_succ]; rw [Nat.mul_add, ← Nat.mul_assoc, Nat.mul_comm 4294967296 (4294967296 ^ a.length)]; omega
theorem num_trimW (xs : List Nat) : num (trimW xs) = num xs := by
  have key : ∀ l : List Nat, num (l.dropWhile (· == 0)).reverse = num l.reverse := by
    intro l
    induction l with
    | nil => rfl
    | cons a l ih =>
      by_cases h : a = 0
      · subst h; simp [ih, num_append, num]
      · simp [h]
  have := key xs.reverse
  rw [List.reverse_reverse] at this
  exact this
end Pl
def TrimOk (w : World) (xs : List Nat) (e : Ending) (w' : World) : Prop := ∃ v', e = .returned v' ∧ Rd w v' (Pl.trimW xs) ∧ w = w'
set_option maxHeartbeats 1000000 in
theorem trim_any (v : Value) (xs : List Nat) (w : World) (h : Rd w v xs) (hl : xs.length ≤ 100000) : Calls Tryz.prog 136 #[v] w (TrimOk w xs) := by
  rcases h with ⟨rfl, rfl⟩ | ⟨b, cap, rfl, h2, h3, h4⟩
  · go_enter Tryz.func136, Tryz.ntmps136
    go_wp2_with fail
    refine wp_loop_rounds 1 ?_
    rw [rounds_succ]
    go_wp2_with fail
    go_ret
    exact ⟨_, rfl, .inl ⟨rfl, rfl⟩, rfl⟩
  · have H4 := Lib.hid h4
    clear h4
    obtain ⟨n, hn⟩ : ∃ n, xs.length = n := ⟨_, rfl⟩
    rw [hn] at h2 hl ⊢
    have HN := Lib.hid hn
    clear hn
    go_enter Tryz.func136, Tryz.ntmps136
    go_wp2_with fail
    go_loop [0] (fun s => ∃ k : Nat, k ≤ n ∧ s = .slice (some ⟨b, 0, none⟩) k cap ∧ Hid (Pl.trimW (xs.take k) = Pl.trimW xs)) (fun s => match s with | .slice _ k _ => k | _ => 0)
    case atStart => exact ⟨n, Nat.le_refl _, rfl, Lib.hid (by rw [List.take_of_length_le (by rw [HN.out]; exact Nat.le_refl _)])⟩
    case round =>
      obtain ⟨k, hk, rfl, hz⟩ := hrel
      cases k with
      | zero =>
        go_wp2_with fail
        go_ret
        exact ⟨_, rfl, .inr ⟨b, cap, by rw [← hz.out]; rfl, by rw [← hz.out]; simp [Pl.trimW], h3, fun j x hx => by rw [← hz.out] at hx; simp [Pl.trimW] at hx⟩, rfl⟩
      | succ k =>
        have hk2 : k < xs.length := by rw [HN.out]; omega
        have hc := H4.out k xs[k] (List.getElem?_eq_getElem hk2)
        have HT := Lib.hid (show xs.take (k + 1) = xs.take k ++ [xs[k]] from List.take_succ_eq_append_getElem hk2)
        generalize xs[k] = c at hc HT
        by_cases h0 : c = 0
        · have b0 : ((c : Int) == 0) = true := by rw [beq_iff_eq]; omega
          have HS := Lib.hid (show Pl.trimW (xs.take k) = Pl.trimW xs by rw [← hz.out, HT.out, h0, Pl.trimW_snoc_zero])
          clear h0 HT hz
          go_wp2_with fail
          go_round
          case rel => exact ⟨k, by omega, rfl, HS⟩
          case measure => simp
        · have b0 : ((c : Int) == 0) = false := by rw [beq_eq_false_iff_ne]; omega
          have HS := Lib.hid (show Pl.trimW xs = xs.take (k + 1) by rw [← hz.out, HT.out, Pl.trimW_snoc h0])
          clear h0 HT hz
          go_wp2_with fail
          go_ret
          have hlen : (xs.take (k + 1)).length = k + 1 := by rw [List.length_take, HN.out]; omega
          refine ⟨_, rfl, .inr ⟨b, cap, by rw [HS.out, hlen]; rfl, by rw [HS.out, hlen]; omega, h3, fun j x hx => ?_⟩, rfl⟩
          rw [HS.out] at hx
          rw [List.getElem?_take] at hx
          split at hx
          · exact H4.out j x hx
          · cases hx
end Go.Proofs.YtlodbibagmblkaaGreatDoor
namespace Go.Proofs.YtlodbibagmblkaaGreatDoor
open Go.RowKit Go.Lib
namespace Pl
def four (x : Nat) : List UInt8 := [UInt8.ofNat x, UInt8.ofNat (x / 256), UInt8.ofNat (x / 65536), UInt8.ofNat (x / 16777216)]
def flat (xs : List Nat) : List UInt8 := xs.flatMap four
def strip (l : List UInt8) : List UInt8 := (l.reverse.dropWhile (· == 0)).reverse
theorem strip_snoc_zero (l : List UInt8) : strip (l ++ [0]) = strip l := by simp [strip]
theorem strip_snoc {l : List UInt8} {c : UInt8} (h : c ≠ 0) : strip (l ++ [c]) = l ++ [c] := by simp [strip, h]
theorem flat_snoc (l : List Nat) (x : Nat) : flat (l ++ [x]) = flat l ++ four x := by simp [flat]
theorem flat_len (l : List Nat) : (flat l).length = 4 * l.length := by
  induction l with
  | nil => rfl
  | cons a l ih =>
    have : flat (a :: l) = four a ++ flat l := by simp [flat]
    rw [this, List.length_append, ih]; simp [four]; omega
/-- The bytes of words, the lowest first. -/
def bytesOf (xs : List Nat) : List UInt8 := strip (flat (trimW xs))
end Pl
theorem bc_four {x : Nat} (h : x < 4294967296) : bc (Pl.four x) = [.int .u8 ((x : Int) % 256), .int .u8 ((x : Int) / 256 % 256), .int .u8 ((x : Int) / 65536 % 256), .int .u8 ((x : Int) / 16777216)] := by
  simp [bc, Pl.four]; omega
theorem Owns.shrink {w : World} {base g N n cap : Nat} {xs : List Value} (h : Owns w base 5 1 (.slice (some ⟨g, 0, none⟩) N cap) N xs) (hn : n ≤ N) : Owns w base 5 1 (.slice (some ⟨g, 0, none⟩) n cap) n (xs.take n) := by
  have h1 := h.1
  rw [Nat.mul_one] at h1
  refine ⟨by rw [List.length_take, h1]; omega, ?_⟩
  rcases h.2 with ⟨h2, _⟩ | ⟨g', cap', cur, fz, h2, hb, hg, hfz, hnc, hcm, hcs, ht⟩
  · cases h2
  · injection h2 with e1 e2 e3
    injection e1 with e1; injection e1 with e1
    subst e1 e3
    refine .inr ⟨g, cap, cur, fz, rfl, hb, hg, hfz, by omega, hcm, hcs, ?_⟩
    rw [Nat.mul_one] at ht ⊢
    rw [← ht, List.take_take, Nat.min_eq_left hn]
theorem two_set (wr : World) (B : Nat) (x y : Value) {v0 v1 : Value} (r0 : wr.cell? ⟨B, 0, none⟩ = some v0) (r1 : wr.cell? ⟨B, 1, none⟩ = some v1) :
    ((wr.setCell ⟨B, 0, none⟩ x).setCell ⟨B, 1, none⟩ y).cell? ⟨B, 0, none⟩ = some x ∧ ((wr.setCell ⟨B, 0, none⟩ x).setCell ⟨B, 1, none⟩ y).cell? ⟨B, 1, none⟩ = some y ∧ Below B wr ((wr.setCell ⟨B, 0, none⟩ x).setCell ⟨B, 1, none⟩ y) := by
  have n01 : (⟨B, 0, none⟩ : Addr) ≠ ⟨B, 1, none⟩ := by simp
  refine ⟨?_, ?_, Below.setCell (Below.setCell (Below.refl B wr) (p := ⟨B, 0, none⟩) (Nat.le_refl B) _) (p := ⟨B, 1, none⟩) (Nat.le_refl B) _⟩
  · rw [World.cell?_setCell_other _ _ _ _ n01.symm]; exact World.cell?_setCell_same _ _ _ r0
  · exact World.cell?_setCell_same _ _ _ (u := v1) (by rw [World.cell?_setCell_other _ _ _ _ n01]; exact r1)
/-- A large number as a value. -/
def lv (neg : Bool) (l : List UInt8) : Value := .agg #[.bool neg, .string (bs l)]
def LargeOk (w : World) (neg : Bool) (xs : List Nat) (e : Ending) (w' : World) : Prop :=
  e = .returned (lv (neg && !(Pl.bytesOf xs).isEmpty) (Pl.bytesOf xs)) ∧ Below w.heap.size w w'
set_option maxHeartbeats 2000000 in
theorem large_any (v : Value) (xs : List Nat) (neg : Bool) (w : World) (h : Rd w v xs) (hl : xs.length ≤ 10000) (hx : ∀ x ∈ xs, x < 4294967296) :
    Calls Tryz.prog 71 #[v, .bool neg] w (LargeOk w neg xs) := by
  obtain ⟨i0, hi, hz0, hz1, hz2⟩ := info_parts info5
  have H := Lib.hid (fun (w' : World) (hB : Below w.heap.size w w') => trim_any v xs w' (h.below hB) (by omega))
  have HX := Lib.hid hx
  clear hx h
  go_enter Tryz.func71, Tryz.ntmps71
  go_wp2_with fail
  refine (H.out _ ((Below.refl _ _).alloc (Nat.le_refl _) _)).mono ?_
  rintro e w' ⟨v1, rfl, hrd, rfl⟩
  have hyl : (Pl.trimW xs).length ≤ 10000 := by
    have : (xs.reverse.dropWhile (· == 0)).length ≤ xs.reverse.length := (List.dropWhile_suffix _).length_le
    unfold Pl.trimW
    simp at this ⊢
    omega
  obtain ⟨ys, hys⟩ : ∃ ys, Pl.trimW xs = ys := ⟨_, rfl⟩
  rw [hys] at hrd hyl
  have HYS := Lib.hid hys
  have HRD := Lib.hid hrd
  obtain ⟨va, vc, hv1⟩ : ∃ va vc, v1 = .slice va ys.length vc := by
    rcases hrd with ⟨h1, h2⟩ | ⟨b, cap, h1, _⟩
    · exact ⟨none, 0, by rw [h1, h2]; rfl⟩
    · exact ⟨_, _, h1⟩
  subst hv1
  clear hys hrd H
  obtain ⟨n, hn⟩ : ∃ n, ys.length = n := ⟨_, rfl⟩
  rw [hn] at hyl HRD ⊢
  have HN := Lib.hid hn
  clear hn
  go_wp2_with (at_make; refine wpList_make_own _ rfl _ _ 85 rfl (w.heap.size + 1) 5 i0 (.int .u8 0) 1 Tryz.underlying85 hi hz0 hz1 .i64 .i64 _ (4 * n) rfl rfl ?c0 ?c1 ?c2 ?c3 ?_)
  case c0 => omega
  case c1 => rw [hz2]; omega
  case c2 => unfold maxLen; omega
  case c3 => simp
  intro w1 ho1 hg1
  obtain ⟨W0, hW0⟩ : ∃ W0, w.alloc (.cells #[.bool false, .string ⟨#[]⟩] 43) = W0 := ⟨_, rfl⟩
  have hW1 : W0.heap.size = w.heap.size + 1 := by rw [← hW0]; simp
  have hW2 : W0.heap[w.heap.size]? = some (.cells #[.bool false, .string ⟨#[]⟩] 43) := by rw [← hW0]; exact heap_alloc_at _ _
  have hW3 : Below w.heap.size w W0 := by rw [← hW0]; exact (Below.refl _ _).alloc (Nat.le_refl _) _
  rw [hW0] at HRD hg1
  have HB1 := Lib.hid (show Below (w.heap.size + 1) W0 w1 from (Below.refl _ _).grown hg1 (by omega) (fun k hk => by cases hk))
  have hs1 := hg1.size
  rw [hW1] at hs1
  have HO1 := Lib.hid (Owns.of_row ho1)
  have HW2 := Lib.hid hW2
  have HW3 := Lib.hid hW3
  have HW1 := Lib.hid hW1
  clear ho1 hg1 hW2 hW3 hW1 hi hz0 hz1 hz2 hW0
  go_wp2_with fail
  go_loopw [5, 16] (fun s i wr => ∃ k : Nat, k ≤ n ∧ i = .int .i64 k ∧ Owns wr (w.heap.size + 1) 5 1 s (4 * k) (bc (Pl.flat (ys.take k))) ∧ Below (w.heap.size + 1) W0 wr ∧ w.heap.size + 1 ≤ wr.heap.size) (fun _ i _ => n - (RowKit.intOf i).toNat)
  case atStart => exact ⟨0, Nat.zero_le _, rfl, HO1.out, HB1.out, hs1⟩
  case round =>
    obtain ⟨k, hk, rfl, ho, hb, hs⟩ := hrel
    have HO := Lib.hid ho
    have HB := Lib.hid hb
    obtain ⟨a1, c1, rfl⟩ := ho.form
    clear ho hb
    by_cases hlt : k < n
    · have hk2 : k < ys.length := by rw [HN.out]; exact hlt
      have hyk : ys[k] < 4294967296 := by
        have hm : ys[k] ∈ xs := by
          have h1 : ys[k] ∈ ys := List.getElem_mem _
          have h2 : ys <+: xs := by
            rw [← HYS.out]; unfold Pl.trimW
            have := List.dropWhile_suffix (fun x : Nat => x == 0) (l := xs.reverse)
            rw [← List.reverse_suffix]; simpa using this
          exact h2.mem h1
        exact HX.out _ hm
      have HT := Lib.hid (show Pl.flat (ys.take (k + 1)) = Pl.flat (ys.take k) ++ Pl.four ys[k] by rw [List.take_succ_eq_append_getElem hk2, Pl.flat_snoc])
      obtain ⟨b, hva, hcell⟩ : ∃ b, va = some ⟨b, 0, none⟩ ∧ wr.cell? ⟨b, k, none⟩ = some (.int .u32 (ys[k] : Nat)) := by
        rcases HRD.out with ⟨h1, h2⟩ | ⟨b, cap, h1, h2, h3, h4⟩
        · rw [h2] at hk2; simp at hk2
        · injection h1 with e1 _ _
          refine ⟨b, e1, ?_⟩
          rw [HB.out.cell (p := ⟨b, k, none⟩) (by have := HW1.out; show b < _; omega)]
          exact h4 k _ (List.getElem?_eq_getElem hk2)
      subst hva
      generalize ys[k] = x at hyk hcell HT
      go_wp2_with (at_builtin; refine wpList_app rfl (.tmp 20) (.tmp 32) rfl (w.heap.size + 1) _ _ _ rfl HO.out [.int .u8 ((x : Int) % 256), .int .u8 ((x : Int) / 256 % 256), .int .u8 ((x : Int) / 65536 % 256), .int .u8 ((x : Int) / 16777216)] rfl (ones (news := [(x : Int) % 256, (x : Int) / 256 % 256, (x : Int) / 65536 % 256, (x : Int) / 16777216])) (by simp only [List.length_cons, List.length_nil]; omega) (by omega) ?_)
      intro v2 w2 ho2 hg2
      have HO2 := Lib.hid ho2
      have HG2 := Lib.hid hg2
      obtain ⟨a2, c2, rfl⟩ := ho2.form
      clear ho2 hg2
      go_wp2_with fail
      go_roundw
      case rel =>
        refine ⟨k + 1, by omega, by go_num, ?_, HG2.out.below HB.out (by omega) (fun g hg => (HO.out.lt g hg).1), Nat.le_trans hs HG2.out.1.size⟩
        have h2 := HO2.out
        rw [HT.out, bc_app, bc_four hyk]
        exact h2
      case measure => simp [RowKit.intOf]; omega
    · obtain rfl : k = n := by omega
      rw [List.take_of_length_le (by rw [HN.out]; exact Nat.le_refl _)] at HO
      obtain ⟨D, hD⟩ : ∃ D, Pl.flat ys = D := ⟨_, rfl⟩
      have hDl : D.length = 4 * k := by rw [← hD, Pl.flat_len, HN.out]
      have HDL := Lib.hid hDl
      rw [hD] at HO
      have HR := Lib.hid (show Pl.bytesOf xs = Pl.strip D by unfold Pl.bytesOf; rw [HYS.out, hD])
      have hres : wr.heap[w.heap.size]? = some (.cells #[.bool false, .string ⟨#[]⟩] 43) := by rw [HB.out.block _ (by omega)]; exact HW2.out
      have HRES := Lib.hid hres
      have HBW := Lib.hid (show Below w.heap.size w wr from HW3.out.trans (HB.out.mono (by omega)))
      clear hD hDl hres hlt hk
      rcases HO.out.2 with ⟨hnone, h0⟩ | ⟨g, cap, cur, fz, hv, hbase, hg, _, hnc, hcm, hcs, ht⟩
      · injection hnone with e1 e2 e3
        subst e1 e3
        have hst := run_string_of_owns (P := Tryz.prog) 85 9 Tryz.underlying85 Tryz.underlying5 Tryz.underlying9 (l := []) (Owns.nil wr 0 5 1)
        have HS := Lib.hid (show Pl.bytesOf xs = [] by rw [HR.out, show D = [] from List.eq_nil_of_length_eq_zero (by rw [HDL.out, h0])]; rfl)
        rw [h0]
        clear h0 e2
        have r0 : wr.cell? ⟨w.heap.size, 0, none⟩ = some (.bool false) := by simp [World.cell?, HRES.out]
        have r1 : wr.cell? ⟨w.heap.size, 1, none⟩ = some (.string ⟨#[]⟩) := by simp [World.cell?, HRES.out]
        have f0 : wr.frozen? ⟨w.heap.size, 0, none⟩ = false := by simp [World.frozen?, HRES.out]
        have f1 : wr.frozen? ⟨w.heap.size, 1, none⟩ = false := by simp [World.frozen?, HRES.out]
        cases neg
        · go_wp2_with fail
          refine wp_loop_rounds 1 ?_
          rw [rounds_succ]
          go_wp2_with fail
          obtain ⟨k0, k1, kB⟩ := two_set wr w.heap.size (.bool false) (.string (bs [])) r0 r1
          have kB' := HBW.out.trans kB
          refine bodyPost_ret (v := lv false []) (by simp [results, Tryz.results71, go_sem, lv, k0, k1]) rfl ⟨by rw [HS.out]; rfl, kB'⟩
        · go_wp2_with fail
          refine wp_loop_rounds 1 ?_
          rw [rounds_succ]
          go_wp2_with fail
          obtain ⟨k0, k1, kB⟩ := two_set wr w.heap.size (.bool false) (.string (bs [])) r0 r1
          have kB' := HBW.out.trans kB
          refine bodyPost_ret (v := lv false []) (by simp [results, Tryz.results71, go_sem, lv, k0, k1]) rfl ⟨by rw [HS.out]; rfl, kB'⟩
      · injection hv with e1 e2 e3
        subst e1 e3
        have HC := Lib.hid (show ∀ j (h : j < D.length), wr.cell? ⟨g, j, none⟩ = some (.int .u8 (D[j].toNat : Int)) from fun j h => by
          have := HO.out.cells (g := g) rfl j (.int .u8 (D[j].toNat : Int)) (by simp [bc, h])
          rwa [add_plain, Nat.zero_add] at this)
        clear hg ht e2 hcs
        go_wp2_with fail
        go_loop [5] (fun s => ∃ m : Nat, m ≤ 4 * k ∧ s = .slice (some ⟨g, 0, none⟩) m c1 ∧ Hid (Pl.strip (D.take m) = Pl.strip D)) (fun s => match s with | .slice _ m _ => m | _ => 0)
        case atStart => exact ⟨4 * k, Nat.le_refl _, rfl, Lib.hid (by rw [List.take_of_length_le (by rw [HDL.out]; exact Nat.le_refl _)])⟩
        case round =>
          obtain ⟨m, hm, rfl, hz⟩ := hrel
          cases m with
          | zero =>
            have hst := run_string_of_owns (P := Tryz.prog) 85 9 Tryz.underlying85 Tryz.underlying5 Tryz.underlying9 (l := []) (HO.out.shrink (n := 0) (by omega))
            have HS := Lib.hid (show Pl.bytesOf xs = [] by rw [HR.out, ← hz.out]; rfl)
            have r0 : wr.cell? ⟨w.heap.size, 0, none⟩ = some (.bool false) := by simp [World.cell?, HRES.out]
            have r1 : wr.cell? ⟨w.heap.size, 1, none⟩ = some (.string ⟨#[]⟩) := by simp [World.cell?, HRES.out]
            have f0 : wr.frozen? ⟨w.heap.size, 0, none⟩ = false := by simp [World.frozen?, HRES.out]
            have f1 : wr.frozen? ⟨w.heap.size, 1, none⟩ = false := by simp [World.frozen?, HRES.out]
            clear hz
            cases neg
            · go_wp2_with fail
              obtain ⟨k0, k1, kB⟩ := two_set wr w.heap.size (.bool false) (.string (bs [])) r0 r1
              have kB' := HBW.out.trans kB
              refine bodyPost_ret (v := lv false []) (by simp [results, Tryz.results71, go_sem, lv, k0, k1]) rfl ⟨by rw [HS.out]; rfl, kB'⟩
            · go_wp2_with fail
              obtain ⟨k0, k1, kB⟩ := two_set wr w.heap.size (.bool false) (.string (bs [])) r0 r1
              have kB' := HBW.out.trans kB
              refine bodyPost_ret (v := lv false []) (by simp [results, Tryz.results71, go_sem, lv, k0, k1]) rfl ⟨by rw [HS.out]; rfl, kB'⟩
          | succ m =>
            have hm2 : m < D.length := by rw [HDL.out]; omega
            have hc := HC.out m hm2
            have HT := Lib.hid (show D.take (m + 1) = D.take m ++ [D[m]] from List.take_succ_eq_append_getElem hm2)
            generalize D[m] = c at hc HT
            by_cases h0 : c = 0
            · have b0 : ((c.toNat : Int) == 0) = true := by rw [h0]; rfl
              have HS := Lib.hid (show Pl.strip (D.take m) = Pl.strip D by rw [← hz.out, HT.out, h0, Pl.strip_snoc_zero])
              clear h0 HT hz
              go_wp2_with fail
              go_round
              case rel => exact ⟨m, by omega, rfl, HS⟩
              case measure => simp
            · have b0 : ((c.toNat : Int) == 0) = false := by
                rw [beq_eq_false_iff_ne]; intro h; apply h0; apply UInt8.toNat_inj.1; rw [show (0 : UInt8).toNat = 0 from rfl]; omega
              have HS := Lib.hid (show Pl.strip D = D.take (m + 1) by rw [← hz.out, HT.out, Pl.strip_snoc h0])
              have hmt : (D.take (m + 1)).length = m + 1 := by rw [List.length_take, HDL.out]; omega
              have hst := run_string_of_owns (P := Tryz.prog) 85 9 Tryz.underlying85 Tryz.underlying5 Tryz.underlying9 (l := D.take (m + 1)) (by have := HO.out.shrink (n := m + 1) (by omega); simpa [bc, List.map_take] using this)
              obtain ⟨E, hE⟩ : ∃ E, D.take (m + 1) = E := ⟨_, rfl⟩
              rw [hE] at HS hst hmt
              have HS := Lib.hid (HR.out.trans HS.out)
              have hne : E.isEmpty = false := by cases E with | nil => simp at hmt | cons a l => rfl
              clear h0 HT hz hE
              have r0 : wr.cell? ⟨w.heap.size, 0, none⟩ = some (.bool false) := by simp [World.cell?, HRES.out]
              have r1 : wr.cell? ⟨w.heap.size, 1, none⟩ = some (.string ⟨#[]⟩) := by simp [World.cell?, HRES.out]
              have f0 : wr.frozen? ⟨w.heap.size, 0, none⟩ = false := by simp [World.frozen?, HRES.out]
              have f1 : wr.frozen? ⟨w.heap.size, 1, none⟩ = false := by simp [World.frozen?, HRES.out]
              cases neg
              · go_wp2_with fail
                obtain ⟨k0, k1, kB⟩ := two_set wr w.heap.size (.bool false) (.string (bs E)) r0 r1
                have kB' := HBW.out.trans kB
                refine bodyPost_ret (v := lv false E) (by simp [results, Tryz.results71, go_sem, lv, k0, k1]) rfl ⟨by rw [HS.out]; rfl, kB'⟩
              · go_wp2_with fail
                obtain ⟨k0, k1, kB⟩ := two_set wr w.heap.size (.bool true) (.string (bs E)) r0 r1
                have kB' := HBW.out.trans kB
                refine bodyPost_ret (v := lv true E) (by simp [results, Tryz.results71, go_sem, lv, k0, k1]) rfl ⟨by rw [HS.out, hne]; rfl, kB'⟩
end Go.Proofs.YtlodbibagmblkaaGreatDoor
namespace Go.Proofs.YtlodbibagmblkaaGreatDoor
open Go.RowKit Go.Lib
/-- The value of the large number of an integer of 64 bits. -/
def ofv (n : Int) : Value := lv (decide (n < 0) && !(Pl.bytesOf [n.natAbs % 4294967296, n.natAbs / 4294967296]).isEmpty) (Pl.bytesOf [n.natAbs % 4294967296, n.natAbs / 4294967296])
theorem rd_two (w : World) (x y : Nat) (T : TypeId) : Rd (w.alloc (.cells #[.int .u32 (x : Int), .int .u32 (y : Int)] T)) (.slice (some ⟨w.heap.size, 0, none⟩) 2 2) [x, y] := by
  refine .inr ⟨w.heap.size, 2, rfl, Nat.le_refl _, by simp, fun j z hz => ?_⟩
  match j, hz with
  | 0, hz => simp at hz; subst hz; simp
  | 1, hz => simp at hz; subst hz; simp
set_option maxHeartbeats 1000000 in
theorem ofn_any (n : Int) (w : World) (h1 : -9223372036854775808 ≤ n) (h2 : n ≤ 9223372036854775807) :
    Calls Tryz.prog 57 #[.int .i64 n] w fun e w' => e = .returned (ofv n) ∧ Below w.heap.size w w' := by
  obtain ⟨a, ha⟩ : ∃ a : Nat, n.natAbs = a := ⟨_, rfl⟩
  have hab : a ≤ 9223372036854775808 := by omega
  obtain ⟨x, hx⟩ : ∃ x : Nat, (a : Int) % 4294967296 = x := ⟨a % 4294967296, by omega⟩
  obtain ⟨y, hy⟩ : ∃ y : Nat, (a : Int) / 4294967296 = y := ⟨a / 4294967296, by omega⟩
  obtain ⟨b, hb⟩ : ∃ b : Bool, decide (n < 0) = b := ⟨_, rfl⟩
  have HV := Lib.hid (show ofv n = lv (b && !(Pl.bytesOf [x, y]).isEmpty) (Pl.bytesOf [x, y]) by unfold ofv; rw [ha, hb, show a % 4294967296 = x by omega, show a / 4294967296 = y by omega])
  have hx2 : x < 4294967296 := by omega
  have hy2 : y < 4294967296 := by omega
  have HL := Lib.hid (fun (W : World) => large_any _ [x, y] b _ (rd_two W x y 103) (by simp) (by intro z hz; simp at hz; omega))
  obtain ⟨z, hz⟩ : ∃ z, IntKind.u64.wrap n = z := ⟨_, rfl⟩
  have hw : n < 0 → IntKind.u64.wrap (-z) = (a : Int) := fun hn => by rw [← hz, IntKind.wrap_u64, IntKind.wrap_u64]; omega
  have hw2 : ¬ n < 0 → z = (a : Int) := fun hn => by rw [← hz, IntKind.wrap_u64]; omega
  have hyw : (y : Int) % 4294967296 = y := by omega
  clear ha
  by_cases hn : n < 0
  · obtain rfl : b = true := by rw [← hb]; simpa using hn
    have hw' := hw hn
    clear hw hw2 hb
    go_enter Tryz.func57, Tryz.ntmps57
    go_wp2_with fail
    have h := HL.out (w.alloc (.cells #[.bool false, .string ⟨#[]⟩] 43))
    rw [show (w.alloc (.cells #[.bool false, .string ⟨#[]⟩] 43)).heap.size = w.heap.size + 1 by simp] at h
    refine h.mono ?_
    rintro e w2 ⟨rfl, hB⟩
    have hB2 : Below (w.heap.size + 1) (w.alloc (.cells #[.bool false, .string ⟨#[]⟩] 43)) w2 := ((Below.refl _ _).alloc (by simp) _).trans (hB.mono (by simp))
    have hR : w2.heap[w.heap.size]? = some (.cells #[.bool false, .string ⟨#[]⟩] 43) := by rw [hB2.block _ (by omega)]; exact heap_alloc_at _ _
    have r0 : w2.cell? ⟨w.heap.size, 0, none⟩ = some (.bool false) := by simp [World.cell?, hR]
    have r1 : w2.cell? ⟨w.heap.size, 1, none⟩ = some (.string ⟨#[]⟩) := by simp [World.cell?, hR]
    have f0 : w2.frozen? ⟨w.heap.size, 0, none⟩ = false := by simp [World.frozen?, hR]
    have f1 : w2.frozen? ⟨w.heap.size, 1, none⟩ = false := by simp [World.frozen?, hR]
    have HBW := Lib.hid (show Below w.heap.size w w2 from ((Below.refl _ _).alloc (Nat.le_refl _) _).trans (hB2.mono (by omega)))
    clear hB hB2 hR h
    unfold lv
    generalize (true && !(Pl.bytesOf [x, y]).isEmpty) = g at HV ⊢
    obtain ⟨S, hS⟩ : ∃ S, bs (Pl.bytesOf [x, y]) = S := ⟨_, rfl⟩
    have HS := Lib.hid hS
    rw [hS]
    clear hS
    go_wp2_with fail
    obtain ⟨k0, k1, kB⟩ := two_set w2 w.heap.size (.bool g) (.string S) r0 r1
    have kB' := HBW.out.trans kB
    refine bodyPost_ret (v := .agg #[.bool g, .string S]) (by simp [results, Tryz.results57, go_sem, k0, k1]) rfl ⟨by rw [HV.out]; unfold lv; rw [HS.out], kB'⟩
  · obtain rfl : b = false := by rw [← hb]; simpa using hn
    have hw' := hw2 hn
    clear hw hw2 hb
    go_enter Tryz.func57, Tryz.ntmps57
    go_wp2_with fail
    have h := HL.out (w.alloc (.cells #[.bool false, .string ⟨#[]⟩] 43))
    rw [show (w.alloc (.cells #[.bool false, .string ⟨#[]⟩] 43)).heap.size = w.heap.size + 1 by simp] at h
    refine h.mono ?_
    rintro e w2 ⟨rfl, hB⟩
    have hB2 : Below (w.heap.size + 1) (w.alloc (.cells #[.bool false, .string ⟨#[]⟩] 43)) w2 := ((Below.refl _ _).alloc (by simp) _).trans (hB.mono (by simp))
    have hR : w2.heap[w.heap.size]? = some (.cells #[.bool false, .string ⟨#[]⟩] 43) := by rw [hB2.block _ (by omega)]; exact heap_alloc_at _ _
    have r0 : w2.cell? ⟨w.heap.size, 0, none⟩ = some (.bool false) := by simp [World.cell?, hR]
    have r1 : w2.cell? ⟨w.heap.size, 1, none⟩ = some (.string ⟨#[]⟩) := by simp [World.cell?, hR]
    have f0 : w2.frozen? ⟨w.heap.size, 0, none⟩ = false := by simp [World.frozen?, hR]
    have f1 : w2.frozen? ⟨w.heap.size, 1, none⟩ = false := by simp [World.frozen?, hR]
    have HBW := Lib.hid (show Below w.heap.size w w2 from ((Below.refl _ _).alloc (Nat.le_refl _) _).trans (hB2.mono (by omega)))
    clear hB hB2 hR h
    unfold lv
    generalize (false && !(Pl.bytesOf [x, y]).isEmpty) = g at HV ⊢
    obtain ⟨S, hS⟩ : ∃ S, bs (Pl.bytesOf [x, y]) = S := ⟨_, rfl⟩
    have HS := Lib.hid hS
    rw [hS]
    clear hS
    go_wp2_with fail
    obtain ⟨k0, k1, kB⟩ := two_set w2 w.heap.size (.bool g) (.string S) r0 r1
    have kB' := HBW.out.trans kB
    refine bodyPost_ret (v := .agg #[.bool g, .string S]) (by simp [results, Tryz.results57, go_sem, k0, k1]) rfl ⟨by rw [HV.out]; unfold lv; rw [HS.out], kB'⟩
end Go.Proofs.YtlodbibagmblkaaGreatDoor
