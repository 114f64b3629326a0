/- Rows that are their owner's alone, none two in one block; literals and units whose lists are such. Nothing of a program. Lists of lists in cells; a list more. Nothing of a program. A book with a code more. Nothing of a program. Plain: literals that were lent: one place more behind each list, with a mark in it. A book without lists; a code without any; how long lists are. Nothing of a program. code.Unpack: how it ends; a unit more; a code in a box. -/
import Derived.Test.YtoklnpoacckbfaaGreatDoorKabl
import Derived.Test.YtoklnpoacckbfaaGreatDoorKaam
import Derived.Test.YtoklnpoacckbfaaGreatDoorKabo
import Derived.Test.YtoklnpoacckbfaaGreatDoorKabj
import Derived.Test.YtoklnpoacckbfaaGreatDoorKabb
import Derived.Deep.RegionLaw
import Derived.RegionDies
namespace Go.Proofs.YtoklnpoacckbfaaGreatDoor
open Go Go.RowKit Go.Lib
/-- no two rows lie in one block -/
def Apart (rs : List Value) : Prop := rs.Pairwise fun r q => ∀ k, r.ownBlock = some k → q.ownBlock ≠ some k
theorem Apart.nil : Apart [] := List.Pairwise.nil
theorem Apart.append {a b : List Value} : Apart (a ++ b) ↔ Apart a ∧ Apart b ∧ ∀ r ∈ a, ∀ q ∈ b, ∀ k, r.ownBlock = some k → q.ownBlock ≠ some k := List.pairwise_append
theorem Apart.cons {a : Value} {b : List Value} : Apart (a :: b) ↔ (∀ q ∈ b, ∀ k, a.ownBlock = some k → q.ownBlock ≠ some k) ∧ Apart b := List.pairwise_cons
theorem Apart.two {rs : List Value} (h : Apart rs) {i j : Nat} {r q : Value} (hi : rs[i]? = some r) (hj : rs[j]? = some q) (hne : i ≠ j) : ∀ k, r.ownBlock = some k → q.ownBlock ≠ some k := by
  intro k hr hq
  obtain ⟨hi', rfl⟩ := List.getElem?_eq_some_iff.1 hi
  obtain ⟨hj', rfl⟩ := List.getElem?_eq_some_iff.1 hj
  unfold Apart at h
  rw [List.pairwise_iff_getElem] at h
  rcases Nat.lt_or_gt_of_ne hne with hlt | hlt
  · exact h i j hi' hj' hlt k hr hq
  · exact h j i hj' hi' hlt k hq hr
/-- the blocks of rows -/
def In (rs : List Value) (k : Nat) : Prop := ∃ r ∈ rs, r.ownBlock = some k
theorem In.nil {k : Nat} : ¬ In [] k := by rintro ⟨r, hr, _⟩; cases hr
theorem In.append {a b : List Value} {k : Nat} : In (a ++ b) k ↔ In a k ∨ In b k := by
  unfold In
  constructor
  · rintro ⟨r, hr, e⟩
    rcases List.mem_append.1 hr with h | h
    · exact .inl ⟨r, h, e⟩
    · exact .inr ⟨r, h, e⟩
  · rintro (⟨r, hr, e⟩ | ⟨r, hr, e⟩)
    · exact ⟨r, List.mem_append_left _ hr, e⟩
    · exact ⟨r, List.mem_append_right _ hr, e⟩
theorem In.cons {a : Value} {b : List Value} {k : Nat} : In (a :: b) k ↔ a.ownBlock = some k ∨ In b k := by
  unfold In
  constructor
  · rintro ⟨r, hr, e⟩
    rcases List.mem_cons.1 hr with rfl | h
    · exact .inl e
    · exact .inr ⟨r, h, e⟩
  · rintro (e | ⟨r, hr, e⟩)
    · exact ⟨a, List.mem_cons_self .., e⟩
    · exact ⟨r, List.mem_cons_of_mem _ hr, e⟩
theorem Apart.append' {a b : List Value} (ha : Apart a) (hb : Apart b) (h : ∀ k, In a k → In b k → False) : Apart (a ++ b) :=
  Apart.append.2 ⟨ha, hb, fun r hr q hq k e1 e2 => h k ⟨r, hr, e1⟩ ⟨q, hq, e2⟩⟩
theorem Apart.of_append {a b : List Value} (h : Apart (a ++ b)) : Apart a ∧ Apart b ∧ ∀ k, In a k → In b k → False := by
  obtain ⟨h1, h2, h3⟩ := Apart.append.1 h
  exact ⟨h1, h2, fun k ⟨r, hr, e1⟩ ⟨q, hq, e2⟩ => h3 r hr q hq k e1 e2⟩
theorem Apart.cons' {a : Value} {b : List Value} (hb : Apart b) (h : ∀ k, a.ownBlock = some k → In b k → False) : Apart (a :: b) :=
  Apart.cons.2 ⟨fun q hq k e1 e2 => h k e1 ⟨q, hq, e2⟩, hb⟩
theorem Apart.of_cons {a : Value} {b : List Value} (h : Apart (a :: b)) : Apart b ∧ ∀ k, a.ownBlock = some k → In b k → False := by
  obtain ⟨h1, h2⟩ := Apart.cons.1 h
  exact ⟨h2, fun k e1 ⟨q, hq, e2⟩ => h1 q hq k e1 e2⟩
/-- how many elements a slice value has -/
def rlen : Value → Nat
  | .slice _ n _ => n
  | _ => 0
theorem Owns.rlen {w : World} {base : Nat} {e : TypeId} {size : Nat} {v : Value} {n : Nat} {xs : List Value} (h : Owns w base e size v n xs) : Go.Proofs.YtoklnpoacckbfaaGreatDoor.rlen v = n := by
  obtain ⟨a, c, rfl⟩ := h.form; rfl
/-- rows that are owned, each one -/
def Mine (w : World) (e : TypeId) (size : Nat) (rs : List Value) : Prop := ∀ r ∈ rs, ∃ xs, Owns w 0 e size r (rlen r) xs
theorem Mine.nil (w : World) (e : TypeId) (size : Nat) : Mine w e size [] := by intro r hr; cases hr
theorem Mine.append {w : World} {e : TypeId} {size : Nat} {a b : List Value} (ha : Mine w e size a) (hb : Mine w e size b) : Mine w e size (a ++ b) := by
  intro r hr
  rcases List.mem_append.1 hr with h | h
  · exact ha r h
  · exact hb r h
theorem Mine.one {w : World} {base : Nat} {e : TypeId} {size : Nat} {v : Value} {n : Nat} {xs : List Value} (h : Owns w base e size v n xs) : Mine w e size [v] := by
  intro r hr
  obtain rfl := List.mem_singleton.1 hr
  exact ⟨xs, by rw [h.rlen]; exact h.base_le (Nat.zero_le _)⟩
theorem Mine.save {S : Nat → Prop} {w w' : World} {e : TypeId} {size : Nat} {rs : List Value} (h : Mine w e size rs) (s : Save S w w') (hS : ∀ k, In rs k → ¬ S k) : Mine w' e size rs := fun r hr => by
  obtain ⟨xs, ho⟩ := h r hr
  exact ⟨xs, ho.save s fun k hk => hS k ⟨r, hr, hk⟩⟩
theorem Mine.lt {w : World} {e : TypeId} {size : Nat} {rs : List Value} (h : Mine w e size rs) : ∀ k, In rs k → k < w.heap.size := by
  rintro k ⟨r, hr, hk⟩
  obtain ⟨xs, ho⟩ := h r hr
  exact (ho.lt k hk).2
theorem Mine.of_append {w : World} {e : TypeId} {size : Nat} {a b : List Value} (h : Mine w e size (a ++ b)) : Mine w e size a ∧ Mine w e size b :=
  ⟨fun r hr => h r (List.mem_append_left _ hr), fun r hr => h r (List.mem_append_right _ hr)⟩
theorem Owns.up {w : World} {base base' : Nat} {e : TypeId} {size : Nat} {v : Value} {n : Nat} {xs : List Value} (h : Owns w base e size v n xs) (hb : ∀ k, v.ownBlock = some k → base' ≤ k) : Owns w base' e size v n xs := by
  refine ⟨h.1, ?_⟩
  rcases h.2 with hn | ⟨g, cap, cur, fz, rfl, _, rest⟩
  · exact .inl hn
  · exact .inr ⟨g, cap, cur, fz, rfl, hb g rfl, rest⟩
/-- literals whose lists, all of them, are their owner's: the lists one behind the other, each ahead of those within -/
inductive LitsOwn (w : World) (e : TypeId) : List Pl.Lit → Value → List Value → Prop
  | mk (v : Value) (ps : List (Pl.Lit × Value)) (rs : List (List Value)) (h : Owns w 0 e 5 v ps.length (rowOf litCells ps)) (hl : ps.length ≤ 140737488355328) (hw : ∀ p ∈ ps, Pl.LitW p.1) (hrl : rs.length = ps.length)
      (hr : ∀ (i : Nat) (p : Pl.Lit × Value) (r : List Value), ps[i]? = some p → rs[i]? = some r → LitsOwn w e p.1.items p.2 r) : LitsOwn w e (ps.map (·.1)) v (v :: rs.flatten)
theorem mem_flat_at {rs : List (List Value)} {i : Nat} {r : List Value} (h : rs[i]? = some r) {k : Nat} (hk : In r k) : In rs.flatten k := by
  obtain ⟨x, hx, e⟩ := hk
  exact ⟨x, List.mem_flatten.2 ⟨r, List.mem_of_getElem? h, hx⟩, e⟩
theorem LitsOwn.save {S : Nat → Prop} {w w' : World} {e : TypeId} {l : List Pl.Lit} {v : Value} {rs : List Value} (h : LitsOwn w e l v rs) (s : Save S w w') (hS : ∀ k, In rs k → ¬ S k) : LitsOwn w' e l v rs := by
  induction h with
  | mk v ps rs h hl hw hrl _ ih =>
    refine .mk v ps rs (h.save s fun k hk => hS k (In.cons.2 (.inl hk))) hl hw hrl ?_
    intro i p r hp hr
    exact ih i p r hp hr fun k hk => hS k (In.cons.2 (.inr (mem_flat_at hr hk)))
theorem LitsOwn.mine {w : World} {e : TypeId} {l : List Pl.Lit} {v : Value} {rs : List Value} (h : LitsOwn w e l v rs) : Mine w e 5 rs := by
  induction h with
  | mk v ps rs h hl hw hrl _ ih =>
    intro r hr
    rcases List.mem_cons.1 hr with rfl | hr
    · exact ⟨_, by rw [h.rlen]; exact h⟩
    · obtain ⟨q, hq, hrq⟩ := List.mem_flatten.1 hr
      obtain ⟨i, hi⟩ := List.mem_iff_getElem?.1 hq
      have hil : i < ps.length := by rw [← hrl]; exact (List.getElem?_eq_some_iff.1 hi).1
      exact ih i ps[i] q (List.getElem?_eq_getElem hil) hi r hrq
theorem LitsOwn.of {Q : Nat → Prop} {w : World} {e : TypeId} {l : List Pl.Lit} {v : Value} {rs : List Value} (h : LitsOwn w e l v rs) (hQ : ∀ k, In rs k → Q k) : LitsOf Q w l v := by
  induction h with
  | mk v ps rs h hl hw hrl _ ih =>
    refine LitsOf.of_owns h rfl hl (fun k hk => hQ k (In.cons.2 (.inl hk))) ?_ ?_
    · intro x hx
      obtain ⟨p, hp, rfl⟩ := List.mem_map.1 hx
      exact hw p hp
    · intro i p hp
      have hil : i < rs.length := by rw [hrl]; exact (List.getElem?_eq_some_iff.1 hp).1
      exact ih i p rs[i] hp (List.getElem?_eq_getElem hil) fun k hk => hQ k (In.cons.2 (.inr (mem_flat_at (List.getElem?_eq_getElem hil) hk)))
theorem LitsOwn.slice {w : World} {e : TypeId} {l : List Pl.Lit} {v : Value} {rs : List Value} (h : LitsOwn w e l v rs) : ∃ A cap, v = .slice A l.length cap := by
  cases h with
  | mk v ps rs h => obtain ⟨A, c, rfl⟩ := h.form; exact ⟨A, c, by simp⟩
theorem LitsOwn.at {w : World} {e : TypeId} {l : List Pl.Lit} {v : Value} {rs : List Value} (h : LitsOwn w e l v rs) : LitsAt w.heap.size w l v := (h.of (Q := fun _ => True) (fun _ _ => trivial)).at
/-- what lies within a list's things -/
structure Kids (w : World) (e : TypeId) (ps : List (Pl.Lit × Value)) (rss : List (List Value)) : Prop where
  len : rss.length = ps.length
  at_ : ∀ (i : Nat) (p : Pl.Lit × Value) (r : List Value), ps[i]? = some p → rss[i]? = some r → LitsOwn w e p.1.items p.2 r
theorem Kids.nil (w : World) (e : TypeId) : Kids w e [] [] := ⟨rfl, fun i p r hp => by simp at hp⟩
theorem Kids.save {S : Nat → Prop} {w w' : World} {e : TypeId} {ps : List (Pl.Lit × Value)} {rss : List (List Value)} (h : Kids w e ps rss) (s : Save S w w') (hS : ∀ k, In rss.flatten k → ¬ S k) : Kids w' e ps rss :=
  ⟨h.len, fun i p r hp hr => (h.at_ i p r hp hr).save s fun k hk => hS k (mem_flat_at hr hk)⟩
theorem Kids.lt {w : World} {e : TypeId} {ps : List (Pl.Lit × Value)} {rss : List (List Value)} (h : Kids w e ps rss) : ∀ k, In rss.flatten k → k < w.heap.size := by
  rintro k ⟨x, hx, e⟩
  obtain ⟨q, hq, hxq⟩ := List.mem_flatten.1 hx
  obtain ⟨i, hi⟩ := List.mem_iff_getElem?.1 hq
  have hil : i < ps.length := by rw [← h.len]; exact (List.getElem?_eq_some_iff.1 hi).1
  exact (h.at_ i ps[i] q (List.getElem?_eq_getElem hil) hi).mine.lt k ⟨x, hxq, e⟩
theorem Kids.push {w : World} {e : TypeId} {ps : List (Pl.Lit × Value)} {rss : List (List Value)} (h : Kids w e ps rss) {x : Pl.Lit} {v : Value} {r : List Value} (hx : LitsOwn w e x.items v r) : Kids w e (ps ++ [(x, v)]) (rss ++ [r]) := by
  refine ⟨by simp [h.len], fun i p q hp hq => ?_⟩
  by_cases hi : i < ps.length
  · rw [List.getElem?_append_left hi] at hp
    rw [List.getElem?_append_left (by rw [h.len]; exact hi)] at hq
    exact h.at_ i p q hp hq
  · rw [List.getElem?_append_right (by omega)] at hp
    rw [List.getElem?_append_right (by rw [h.len]; omega), h.len] at hq
    cases hii : i - ps.length with
    | zero =>
      rw [hii] at hp hq
      simp at hp hq
      subst hp; subst hq
      exact hx
    | succ m => rw [hii] at hp; simp at hp
theorem Kids.lits {w : World} {e : TypeId} {v : Value} {ps : List (Pl.Lit × Value)} {rss : List (List Value)} (h : Kids w e ps rss) {base : Nat} (ho : Owns w base e 5 v ps.length (rowOf litCells ps)) (hl : ps.length ≤ 140737488355328) (hw : ∀ x ∈ ps.map (·.1), Pl.LitW x) : LitsOwn w e (ps.map (·.1)) v (v :: rss.flatten) :=
  .mk v ps rss (ho.base_le (Nat.zero_le _)) hl (fun p hp => hw p.1 (List.mem_map.2 ⟨p, hp, rfl⟩)) h.len h.at_
/-- a thing more: its lists are new -/
theorem Apart.push {q q1 : Value} {a b : List Value} {n m : Nat} (h : Apart (q :: a)) (hb : Apart b) (ha : ∀ k, In a k → k < n) (hq : ∀ k, q.ownBlock = some k → k < n) (hnb : ∀ k, In b k → n ≤ k ∧ k < m) (hq1 : ∀ k, q1.ownBlock = some k → q.ownBlock = some k ∨ m ≤ k) (hnm : n ≤ m) : Apart (q1 :: (a ++ b)) := by
  obtain ⟨h1, h2⟩ := h.of_cons
  refine Apart.cons' (Apart.append' h1 hb fun k k1 k2 => ?_) fun k e hk => ?_
  · have := ha k k1; have := (hnb k k2).1; omega
  · rcases hq1 k e with e' | e'
    · rcases In.append.1 hk with hk | hk
      · exact h2 k e' hk
      · have := hq k e'; have := (hnb k hk).1; omega
    · rcases In.append.1 hk with hk | hk
      · have := ha k hk; omega
      · have := (hnb k hk).2; omega
/-- units whose instructions' lists are their owner's -/
structure UKids (w : World) (e : TypeId) (ps : List (Pl.Unt × Value)) : Prop where
  at_ : ∀ y ∈ ps, Owns w 0 e 3 y.2 y.1.code.length (insRow y.1.code) ∧ (∀ x ∈ y.1.code, Pl.InsW x) ∧ y.1.code.length ≤ 140737488355328
theorem UKids.nil (w : World) (e : TypeId) : UKids w e [] := ⟨fun y hy => by cases hy⟩
theorem UKids.save {S : Nat → Prop} {w w' : World} {e : TypeId} {ps : List (Pl.Unt × Value)} (h : UKids w e ps) (s : Save S w w') (hS : ∀ k, In (ps.map (·.2)) k → ¬ S k) : UKids w' e ps :=
  ⟨fun y hy => ⟨(h.at_ y hy).1.save s fun k hk => hS k ⟨y.2, List.mem_map.2 ⟨y, hy, rfl⟩, hk⟩, (h.at_ y hy).2⟩⟩
theorem UKids.mine {w : World} {e : TypeId} {ps : List (Pl.Unt × Value)} (h : UKids w e ps) : Mine w e 3 (ps.map (·.2)) := by
  intro r hr
  obtain ⟨y, hy, rfl⟩ := List.mem_map.1 hr
  have := (h.at_ y hy).1
  exact ⟨_, by rw [this.rlen]; exact this⟩
theorem UKids.lt {w : World} {e : TypeId} {ps : List (Pl.Unt × Value)} (h : UKids w e ps) : ∀ k, In (ps.map (·.2)) k → k < w.heap.size := h.mine.lt
theorem UKids.push {w : World} {base : Nat} {e : TypeId} {ps : List (Pl.Unt × Value)} (h : UKids w e ps) {u : Pl.Unt} {v : Value} (ho : Owns w base e 3 v u.code.length (insRow u.code)) (hw : ∀ x ∈ u.code, Pl.InsW x) (hl : u.code.length ≤ 140737488355328) : UKids w e (ps ++ [(u, v)]) := by
  refine ⟨fun y hy => ?_⟩
  rcases List.mem_append.1 hy with hy | hy
  · exact h.at_ y hy
  · obtain rfl := List.mem_singleton.1 hy
    exact ⟨ho.base_le (Nat.zero_le _), hw, hl⟩
theorem UKids.insof {w : World} {e : TypeId} {ps : List (Pl.Unt × Value)} (h : UKids w e ps) (i : Nat) (y : Pl.Unt × Value) (hy : ps[i]? = some y) : InssOf (fun _ => True) w y.1.code y.2 := by
  obtain ⟨h1, h2, h3⟩ := h.at_ y (List.mem_of_getElem? hy)
  exact (InssOf.of_owns h1 h2 h3).mono fun _ _ _ => trivial
theorem In.one {v : Value} {k : Nat} : In [v] k ↔ v.ownBlock = some k := by
  unfold In; simp
/-- the rows of a code: its instructions' lists, its units' list, its literals' lists -/
structure CodOwn (w : World) (el eu ei : TypeId) (c : Pl.Cod) (L U : Value) (ri rl : List Value) : Prop where
  l : LitsOwn w el c.lits L rl
  u : ∃ us : List (Pl.Unt × Value), us.map (·.1) = c.units ∧ us.map (·.2) = ri ∧ Owns w 0 eu 5 U us.length (rowOf untCells us) ∧ UKids w ei us
  a : Apart (U :: (ri ++ rl))
theorem CodOwn.save {S : Nat → Prop} {w w' : World} {el eu ei : TypeId} {c : Pl.Cod} {L U : Value} {ri rl : List Value} (h : CodOwn w el eu ei c L U ri rl) (s : Save S w w') (hS : ∀ k, In (U :: (ri ++ rl)) k → ¬ S k) : CodOwn w' el eu ei c L U ri rl := by
  refine ⟨h.l.save s fun k hk => hS k (In.cons.2 (.inr (In.append.2 (.inr hk)))), ?_, h.a⟩
  obtain ⟨us, e1, e2, ho, hk⟩ := h.u
  exact ⟨us, e1, e2, ho.save s fun k hk => hS k (In.cons.2 (.inl hk)), hk.save s fun k hk => hS k (In.cons.2 (.inr (In.append.2 (.inl (by rw [← e2]; exact hk)))))⟩
end Go.Proofs.YtoklnpoacckbfaaGreatDoor
namespace Go.Proofs.YtoklnpoacckbfaaGreatDoor
open Go Go.RowKit Go.Lib
theorem wpList_appRow {P : Program} {ops : Array Oper} {rest : List Oper} {o : Oper} {a : Act} {Q : Exit → Act → World → Prop} {w : World} (hgd : o.guard = none) (s x : Operand) (ts te : TypeId) (hu : P.underlying ts = some (.slice te))
    (hinf : (P.info? te).map (fun i => (i.zero, i.size, i.bytes)) = some (some (.slice none 0 0), 1, 24))
    (ho : o.op = .call { callee := .builtin .append, args := #[s, x], argTypes := #[ts, ts] }) (base : Nat) (v : Value) (rs : List Value) (hs : a.eval s = v) (hown : Owns w base te 1 v rs.length rs)
    (r : Value) (hr1 : r.oneCell' = true) (hx : a.eval x = .slice (some ⟨w.heap.size, 0, none⟩) 1 1) (hlen : rs.length ≤ 1099511627776) (hbase : base ≤ w.heap.size)
    (h : ∀ v' w', Owns w' base te 1 v' (rs.length + 1) (rs ++ [r]) → Grow w v w' v' → wpList P ops Q rest (a.put o.dst v') w') : wpList P ops Q (o :: rest) a (w.alloc (.cells #[r] te)) := by
  obtain ⟨i0, hi, hz0, hz1, hz2⟩ := info_parts hinf
  refine wpList_append_owns hgd s x ts ho base te i0 _ 1 24 hu hi hz0 hz1 hz2 rfl v rs.length rs hs (hown.alloc _) ⟨w.heap.size, 0, none⟩ 1 1 [r] hx rfl ?_ ?_ (by unfold maxLen; omega) (by omega) (by simp; omega) ?_
  · exact one_new w r te
  · intro u hu
    simp at hu
    subst hu
    exact hr1
  · intro v' w' ho' hg'
    exact h v' w' ho' ((Grow.alloc w v _).trans hg')
theorem step_appRow {P : Program} {ops : Array Oper} {o : Oper} {a : Act} {K : Act → World → Prop} {Q : Exit → Act → World → Prop} {E : Prop} {w : World} (hgd : o.guard = none) (s x : Operand) (ts te : TypeId) (hu : P.underlying ts = some (.slice te))
    (hinf : (P.info? te).map (fun i => (i.zero, i.size, i.bytes)) = some (some (.slice none 0 0), 1, 24))
    (ho : o.op = .call { callee := .builtin .append, args := #[s, x], argTypes := #[ts, ts] }) (base : Nat) (v : Value) (rs : List Value) (hs : a.eval s = v) (hown : Owns w base te 1 v rs.length rs)
    (r : Value) (hr1 : r.oneCell' = true) (hx : a.eval x = .slice (some ⟨w.heap.size, 0, none⟩) 1 1) (hlen : rs.length ≤ 1099511627776) (hbase : base ≤ w.heap.size)
    (h : ∀ v' w', Owns w' base te 1 v' (rs.length + 1) (rs ++ [r]) → Grow w v w' v' → K (a.put o.dst v') w') :
    if Region.wanted o (yielded ops a.tmps) = true then Oper.wp P o a (w.alloc (.cells #[r] te)) K Q else E := by
  have hw : Region.wanted o (yielded ops a.tmps) = true := by simp [Region.wanted, hgd]
  rw [if_pos hw]
  obtain ⟨i0, hi, hz0, hz1, hz2⟩ := info_parts hinf
  obtain ⟨v', w', hr, h2, h3⟩ := run_append_owns (P := P) ts o.type i0 _ 24 hu hi hz0 hz1 hz2 rfl (hown.alloc (.cells #[r] te)) ⟨w.heap.size, 0, none⟩ 1 1 [r] rfl (one_new w r te) (by
    intro u hu
    simp at hu
    subst hu
    exact hr1) (by unfold maxLen; omega) (by omega) (by simp; omega)
  unfold Oper.wp execOp
  simp only [ho, resolve, invoke, builtin, Sem.run_bind, Sem.run_pure, Result.andThen_ok, List.map_toArray, List.map_cons, List.map_nil, hs, hx, hr]
  exact h v' w' h2 ((Grow.alloc w v _).trans h3)
theorem Owns.lit5 {w : World} {base g n cap : Nat} {e : TypeId} {ps : List (Pl.Lit × Value)} (h : Owns w base e 5 (.slice (some ⟨g, 0, none⟩) n cap) n (rowOf litCells ps)) {i : Nat} {p : Pl.Lit × Value} (hp : ps[i]? = some p) :
    w.cell? ⟨g, i * 5, none⟩ = some (.int .u8 p.1.kind) ∧ w.cell? ⟨g, i * 5 + 1, none⟩ = some (.int .i64 p.1.n) ∧ w.cell? ⟨g, i * 5 + 2, none⟩ = some (.int .u64 p.1.bits) ∧ w.cell? ⟨g, i * 5 + 3, none⟩ = some (.string p.1.text) ∧ w.cell? ⟨g, i * 5 + 4, none⟩ = some p.2 :=
  ⟨h.cellAt (rowOf_at litCells_len ps i p hp 0 _ rfl), h.cellAt (rowOf_at litCells_len ps i p hp 1 _ rfl), h.cellAt (rowOf_at litCells_len ps i p hp 2 _ rfl), h.cellAt (rowOf_at litCells_len ps i p hp 3 _ rfl), h.cellAt (rowOf_at litCells_len ps i p hp 4 _ rfl)⟩
theorem Owns.unt4 {w : World} {base g n cap : Nat} {e : TypeId} {ps : List (Pl.Unt × Value)} (h : Owns w base e 5 (.slice (some ⟨g, 0, none⟩) n cap) n (rowOf untCells ps)) {i : Nat} {p : Pl.Unt × Value} (hp : ps[i]? = some p) :
    w.cell? ⟨g, i * 5 + 4, none⟩ = some p.2 := h.cellAt (rowOf_at untCells_len ps i p hp 4 _ rfl)
theorem flat_len {α : Type} {rs : List (List α)} {i : Nat} {r : List α} (h : rs[i]? = some r) : (rs.take i).flatten.length + r.length ≤ rs.flatten.length := by
  have e : rs.take (i + 1) = rs.take i ++ [r] := by rw [List.take_add_one, h]; rfl
  have h2 : rs.flatten = (rs.take (i + 1)).flatten ++ (rs.drop (i + 1)).flatten := by rw [← List.flatten_append, List.take_append_drop]
  rw [h2, e]
  simp
/-- a list of lists in a cell that may be written -/
structure ListAt (w : World) (G o : Nat) (e : TypeId) (v : Value) (rs : List Value) : Prop where
  c : w.cell? ⟨G, o, none⟩ = some v
  f : w.frozen? ⟨G, o, none⟩ = false
  lt : G < w.heap.size
  o : Owns w 0 e 1 v rs.length rs
  ne : v.ownBlock ≠ some G
theorem ListAt.save {S : Nat → Prop} {w w' : World} {G o : Nat} {e : TypeId} {v : Value} {rs : List Value} (h : ListAt w G o e v rs) (s : Save S w w') (hG : ¬ S G) (hv : ∀ k, v.ownBlock = some k → ¬ S k) : ListAt w' G o e v rs :=
  ⟨(s.cell o h.lt hG).trans h.c, (s.frozen o h.lt hG).trans h.f, Nat.lt_of_lt_of_le h.lt s.size, h.o.save s hv, h.ne⟩
theorem ListAt.other {w : World} {G o : Nat} {e : TypeId} {v : Value} {rs : List Value} (h : ListAt w G o e v rs) (o' : Nat) (u : Value) (ho : o ≠ o') : ListAt (w.setCell ⟨G, o', none⟩ u) G o e v rs :=
  ⟨by rw [World.cell?_setCell_other _ _ _ _ (by simp)]; exact h.c, by rw [World.frozen?_setCell]; exact h.f, by simpa using h.lt, h.o.elsewhere u h.ne, h.ne⟩
/-- what was put into the cell -/
theorem ListAt.put {w w1 : World} {G o : Nat} {e : TypeId} {v v' : Value} {rs rs' : List Value} (h : ListAt w G o e v rs) (s : Save (fun k => v.ownBlock = some k) w w1) (ho : Owns w1 0 e 1 v' rs'.length rs') (hv : ∀ k, v'.ownBlock = some k → v.ownBlock = some k ∨ w.heap.size ≤ k) : ListAt (w1.setCell ⟨G, o, none⟩ v') G o e v' rs' := by
  have hne : v'.ownBlock ≠ some G := fun e => by
    rcases hv G e with e' | e'
    · exact h.ne e'
    · have := h.lt; omega
  have c := (s.cell o h.lt (fun e => h.ne e)).trans h.c
  have f := (s.frozen o h.lt (fun e => h.ne e)).trans h.f
  exact ⟨World.cell?_setCell_same' _ _ _ (by rw [c]; rfl), by rw [World.frozen?_setCell]; exact f, by have := h.lt; have := s.size; simp; omega, ho.elsewhere v' hne, hne⟩
theorem big_take {l : List Pl.Lit} {i : Nat} {x : Pl.Lit} (h : l[i]? = some x) : Pl.litsBig (l.take i) + 1 + Pl.litsBig x.items ≤ Pl.litsBig (l.take (i + 1)) := by
  rw [List.take_add_one, h]
  have : ∀ (a : List Pl.Lit) (x : Pl.Lit), Pl.litsBig (a ++ [x]) = Pl.litsBig a + Pl.litBig x := by
    intro a x
    induction a with
    | nil => simp [Pl.litsBig]
    | cons y r ih => simp only [List.cons_append, Pl.litsBig]; rw [ih]; omega
  have e := this (l.take i) x
  have hb : Pl.litBig x = 1 + x.text.size + Pl.litsBig x.items := by cases x; rfl
  show _ ≤ Pl.litsBig (l.take i ++ [x])
  omega
theorem big_take_le (l : List Pl.Lit) : ∀ k : Nat, Pl.litsBig (l.take k) ≤ Pl.litsBig l := by
  induction l with
  | nil => intro k; simp
  | cons x r ih =>
    intro k
    cases k with
    | zero => simp [Pl.litsBig]
    | succ k => simp only [List.take_succ_cons, Pl.litsBig]; have := ih k; omega
theorem Save.none_below' {w w' : World} (h : Below w.heap.size w w') : Save (fun _ => False) w w' := Save.of_below h _ (fun _ hj _ => hj)
theorem LitsOwn.rows_le {w : World} {e : TypeId} {l : List Pl.Lit} {v : Value} {rs : List Value} (h : LitsOwn w e l v rs) : rs.length ≤ 1 + Pl.litsBig l := by
  induction h with
  | mk v ps rs h hl hw hrl _ ih =>
    have key : ∀ (k : Nat), k ≤ ps.length → (rs.take k).flatten.length ≤ Pl.litsBig ((ps.map (·.1)).take k) := by
      intro k hk
      induction k with
      | zero => simp
      | succ k ihk =>
        have hr : k < rs.length := by omega
        have hp : k < ps.length := by omega
        have := ih k ps[k] rs[k] (List.getElem?_eq_getElem hp) (List.getElem?_eq_getElem hr)
        have hx : (ps.map (·.1))[k]? = some ps[k].1 := by simp [hp]
        have ht : rs.take (k + 1) = rs.take k ++ [rs[k]] := by rw [List.take_add_one, List.getElem?_eq_getElem hr]; rfl
        rw [ht, List.flatten_append, List.length_append]
        simp only [List.flatten_cons, List.flatten_nil, List.append_nil]
        have hb := big_take hx
        have := ihk (by omega)
        omega
    have h1 := key ps.length (Nat.le_refl _)
    rw [List.take_of_length_le (by omega), List.take_of_length_le (by simp)] at h1
    simp only [List.length_cons]
    omega
/-- block G's cells but the j-th stay -/
def Keeps (G j : Nat) (w w' : World) : Prop := ∀ o, o ≠ j → w'.cell? ⟨G, o, none⟩ = w.cell? ⟨G, o, none⟩ ∧ w'.frozen? ⟨G, o, none⟩ = w.frozen? ⟨G, o, none⟩
theorem Keeps.refl (G j : Nat) (w : World) : Keeps G j w w := fun _ _ => ⟨rfl, rfl⟩
theorem Keeps.trans {G j : Nat} {a b c : World} (h : Keeps G j a b) (k : Keeps G j b c) : Keeps G j a c := fun o ho => ⟨(k o ho).1.trans (h o ho).1, (k o ho).2.trans (h o ho).2⟩
theorem Keeps.of_save {S : Nat → Prop} {G j : Nat} {w w' : World} (s : Save S w w') (hG : G < w.heap.size) (hS : ¬ S G) : Keeps G j w w' := fun o _ => ⟨s.cell o hG hS, s.frozen o hG hS⟩
theorem Keeps.set (G j : Nat) (w : World) (v : Value) : Keeps G j w (w.setCell ⟨G, j, none⟩ v) := fun o ho => ⟨World.cell?_setCell_other _ _ _ _ (by simp), World.frozen?_setCell _ _ _ _⟩
/-- a book's cells, that may be written -/
structure BookBox (w : World) (G : Nat) (I U L : Value) : Prop where
  c0 : w.cell? ⟨G, 0, none⟩ = some I
  c1 : w.cell? ⟨G, 1, none⟩ = some U
  c2 : w.cell? ⟨G, 2, none⟩ = some (.slice none 0 0)
  c3 : w.cell? ⟨G, 3, none⟩ = some L
  c4 : w.cell? ⟨G, 4, none⟩ = some (.slice none 0 0)
  c5 : w.cell? ⟨G, 5, none⟩ = some (.slice none 0 0)
  f0 : w.frozen? ⟨G, 0, none⟩ = false
  f1 : w.frozen? ⟨G, 1, none⟩ = false
  f3 : w.frozen? ⟨G, 3, none⟩ = false
  lt : G < w.heap.size
theorem BookBox.save {S : Nat → Prop} {w w' : World} {G : Nat} {I U L : Value} (h : BookBox w G I U L) (k : Save S w w') (hS : ¬ S G) : BookBox w' G I U L :=
  ⟨(k.cell 0 h.lt hS).trans h.c0, (k.cell 1 h.lt hS).trans h.c1, (k.cell 2 h.lt hS).trans h.c2, (k.cell 3 h.lt hS).trans h.c3, (k.cell 4 h.lt hS).trans h.c4, (k.cell 5 h.lt hS).trans h.c5, (k.frozen 0 h.lt hS).trans h.f0, (k.frozen 1 h.lt hS).trans h.f1, (k.frozen 3 h.lt hS).trans h.f3, Nat.lt_of_lt_of_le h.lt k.size⟩
theorem BookBox.set0 {w : World} {G : Nat} {I U L : Value} (h : BookBox w G I U L) (v : Value) : BookBox (w.setCell ⟨G, 0, none⟩ v) G v U L :=
  ⟨World.cell?_setCell_same' _ _ _ (by rw [h.c0]; rfl), by rw [World.cell?_setCell_other _ _ _ _ (by simp)]; exact h.c1, by rw [World.cell?_setCell_other _ _ _ _ (by simp)]; exact h.c2, by rw [World.cell?_setCell_other _ _ _ _ (by simp)]; exact h.c3, by rw [World.cell?_setCell_other _ _ _ _ (by simp)]; exact h.c4, by rw [World.cell?_setCell_other _ _ _ _ (by simp)]; exact h.c5,
    by rw [World.frozen?_setCell]; exact h.f0, by rw [World.frozen?_setCell]; exact h.f1, by rw [World.frozen?_setCell]; exact h.f3, by simpa using h.lt⟩
theorem BookBox.set1 {w : World} {G : Nat} {I U L : Value} (h : BookBox w G I U L) (v : Value) : BookBox (w.setCell ⟨G, 1, none⟩ v) G I v L :=
  ⟨by rw [World.cell?_setCell_other _ _ _ _ (by simp)]; exact h.c0, World.cell?_setCell_same' _ _ _ (by rw [h.c1]; rfl), by rw [World.cell?_setCell_other _ _ _ _ (by simp)]; exact h.c2, by rw [World.cell?_setCell_other _ _ _ _ (by simp)]; exact h.c3, by rw [World.cell?_setCell_other _ _ _ _ (by simp)]; exact h.c4, by rw [World.cell?_setCell_other _ _ _ _ (by simp)]; exact h.c5,
    by rw [World.frozen?_setCell]; exact h.f0, by rw [World.frozen?_setCell]; exact h.f1, by rw [World.frozen?_setCell]; exact h.f3, by simpa using h.lt⟩
theorem BookBox.set3 {w : World} {G : Nat} {I U L : Value} (h : BookBox w G I U L) (v : Value) : BookBox (w.setCell ⟨G, 3, none⟩ v) G I U v :=
  ⟨by rw [World.cell?_setCell_other _ _ _ _ (by simp)]; exact h.c0, by rw [World.cell?_setCell_other _ _ _ _ (by simp)]; exact h.c1, by rw [World.cell?_setCell_other _ _ _ _ (by simp)]; exact h.c2, World.cell?_setCell_same' _ _ _ (by rw [h.c3]; rfl), by rw [World.cell?_setCell_other _ _ _ _ (by simp)]; exact h.c4, by rw [World.cell?_setCell_other _ _ _ _ (by simp)]; exact h.c5,
    by rw [World.frozen?_setCell]; exact h.f0, by rw [World.frozen?_setCell]; exact h.f1, by rw [World.frozen?_setCell]; exact h.f3, by simpa using h.lt⟩
theorem BookBox.keeps {w w' : World} {G : Nat} {I U L L' : Value} {tl : TypeId} {rl : List Value} (h : BookBox w G I U L) (k : Keeps G 3 w w') (hl : ListAt w' G 3 tl L' rl) : BookBox w' G I U L' :=
  ⟨(k 0 (by decide)).1.trans h.c0, (k 1 (by decide)).1.trans h.c1, (k 2 (by decide)).1.trans h.c2, hl.c, (k 4 (by decide)).1.trans h.c4, (k 5 (by decide)).1.trans h.c5, (k 0 (by decide)).2.trans h.f0, (k 1 (by decide)).2.trans h.f1, hl.f, hl.lt⟩
theorem Apart.perm {a b : List Value} (h : Apart a) (p : a.Perm b) : Apart b := (p.pairwise_iff (fun {_ _} hxy k hy hx => hxy k hx hy)).1 h
theorem In.perm {a b : List Value} (p : a.Perm b) {k : Nat} : In a k ↔ In b k := by
  constructor
  · rintro ⟨r, hr, e⟩; exact ⟨r, p.mem_iff.1 hr, e⟩
  · rintro ⟨r, hr, e⟩; exact ⟨r, p.mem_iff.2 hr, e⟩
/-- a book of lists at block G: instructions' lists, units', literals' -/
structure BookAt (w : World) (G : Nat) (ti tu tl ei eu el : TypeId) (I U L : Value) (ri ru rl : List Value) : Prop where
  i : ListAt w G 0 ti I ri
  u : ListAt w G 1 tu U ru
  t : w.cell? ⟨G, 2, none⟩ = some (.slice none 0 0)
  l : ListAt w G 3 tl L rl
  n : w.cell? ⟨G, 4, none⟩ = some (.slice none 0 0)
  x : w.cell? ⟨G, 5, none⟩ = some (.slice none 0 0)
  mi : Mine w ei 3 ri
  mu : Mine w eu 5 ru
  ml : Mine w el 5 rl
  ap : Apart (I :: U :: L :: (ri ++ (ru ++ rl)))
  ng : ¬ In (ri ++ (ru ++ rl)) G
theorem BookAt.box {w : World} {G : Nat} {ti tu tl ei eu el : TypeId} {I U L : Value} {ri ru rl : List Value} (h : BookAt w G ti tu tl ei eu el I U L ri ru rl) : BookBox w G I U L :=
  ⟨h.i.c, h.u.c, h.t, h.l.c, h.n, h.x, h.i.f, h.u.f, h.l.f, h.i.lt⟩
/-- the blocks of a book -/
def BookIn (G : Nat) (I U L : Value) (ri ru rl : List Value) (k : Nat) : Prop := k = G ∨ In (I :: U :: L :: (ri ++ (ru ++ rl))) k
theorem BookAt.save {S : Nat → Prop} {w w' : World} {G : Nat} {ti tu tl ei eu el : TypeId} {I U L : Value} {ri ru rl : List Value} (h : BookAt w G ti tu tl ei eu el I U L ri ru rl) (s : Save S w w') (hS : ∀ k, BookIn G I U L ri ru rl k → ¬ S k) : BookAt w' G ti tu tl ei eu el I U L ri ru rl := by
  have hG : ¬ S G := hS G (.inl rfl)
  have hin : ∀ k, In (I :: U :: L :: (ri ++ (ru ++ rl))) k → ¬ S k := fun k hk => hS k (.inr hk)
  have hr : ∀ k, In (ri ++ (ru ++ rl)) k → ¬ S k := fun k hk => hin k (In.cons.2 (.inr (In.cons.2 (.inr (In.cons.2 (.inr hk))))))
  exact ⟨h.i.save s hG (fun k hk => hin k (In.cons.2 (.inl hk))), h.u.save s hG (fun k hk => hin k (In.cons.2 (.inr (In.cons.2 (.inl hk))))), (s.cell 2 h.i.lt hG).trans h.t,
    h.l.save s hG (fun k hk => hin k (In.cons.2 (.inr (In.cons.2 (.inr (In.cons.2 (.inl hk))))))), (s.cell 4 h.i.lt hG).trans h.n, (s.cell 5 h.i.lt hG).trans h.x,
    h.mi.save s (fun k hk => hr k (In.append.2 (.inl hk))), h.mu.save s (fun k hk => hr k (In.append.2 (.inr (In.append.2 (.inl hk))))), h.ml.save s (fun k hk => hr k (In.append.2 (.inr (In.append.2 (.inr hk))))), h.ap, h.ng⟩
theorem BookAt.lt {w : World} {G : Nat} {ti tu tl ei eu el : TypeId} {I U L : Value} {ri ru rl : List Value} (h : BookAt w G ti tu tl ei eu el I U L ri ru rl) {k : Nat} (hk : BookIn G I U L ri ru rl k) : k < w.heap.size := by
  rcases hk with rfl | hk
  · exact h.i.lt
  · rcases In.cons.1 hk with hk | hk
    · exact (h.i.o.lt k hk).2
    · rcases In.cons.1 hk with hk | hk
      · exact (h.u.o.lt k hk).2
      · rcases In.cons.1 hk with hk | hk
        · exact (h.l.o.lt k hk).2
        · rcases In.append.1 hk with hk | hk
          · exact h.mi.lt k hk
          · rcases In.append.1 hk with hk | hk
            · exact h.mu.lt k hk
            · exact h.ml.lt k hk
/-- which lists lie apart -/
theorem BookAt.parts {w : World} {G : Nat} {ti tu tl ei eu el : TypeId} {I U L : Value} {ri ru rl : List Value} (h : BookAt w G ti tu tl ei eu el I U L ri ru rl) :
    Apart (I :: ri) ∧ Apart (U :: ru) ∧ Apart (L :: rl) ∧ (∀ k, In ri k → ¬ (U.ownBlock = some k ∨ L.ownBlock = some k ∨ In ru k ∨ In rl k ∨ k = G)) ∧ (∀ k, In ru k → ¬ (L.ownBlock = some k ∨ In rl k ∨ k = G)) ∧ (∀ k, In rl k → ¬ k = G) := by
  obtain ⟨h1, a1⟩ := h.ap.of_cons
  obtain ⟨h2, a2⟩ := h1.of_cons
  obtain ⟨h3, a3⟩ := h2.of_cons
  obtain ⟨h4, h5, a4⟩ := h3.of_append
  obtain ⟨h6, h7, a5⟩ := h5.of_append
  have hn := h.ng
  refine ⟨Apart.cons' h4 (fun k e hk => a1 k e (In.cons.2 (.inr (In.cons.2 (.inr (In.append.2 (.inl hk))))))), Apart.cons' h6 (fun k e hk => a2 k e (In.cons.2 (.inr (In.append.2 (.inr (In.append.2 (.inl hk))))))), Apart.cons' h7 (fun k e hk => a3 k e (In.append.2 (.inr (In.append.2 (.inr hk))))), ?_, ?_, ?_⟩
  · rintro k hk (e | e | e | e | rfl)
    · exact a2 k e (In.cons.2 (.inr (In.append.2 (.inl hk))))
    · exact a3 k e (In.append.2 (.inl hk))
    · exact a4 k hk (In.append.2 (.inl e))
    · exact a4 k hk (In.append.2 (.inr e))
    · exact hn (In.append.2 (.inl hk))
  · rintro k hk (e | e | rfl)
    · exact a3 k e (In.append.2 (.inr (In.append.2 (.inl hk))))
    · exact a5 k hk e
    · exact hn (In.append.2 (.inr (In.append.2 (.inl hk))))
  · rintro k hk rfl
    exact hn (In.append.2 (.inr (In.append.2 (.inr hk))))
end Go.Proofs.YtoklnpoacckbfaaGreatDoor
namespace Go.Proofs.YtoklnpoacckbfaaGreatDoor
open Go Go.RowKit Go.Lib
theorem rows_perm {α : Type} (a b c d e : List α) (x : α) : ((a ++ b) ++ ((c ++ [x]) ++ (d ++ e))).Perm ((a ++ (c ++ d)) ++ (x :: (b ++ e))) := by
  have h1 : (a ++ b) ++ ((c ++ [x]) ++ (d ++ e)) = a ++ (b ++ (c ++ (x :: (d ++ e)))) := by simp
  have h2 : (a ++ (c ++ d)) ++ (x :: (b ++ e)) = a ++ (c ++ (d ++ (x :: (b ++ e)))) := by simp
  rw [h1, h2]
  refine List.Perm.append_left a ?_
  refine List.perm_append_comm.trans ?_
  have h3 : (c ++ (x :: (d ++ e))) ++ b = c ++ (x :: (d ++ (e ++ b))) := by simp
  rw [h3]
  refine List.Perm.append_left c ?_
  refine List.perm_middle.symm.trans ?_
  exact List.Perm.append_left d (List.Perm.cons x List.perm_append_comm)
theorem book_more {w w' : World} {G : Nat} {ti tu tl ei eu el : TypeId} {I U L I' U' L' : Value} {ri ru rl : List Value} (h : BookAt w G ti tu tl ei eu el I U L ri ru rl) {c : Pl.Cod} {Lc Uc : Value} {ci cl : List Value} (hc : CodOwn w el eu ei c Lc Uc ci cl)
    (hf : ∀ k, In (Uc :: (ci ++ cl)) k → ¬ BookIn G I U L ri ru rl k) (hb : BookBox w' G I' U' L') (hi : Owns w' 0 ti 1 I' (ri ++ ci).length (ri ++ ci)) (hu : Owns w' 0 tu 1 U' (ru ++ [Uc]).length (ru ++ [Uc])) (hl : Owns w' 0 tl 1 L' (rl ++ cl).length (rl ++ cl))
    (hs : Save (fun k => k = G ∨ I.ownBlock = some k ∨ U.ownBlock = some k ∨ L.ownBlock = some k) w w') {n1 n2 n3 : Nat} (h1 : w.heap.size ≤ n1) (h2 : n1 ≤ n2) (_h3 : n2 ≤ n3)
    (hU : ∀ k, U'.ownBlock = some k → U.ownBlock = some k ∨ (w.heap.size ≤ k ∧ k < n1)) (hL : ∀ k, L'.ownBlock = some k → L.ownBlock = some k ∨ (n1 ≤ k ∧ k < n2)) (hI : ∀ k, I'.ownBlock = some k → I.ownBlock = some k ∨ n2 ≤ k) :
    BookAt w' G ti tu tl ei eu el I' U' L' (ri ++ ci) (ru ++ [Uc]) (rl ++ cl) := by
  have hG := h.i.lt
  obtain ⟨p1, a1⟩ := h.ap.of_cons
  obtain ⟨p2, a2⟩ := p1.of_cons
  obtain ⟨p3, a3⟩ := p2.of_cons
  have hIl := h.i.o.lt
  have hUl := h.u.o.lt
  have hLl := h.l.o.lt
  have hrb : ∀ k, In (ri ++ (ru ++ rl)) k → k < w.heap.size ∧ ¬ (k = G ∨ I.ownBlock = some k ∨ U.ownBlock = some k ∨ L.ownBlock = some k) := fun k hk => by
    refine ⟨h.lt (.inr (In.cons.2 (.inr (In.cons.2 (.inr (In.cons.2 (.inr hk))))))), ?_⟩
    rintro (rfl | e | e | e)
    · exact h.ng hk
    · exact a1 k e (In.cons.2 (.inr (In.cons.2 (.inr hk))))
    · exact a2 k e (In.cons.2 (.inr hk))
    · exact a3 k e hk
  have hcm : Mine w el 5 cl := hc.l.mine
  obtain ⟨us, hus1, hus2, huo, huk⟩ := hc.u
  have hcim : Mine w ei 3 ci := by rw [← hus2]; exact huk.mine
  have hcr : ∀ k, In (Uc :: (ci ++ cl)) k → k < w.heap.size ∧ ¬ (k = G ∨ I.ownBlock = some k ∨ U.ownBlock = some k ∨ L.ownBlock = some k) := fun k hk => by
    refine ⟨?_, fun e => hf k hk ?_⟩
    · rcases In.cons.1 hk with hk | hk
      · exact (huo.lt k hk).2
      · rcases In.append.1 hk with hk | hk
        · exact hcim.lt k hk
        · exact hcm.lt k hk
    · rcases e with e | e | e | e
      · exact .inl e
      · exact .inr (In.cons.2 (.inl e))
      · exact .inr (In.cons.2 (.inr (In.cons.2 (.inl e))))
      · exact .inr (In.cons.2 (.inr (In.cons.2 (.inr (In.cons.2 (.inl e))))))
  have hperm := rows_perm ri ci ru rl cl Uc
  have hall : ∀ k, In ((ri ++ ci) ++ ((ru ++ [Uc]) ++ (rl ++ cl))) k → k < w.heap.size ∧ ¬ (k = G ∨ I.ownBlock = some k ∨ U.ownBlock = some k ∨ L.ownBlock = some k) := fun k hk => by
    rcases In.append.1 ((In.perm hperm).1 hk) with hk | hk
    · exact hrb k hk
    · exact hcr k hk
  have hap : Apart ((ri ++ ci) ++ ((ru ++ [Uc]) ++ (rl ++ cl))) := by
    refine Apart.perm ?_ hperm.symm
    exact Apart.append' p3 hc.a (fun k k1 k2 => hf k k2 (.inr (In.cons.2 (.inr (In.cons.2 (.inr (In.cons.2 (.inr k1))))))))
  have hneI : I'.ownBlock ≠ some G := fun e => by
    rcases hI G e with h' | h'
    · exact h.i.ne h'
    · omega
  have hneU : U'.ownBlock ≠ some G := fun e => by
    rcases hU G e with h' | h'
    · exact h.u.ne h'
    · omega
  have hneL : L'.ownBlock ≠ some G := fun e => by
    rcases hL G e with h' | h'
    · exact h.l.ne h'
    · omega
  refine ⟨⟨hb.c0, hb.f0, hb.lt, hi, hneI⟩, ⟨hb.c1, hb.f1, hb.lt, hu, hneU⟩, hb.c2, ⟨hb.c3, hb.f3, hb.lt, hl, hneL⟩, hb.c4, hb.c5,
    (h.mi.save hs (fun k hk => (hrb k (In.append.2 (.inl hk))).2)).append (hcim.save hs (fun k hk => (hcr k (In.cons.2 (.inr (In.append.2 (.inl hk))))).2)),
    (h.mu.save hs (fun k hk => (hrb k (In.append.2 (.inr (In.append.2 (.inl hk))))).2)).append ((Mine.one huo).save hs (fun k hk => (hcr k (In.cons.2 (.inl (In.one.1 hk)))).2)),
    (h.ml.save hs (fun k hk => (hrb k (In.append.2 (.inr (In.append.2 (.inr hk))))).2)).append (hcm.save hs (fun k hk => (hcr k (In.cons.2 (.inr (In.append.2 (.inr hk))))).2)), ?_, fun hk => (hall G hk).2 (.inl rfl)⟩
  refine Apart.cons' (Apart.cons' (Apart.cons' hap ?_) ?_) ?_
  · intro k e hk
    have := hall k hk
    rcases hL k e with h' | h'
    · exact this.2 (.inr (.inr (.inr h')))
    · omega
  · intro k e hk
    rcases In.cons.1 hk with hk | hk
    · rcases hU k e with h' | h'
      · rcases hL k hk with h'' | h''
        · exact a2 k h' (In.cons.2 (.inl h''))
        · have := (hUl k h').2; omega
      · rcases hL k hk with h'' | h''
        · have := (hLl k h'').2; omega
        · omega
    · have := hall k hk
      rcases hU k e with h' | h'
      · exact this.2 (.inr (.inr (.inl h')))
      · omega
  · intro k e hk
    rcases In.cons.1 hk with hk | hk
    · rcases hI k e with h' | h'
      · rcases hU k hk with h'' | h''
        · exact a1 k h' (In.cons.2 (.inl h''))
        · have := (hIl k h').2; omega
      · rcases hU k hk with h'' | h''
        · have := (hUl k h'').2; omega
        · omega
    · rcases In.cons.1 hk with hk | hk
      · rcases hI k e with h' | h'
        · rcases hL k hk with h'' | h''
          · exact a1 k h' (In.cons.2 (.inr (In.cons.2 (.inl h''))))
          · have := (hIl k h').2; omega
        · rcases hL k hk with h'' | h''
          · have := (hLl k h'').2; omega
          · omega
      · have := hall k hk
        rcases hI k e with h' | h'
        · exact this.2 (.inr (.inl h'))
        · omega
end Go.Proofs.YtoklnpoacckbfaaGreatDoor
namespace Go.Proofs.YtoklnpoacckbfaaGreatDoor
open Go Go.RowKit Go.Lib
theorem lits_len_le : ∀ l : List Pl.Lit, l.length ≤ Pl.litsBig l
  | [] => Nat.zero_le _
  | x :: r => by
    have := lits_len_le r
    have hb : Pl.litBig x = 1 + x.text.size + Pl.litsBig x.items := by cases x; rfl
    simp only [List.length_cons, Pl.litsBig]
    omega
inductive LentOf (Q : Nat → Prop) (w : World) : List Pl.Lit → Value → Prop
  | mk (l : List Pl.Lit) (g : Nat) (V : Nat → Value) (hQ : Q g) (hl : l.length ≤ 1099511627776) (hg : g < w.heap.size) (room : w.cell? ⟨g, l.length * 5 + 1, none⟩ = some (.int .i64 (-771)))
      (cells : ∀ (i : Nat) (x : Pl.Lit), l[i]? = some x → ∀ (j : Nat) (u : Value), (litCells x (V i))[j]? = some u → w.cell? ⟨g, i * 5 + j, none⟩ = some u) (hw : ∀ x ∈ l, Pl.LitW x)
      (hr : ∀ (i : Nat) (x : Pl.Lit), l[i]? = some x → LentOf Q w x.items (V i)) : LentOf Q w l (.slice (some ⟨g, 0, none⟩) l.length (l.length + 1))
theorem LentOf.save {Q S : Nat → Prop} {w w' : World} {l : List Pl.Lit} {v : Value} (h : LentOf Q w l v) (s : Save S w w') (hS : ∀ k, k < w.heap.size → Q k → ¬ S k) : LentOf Q w' l v := by
  induction h with
  | mk l g V hQ hl hg room cells hw _ ih =>
    refine .mk l g V hQ hl (Nat.lt_of_lt_of_le hg s.size) ((s.cell _ hg (hS g hg hQ)).trans room) (fun i x hx j u hu => (s.cell _ hg (hS g hg hQ)).trans (cells i x hx j u hu)) hw ih
theorem LentOf.mono {Q Q' : Nat → Prop} {w : World} {l : List Pl.Lit} {v : Value} (h : LentOf Q w l v) (hQ : ∀ k, k < w.heap.size → Q k → Q' k) : LentOf Q' w l v := by
  induction h with
  | mk l g V h1 hl hg room cells hw _ ih => exact .mk l g V (hQ g hg h1) hl hg room cells hw ih
theorem LentOf.keep {B : Nat} {w w' : World} {l : List Pl.Lit} {v : Value} (h : LentOf (fun k => k < B) w l v) (hb : Below B w w') : LentOf (fun k => k < B) w' l v := by
  induction h with
  | mk l g V hQ hl hg room cells hw _ ih =>
    exact .mk l g V hQ hl (Nat.lt_of_lt_of_le hg hb.size) ((hb.cell (p := ⟨g, l.length * 5 + 1, none⟩) hQ).trans room) (fun i x hx j u hu => (hb.cell (p := ⟨g, i * 5 + j, none⟩) hQ).trans (cells i x hx j u hu)) hw ih
theorem LentOf.lits {B : Nat} {w : World} {l : List Pl.Lit} {v : Value} (h : LentOf (fun k => k < B) w l v) : LitsAt B w l v := by
  induction h with
  | mk l g V hQ hl hg room cells hw _ ih =>
    refine .mk (some ⟨g, 0, none⟩) l (l.length + 1) V (fun _ a e => by cases e; exact hQ) ⟨by omega, by unfold maxLen; omega, by omega, fun _ => ⟨g, 0, rfl⟩, fun e => (by cases e), fun _ a e => (by cases e; exact hg), ?_⟩ hw ih
    intro b o e i x hx j u hu
    cases e
    rw [show 0 + i * 5 + j = i * 5 + j by omega]
    exact cells i x hx j u hu
/-- the first k of a row are these literals -/
def Filled (l : List Pl.Lit) (V : Nat → Value) (k : Nat) (xs : List Value) : Prop := ∀ (i : Nat) (x : Pl.Lit), i < k → l[i]? = some x → ∀ (j : Nat) (u : Value), (litCells x (V i))[j]? = some u → xs[i * 5 + j]? = some u
theorem Filled.zero (l : List Pl.Lit) (V : Nat → Value) (xs : List Value) : Filled l V 0 xs := fun i x hi => by omega
theorem litCells_get {x : Pl.Lit} {v u : Value} {j : Nat} (h : (litCells x v)[j]? = some u) : j = 0 ∧ u = .int .u8 x.kind ∨ j = 1 ∧ u = .int .i64 x.n ∨ j = 2 ∧ u = .int .u64 x.bits ∨ j = 3 ∧ u = .string x.text ∨ j = 4 ∧ u = v := by
  unfold litCells at h
  rcases j with _ | _ | _ | _ | _ | j <;> simp at h <;> simp [h]
theorem Filled.step {l : List Pl.Lit} {V : Nat → Value} {k : Nat} {xs : List Value} {x : Pl.Lit} {v : Value} (h : Filled l V k xs) (hx : l[k]? = some x) (hl : k * 5 + 4 < xs.length) :
    Filled l (fun i => if i = k then v else V i) (k + 1) (((((xs.set (k * 5) (.int .u8 x.kind)).set (k * 5 + 1) (.int .i64 x.n)).set (k * 5 + 2) (.int .u64 x.bits)).set (k * 5 + 3) (.string x.text)).set (k * 5 + 4) v) := by
  intro i y hi hy j u hu
  by_cases hik : i = k
  · subst hik
    have : y = x := by rw [hx] at hy; cases hy; rfl
    subst this
    simp only [if_true] at hu
    rcases litCells_get hu with ⟨rfl, rfl⟩ | ⟨rfl, rfl⟩ | ⟨rfl, rfl⟩ | ⟨rfl, rfl⟩ | ⟨rfl, rfl⟩
    · rw [List.getElem?_set_ne (by omega), List.getElem?_set_ne (by omega), List.getElem?_set_ne (by omega), List.getElem?_set_ne (by omega)]
      exact List.getElem?_set_self (by omega)
    · rw [List.getElem?_set_ne (by omega), List.getElem?_set_ne (by omega), List.getElem?_set_ne (by omega)]
      exact List.getElem?_set_self (by rw [List.length_set]; omega)
    · rw [List.getElem?_set_ne (by omega), List.getElem?_set_ne (by omega)]
      exact List.getElem?_set_self (by simp only [List.length_set]; omega)
    · rw [List.getElem?_set_ne (by omega)]
      exact List.getElem?_set_self (by simp only [List.length_set]; omega)
    · exact List.getElem?_set_self (by simp only [List.length_set]; omega)
  · simp only [if_neg hik] at hu
    have hj : j < 5 := (List.getElem?_eq_some_iff.1 hu).1
    rw [List.getElem?_set_ne (by omega), List.getElem?_set_ne (by omega), List.getElem?_set_ne (by omega), List.getElem?_set_ne (by omega), List.getElem?_set_ne (by omega)]
    exact h i y (by omega) hy j u hu
theorem Filled.room {l : List Pl.Lit} {V : Nat → Value} {xs : List Value} (h : Filled l V l.length xs) (u : Value) : Filled l V l.length (xs.set (l.length * 5 + 1) u) := by
  intro i x hi hx j v hv
  have hj : j < 5 := (List.getElem?_eq_some_iff.1 hv).1
  rw [List.getElem?_set_ne (by omega)]
  exact h i x hi hx j v hv
theorem LentOf.of_filled {Q : Nat → Prop} {w : World} {base g : Nat} {e : TypeId} {l : List Pl.Lit} {V : Nat → Value} {xs : List Value} (ho : Owns w base e 5 (.slice (some ⟨g, 0, none⟩) (l.length + 1) (l.length + 1)) (l.length + 1) xs) (hf : Filled l V l.length xs) (hroom : xs[l.length * 5 + 1]? = some (.int .i64 (-771)))
    (hl : l.length ≤ 1099511627776) (hQ : Q g) (hw : ∀ x ∈ l, Pl.LitW x) (hr : ∀ (i : Nat) (x : Pl.Lit), l[i]? = some x → LentOf Q w x.items (V i)) : LentOf Q w l (.slice (some ⟨g, 0, none⟩) l.length (l.length + 1)) := by
  refine .mk l g V hQ hl ((ho.lt g rfl).2) (ho.cellAt hroom) ?_ hw hr
  intro i x hx j u hu
  exact ho.cellAt (hf i x (List.getElem?_eq_some_iff.1 hx).1 hx j u hu)
end Go.Proofs.YtoklnpoacckbfaaGreatDoor
namespace Go.Proofs.YtoklnpoacckbfaaGreatDoor
open Go Go.RowKit Go.Lib
theorem ListAt.new {w : World} {G o : Nat} {e : TypeId} (hc : w.cell? ⟨G, o, none⟩ = some (.slice none 0 0)) (hf : w.frozen? ⟨G, o, none⟩ = false) (hG : G < w.heap.size) : ListAt w G o e (.slice none 0 0) [] :=
  ⟨hc, hf, hG, Owns.nil _ _ _ _, by simp [Value.ownBlock]⟩
theorem In.nils {n : Nat} {k : Nat} : ¬ In (List.replicate n (.slice none 0 0)) k := by
  rintro ⟨r, hr, e⟩
  obtain ⟨_, rfl⟩ := List.mem_replicate.1 hr
  simp [Value.ownBlock] at e
theorem Apart.nils (n : Nat) : Apart (List.replicate n (.slice none 0 0)) := by
  induction n with
  | zero => exact Apart.nil
  | succ n ih => exact Apart.cons' ih (fun k e _ => by simp [Value.ownBlock] at e)
theorem BookAt.new {w : World} {G : Nat} {ti tu tl ei eu el : TypeId} (h : BookBox w G (.slice none 0 0) (.slice none 0 0) (.slice none 0 0)) : BookAt w G ti tu tl ei eu el (.slice none 0 0) (.slice none 0 0) (.slice none 0 0) [] [] [] :=
  ⟨.new h.c0 h.f0 h.lt, .new h.c1 h.f1 h.lt, h.c2, .new h.c3 h.f3 h.lt, h.c4, h.c5, Mine.nil _ _ _, Mine.nil _ _ _, Mine.nil _ _ _, Apart.nils 3, In.nil⟩
theorem CodOwn.zero (w : World) (el eu ei : TypeId) : CodOwn w el eu ei ⟨⟨#[]⟩, 0, [], []⟩ (.slice none 0 0) (.slice none 0 0) [] [.slice none 0 0] :=
  ⟨.mk (.slice none 0 0) [] [] (Owns.nil _ _ _ _) (by simp) (by simp) rfl (by intro i p r hp; simp at hp), ⟨[], rfl, rfl, Owns.nil _ _ _ _, UKids.nil _ _⟩, Apart.nils 2⟩
theorem LitsOwn.rlens {w : World} {e : TypeId} {l : List Pl.Lit} {v : Value} {rs : List Value} (h : LitsOwn w e l v rs) : ∀ r ∈ rs, rlen r ≤ Pl.litsBig l := by
  induction h with
  | mk v ps rs ho hl hw hrl hr ih =>
    intro r hr1
    rcases List.mem_cons.1 hr1 with rfl | hr1
    · rw [ho.rlen]
      have := lits_len_le (ps.map (·.1))
      rwa [List.length_map] at this
    · obtain ⟨q, hq, hrq⟩ := List.mem_flatten.1 hr1
      obtain ⟨i, hi⟩ := List.mem_iff_getElem?.1 hq
      have hil : i < rs.length := by rw [List.getElem?_eq_some_iff] at hi; exact hi.1
      have hip : i < ps.length := by omega
      have := ih i ps[i] q (List.getElem?_eq_getElem hip) hi r hrq
      have h1 := big_take (l := ps.map (·.1)) (i := i) (x := ps[i].1) (by simp [hip])
      have h2 := big_take_le (ps.map (·.1)) (i + 1)
      omega
theorem CodOwn.rlens {w : World} {el eu ei : TypeId} {c : Pl.Cod} {L U : Value} {ri rl : List Value} (h : CodOwn w el eu ei c L U ri rl) (hu : ∀ u ∈ c.units, u.code.length ≤ 262144) (hn : c.units.length ≤ 255) (hl : Pl.litsBig c.lits ≤ 262144) :
    (∀ r ∈ ri ++ (U :: rl), rlen r ≤ 262144) ∧ ri.length ≤ 255 ∧ rl.length ≤ 262145 := by
  obtain ⟨us, e1, e2, ho, hk⟩ := h.u
  have hlen : us.length = c.units.length := by rw [← e1, List.length_map]
  refine ⟨?_, by rw [← e2, List.length_map]; omega, by have := h.l.rows_le; omega⟩
  intro r hr
  rcases List.mem_append.1 hr with hr | hr
  · rw [← e2] at hr
    obtain ⟨y, hy, rfl⟩ := List.mem_map.1 hr
    obtain ⟨i, hi⟩ := List.mem_iff_getElem?.1 hy
    obtain ⟨A, cap, ev, _⟩ := hk.insof i y hi
    have := hu y.1 (by rw [← e1]; exact List.mem_map.2 ⟨y, hy, rfl⟩)
    rw [ev]
    exact this
  · rcases List.mem_cons.1 hr with rfl | hr
    · rw [ho.rlen]; omega
    · have := h.l.rlens r hr
      omega
/-- the book behind some rounds -/
structure BookInv (w6 w : World) (G i : Nat) (ti tu tl ei eu el : TypeId) (I U L : Value) (ri ru rl : List Value) : Prop where
  b : BookAt w G ti tu tl ei eu el I U L ri ru rl
  s : Save (fun k => k = G) w6 w
  n : ∀ k, In (I :: U :: L :: (ri ++ (ru ++ rl))) k → w6.heap.size ≤ k
  li : ri.length ≤ i * 255
  lu : ru.length ≤ i
  ll : rl.length ≤ i * 262145
  sm : ∀ r ∈ ri ++ (ru ++ rl), rlen r ≤ 262144
theorem BookInv.start {w6 : World} {G : Nat} {ti tu tl ei eu el : TypeId} (h : BookBox w6 G (.slice none 0 0) (.slice none 0 0) (.slice none 0 0)) : BookInv w6 w6 G 0 ti tu tl ei eu el (.slice none 0 0) (.slice none 0 0) (.slice none 0 0) [] [] [] :=
  ⟨.new h, Save.refl _ _, fun k hk => (In.nils (n := 3) hk).elim, by simp, by simp, by simp, by simp⟩
theorem BookInv.keep {w6 w w' : World} {G i : Nat} {ti tu tl ei eu el : TypeId} {I U L : Value} {ri ru rl : List Value} (h : BookInv w6 w G i ti tu tl ei eu el I U L ri ru rl) (k : Below w.heap.size w w') : BookInv w6 w' G i ti tu tl ei eu el I U L ri ru rl :=
  ⟨h.b.save (Save.none_below' k) (fun _ _ f => f), h.s.trans (Save.none_below' k) (fun _ _ f => f.elim), h.n, h.li, h.lu, h.ll, h.sm⟩
theorem BookInv.more {w6 wr w w' : World} {G i : Nat} {ti tu tl ei eu el : TypeId} {I U L I' U' L' : Value} {ri ru rl : List Value} (h : BookInv w6 wr G i ti tu tl ei eu el I U L ri ru rl) (hb : Below wr.heap.size wr w)
    {c : Pl.Cod} {Lc Uc : Value} {ci cl : List Value} (hc : CodOwn w el eu ei c Lc Uc ci cl) (hn : ∀ k, In (Uc :: (ci ++ cl)) k → wr.heap.size ≤ k) (hcu : ∀ u ∈ c.units, u.code.length ≤ 262144) (hcn : c.units.length ≤ 255) (hcl : Pl.litsBig c.lits ≤ 262144)
    (hx : BookBox w' G I' U' L' ∧ Owns w' 0 ti 1 I' (ri ++ ci).length (ri ++ ci) ∧ Owns w' 0 tu 1 U' (ru ++ [Uc]).length (ru ++ [Uc]) ∧ Owns w' 0 tl 1 L' (rl ++ cl).length (rl ++ cl) ∧ Save (fun k => k = G ∨ I.ownBlock = some k ∨ U.ownBlock = some k ∨ L.ownBlock = some k) w w' ∧
        ∃ n1 n2 n3 : Nat, w.heap.size ≤ n1 ∧ n1 ≤ n2 ∧ n2 ≤ n3 ∧ (∀ k, U'.ownBlock = some k → U.ownBlock = some k ∨ (w.heap.size ≤ k ∧ k < n1)) ∧ (∀ k, L'.ownBlock = some k → L.ownBlock = some k ∨ (n1 ≤ k ∧ k < n2)) ∧ (∀ k, I'.ownBlock = some k → I.ownBlock = some k ∨ n2 ≤ k)) :
    BookInv w6 w' G (i + 1) ti tu tl ei eu el I' U' L' (ri ++ ci) (ru ++ [Uc]) (rl ++ cl) := by
  obtain ⟨x1, x2, x3, x4, x5, n1, n2, n3, m1, m2, m3, y1, y2, y3⟩ := hx
  have hk := h.keep hb
  have hz := h.s.size
  have hz2 := hb.size
  obtain ⟨r1, r2, r3⟩ := hc.rlens hcu hcn hcl
  have hin : ∀ k, In ((ri ++ ci) ++ ((ru ++ [Uc]) ++ (rl ++ cl))) k → In (ri ++ (ru ++ rl)) k ∨ In (Uc :: (ci ++ cl)) k := fun k hk => In.append.1 ((In.perm (rows_perm ri ci ru rl cl Uc)).1 hk)
  have hnk : ∀ k, In (Uc :: (ci ++ cl)) k → w6.heap.size ≤ k := fun k hk => Nat.le_trans hz (hn k hk)
  refine ⟨book_more hk.b hc (fun k hk1 hk2 => ?_) x1 x2 x3 x4 x5 m1 m2 m3 y1 y2 y3, hk.s.trans x5 (fun j hj e => ?_), ?_, ?_, ?_, ?_, ?_⟩
  · have := h.b.lt hk2
    have := hn k hk1
    omega
  · rcases e with e | e | e | e
    · exact e
    · have := h.n j (In.cons.2 (.inl e)); omega
    · have := h.n j (In.cons.2 (.inr (In.cons.2 (.inl e)))); omega
    · have := h.n j (In.cons.2 (.inr (In.cons.2 (.inr (In.cons.2 (.inl e)))))); omega
  · intro k hk1
    rcases In.cons.1 hk1 with e | hk1
    · rcases y3 k e with e | e
      · exact h.n k (In.cons.2 (.inl e))
      · omega
    rcases In.cons.1 hk1 with e | hk1
    · rcases y1 k e with e | e
      · exact h.n k (In.cons.2 (.inr (In.cons.2 (.inl e))))
      · omega
    rcases In.cons.1 hk1 with e | hk1
    · rcases y2 k e with e | e
      · exact h.n k (In.cons.2 (.inr (In.cons.2 (.inr (In.cons.2 (.inl e))))))
      · omega
    rcases hin k hk1 with e | e
    · exact h.n k (In.cons.2 (.inr (In.cons.2 (.inr (In.cons.2 (.inr e))))))
    · exact hnk k e
  · have := h.li; rw [List.length_append, Nat.add_mul]; omega
  · have := h.lu; rw [List.length_append]; simp; omega
  · have := h.ll; rw [List.length_append, Nat.add_mul]; omega
  · intro r hr
    rcases List.mem_append.1 ((rows_perm ri ci ru rl cl Uc).mem_iff.1 hr) with hr | hr
    · exact h.sm r hr
    · apply r1
      rcases List.mem_cons.1 hr with e | hr
      · rw [e]; simp
      · rcases List.mem_append.1 hr with hr | hr
        · exact List.mem_append.2 (.inl hr)
        · exact List.mem_append.2 (.inr (List.mem_cons.2 (.inr hr)))
end Go.Proofs.YtoklnpoacckbfaaGreatDoor
namespace Go.Proofs.YtoklnpoacckbfaaGreatDoor
open Go Go.RowKit Go.Lib
theorem info_unt : (Tryz.prog.info? 58).map (fun i => (i.zero, i.size, i.bytes)) = some (some (.agg #[.int .i64 0, .int .i64 0, .int .i64 0, .int .i64 0, .slice none 0 0]), 5, 56) := by kernel_rfl
theorem step_appU {ops : Array Oper} {o : Oper} {a : Act} {K : Act → World → Prop} {Q : Exit → Act → World → Prop} {E : Prop} {w : World} (hgd : o.guard = none) (s x : Operand)
    (ho : o.op = .call { callee := .builtin .append, args := #[s, x], argTypes := #[23, 23] }) (base : Nat) (v : Value) (ps : List (Pl.Unt × Value)) (hs : a.eval s = v) (hown : Owns w base 58 5 v ps.length (rowOf untCells ps))
    (p : Pl.Unt × Value) (hp : p.2.oneCell' = true) (cs : Array Value) (hc : cs.toList = untCells p.1 p.2) (hx : a.eval x = .slice (some ⟨w.heap.size, 0, none⟩) 1 1) (hlen : ps.length ≤ 1099511627776) (hbase : base ≤ w.heap.size)
    (h : ∀ v' w', Owns w' base 58 5 v' (ps.length + 1) (rowOf untCells (ps ++ [p])) → Grow w v w' v' → K (a.put o.dst v') w') :
    if Region.wanted o (yielded ops a.tmps) = true then Oper.wp Tryz.prog o a (w.alloc (.cells cs 58)) K Q else E := by
  have hw : Region.wanted o (yielded ops a.tmps) = true := by simp [Region.wanted, hgd]
  rw [if_pos hw]
  obtain ⟨i0, hi, hz0, hz1, hz2⟩ := info_parts info_unt
  obtain ⟨v', w', hr, h2, h3⟩ := run_append_owns (P := Tryz.prog) 23 o.type i0 _ 56 Tryz.underlying23 hi hz0 hz1 hz2 rfl (hown.alloc (.cells cs 58)) ⟨w.heap.size, 0, none⟩ 1 1 (untCells p.1 p.2) rfl
    (fun j u hj => new_cells w cs _ j u (by rw [hc]; exact hj)) (by
      intro u hu
      unfold untCells at hu
      simp at hu
      rcases hu with rfl | rfl | rfl | rfl | rfl <;> first | rfl | exact hp) (by unfold maxLen; omega) (by omega) (by simp; omega)
  unfold Oper.wp execOp
  simp only [ho, resolve, invoke, builtin, Sem.run_bind, Sem.run_pure, Result.andThen_ok, List.map_toArray, List.map_cons, List.map_nil, hs, hx, hr]
  refine h v' w' ?_ ((Grow.alloc w v _).trans h3)
  rw [rowOf_append, rowOf_one]
  exact h2
/-- how Unpack ends -/
def UnpEnd (sel : ByteArray) (lits : List Pl.Lit) (b : ByteArray) (w : World) (e : Ending) (w' : World) : Prop :=
  ((∃ c L' U', Pl.unpackC sel lits b = some c ∧ e = .returned (.tuple #[codV c L' U', .int .i64 0]) ∧ LitsOf (fun k => w.heap.size ≤ k) w' lits L' ∧ CodAt w'.heap.size w' c L' U') ∨
    (Pl.unpackC sel lits b = none ∧ e = .returned (.tuple #[.agg #[.string ⟨#[]⟩, .int .i64 0, .slice none 0 0, .slice none 0 0], .int .i64 203]))) ∧ Below w.heap.size w w'
theorem CodBox.set2 {w : World} {R : Nat} {s p l u : Value} (h : CodBox w R s p l u) (l' : Value) : CodBox (w.setCell ⟨R, 2, none⟩ l') R s p l' u :=
  ⟨by rw [World.cell?_setCell_other _ _ _ _ (by simp)]; exact h.c0, by rw [World.cell?_setCell_other _ _ _ _ (by simp)]; exact h.c1, by rw [World.cell?_setCell_same' _ _ _ (by rw [h.c2]; rfl)], by rw [World.cell?_setCell_other _ _ _ _ (by simp)]; exact h.c3,
    by rw [World.frozen?_setCell]; exact h.f0, by rw [World.frozen?_setCell]; exact h.f1, by rw [World.frozen?_setCell]; exact h.f2, by rw [World.frozen?_setCell]; exact h.f3, by simpa using h.lt⟩
theorem CodBox.drew' {w : World} {R : Nat} {s p l u : Value} (h : CodBox w R s p l u) : CodBox w.drew R s p l u := ⟨h.c0, h.c1, h.c2, h.c3, h.f0, h.f1, h.f2, h.f3, h.lt⟩
theorem CodBox.set3 {w : World} {R : Nat} {s p l u : Value} (h : CodBox w R s p l u) (u' : Value) : CodBox (w.setCell ⟨R, 3, none⟩ u') R s p l u' :=
  ⟨by rw [World.cell?_setCell_other _ _ _ _ (by simp)]; exact h.c0, by rw [World.cell?_setCell_other _ _ _ _ (by simp)]; exact h.c1, by rw [World.cell?_setCell_other _ _ _ _ (by simp)]; exact h.c2, by rw [World.cell?_setCell_same' _ _ _ (by rw [h.c3]; rfl)],
    by rw [World.frozen?_setCell]; exact h.f0, by rw [World.frozen?_setCell]; exact h.f1, by rw [World.frozen?_setCell]; exact h.f2, by rw [World.frozen?_setCell]; exact h.f3, by simpa using h.lt⟩
end Go.Proofs.YtoklnpoacckbfaaGreatDoor
