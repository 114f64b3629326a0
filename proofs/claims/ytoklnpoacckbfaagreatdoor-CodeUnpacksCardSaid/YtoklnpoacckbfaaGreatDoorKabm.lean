/- The code's reader: a unit. -/
import Derived.Test.YtoklnpoacckbfaaGreatDoorKabl
import Derived.Test.YtoklnpoacckbfaaGreatDoorKaak
namespace Go.Proofs.YtoklnpoacckbfaaGreatDoor
open Go Go.RowKit Go.Lib
theorem info_ins : (Tryz.prog.info? 61).map (fun i => (i.zero, i.size, i.bytes)) = some (some (.agg #[.int .u8 0, .int .i64 0, .int .i64 0]), 3, 24) := by kernel_rfl
theorem wpList_appI {ops : Array Oper} {rest : List Oper} {o : Oper} {a : Act} {Q : Exit → Act → World → Prop} {w : World} (hgd : o.guard = none) (s x : Operand)
    (ho : o.op = .call { callee := .builtin .append, args := #[s, x], argTypes := #[56, 56] }) (base : Nat) (v : Value) (l : List Pl.Ins) (hs : a.eval s = v) (hown : Owns w base 61 3 v l.length (insRow l))
    (y : Pl.Ins) (cs : Array Value) (hc : cs.toList = [.int .u8 y.op, .int .i64 y.a, .int .i64 y.b]) (hx : a.eval x = .slice (some ⟨w.heap.size, 0, none⟩) 1 1) (hlen : l.length ≤ 1099511627776) (hbase : base ≤ w.heap.size)
    (h : ∀ v' w', Owns w' base 61 3 v' (l.length + 1) (insRow (l ++ [y])) → Grow w v w' v' → wpList Tryz.prog ops Q rest (a.put o.dst v') w') : wpList Tryz.prog ops Q (o :: rest) a (w.alloc (.cells cs 61)) := by
  obtain ⟨i0, hi, hz0, hz1, hz2⟩ := info_parts info_ins
  refine wpList_append_owns hgd s x 56 ho base 61 i0 _ 3 24 Tryz.underlying56 hi hz0 hz1 hz2 rfl v l.length (insRow l) hs (hown.alloc _) ⟨w.heap.size, 0, none⟩ 1 1 [.int .u8 y.op, .int .i64 y.a, .int .i64 y.b] hx rfl ?_ ?_ (by unfold maxLen; omega) (by omega) (by simp; omega) ?_
  · intro j u hj
    exact new_cells w cs _ j u (by rw [hc]; exact hj)
  · intro u hu
    simp at hu
    rcases hu with rfl | rfl | rfl <;> rfl
  · intro v' w' ho' hg'
    refine h v' w' ?_ ((Grow.alloc w v _).trans hg')
    rw [insRow_append, insRow_one]
    exact ho'
/-- a reader at block P that has the bytes l ahead of it; what else has been written since w0 -/
structure RS (S : Nat → Prop) (w0 w : World) (P : Nat) (l : List Nat) : Prop where
  c0 : w.cell? ⟨P, 0, none⟩ = some (.string (Pl.bs l))
  f0 : w.frozen? ⟨P, 0, none⟩ = false
  lt : ∀ b ∈ l, b < 256
  len : l.length ≤ 140737488355328
  hP : P < w0.heap.size
  s : Save S w0 w
theorem RS.save {S T : Nat → Prop} {w0 w w' : World} {P : Nat} {l : List Nat} (h : RS S w0 w P l) (s : Save T w w') (hT : ¬ T P) (hS : ∀ j, j < w0.heap.size → T j → S j) : RS S w0 w' P l :=
  ⟨(s.cell 0 (Nat.lt_of_lt_of_le h.hP h.s.size) hT).trans h.c0, (s.frozen 0 (Nat.lt_of_lt_of_le h.hP h.s.size) hT).trans h.f0, h.lt, h.len, h.hP, h.s.trans s hS⟩
theorem RS.alloc {S : Nat → Prop} {w0 w : World} {P : Nat} {l : List Nat} (h : RS S w0 w P l) (o : Obj) : RS S w0 (w.alloc o) P l :=
  h.save ((Save.refl (fun _ => False) w).alloc o) (fun f => f) (fun _ _ f => f.elim)
theorem RS.self {S T : Nat → Prop} {w0 w : World} {P : Nat} {l : List Nat} (h : RS S w0 w P l) : RS T w w P l :=
  ⟨h.c0, h.f0, h.lt, h.len, Nat.lt_of_lt_of_le h.hP h.s.size, Save.refl _ _⟩
theorem RS.lift {S T : Nat → Prop} {w0 w1 w : World} {P : Nat} {l : List Nat} (h : RS T w1 w P l) (k : Save S w0 w1) (hP : P < w0.heap.size) (hT : ∀ j, j < w0.heap.size → T j → S j) : RS S w0 w P l :=
  ⟨h.c0, h.f0, h.lt, h.len, hP, k.trans h.s hT⟩
def shortP : List PanicEntry := [{ v := shortV, recovered := false }]
theorem nextR {S : Nat → Prop} {w0 w : World} {P : Nat} {l : List Nat} (h : RS S w0 w P l) (hS : S P) : Calls Tryz.prog 47 #[.pointer (some ⟨P, 0, none⟩)] w fun e w' =>
    (∃ (b : Nat) (t : List Nat), l = b :: t ∧ e = .returned (.int .i64 b) ∧ RS S w0 w' P t ∧ But P w w') ∨ (l = [] ∧ e = .panicked shortP ∧ w' = w) := by
  cases l with
  | nil => exact (next_end w P h.c0).mono fun e w' ⟨h1, h2⟩ => .inr ⟨rfl, h1, h2⟩
  | cons b t =>
    refine (next_any w P _ (Pl.bs_cons_size b t) (by rw [Pl.bs_size]; exact h.len) h.c0 h.f0).mono ?_
    rintro e w' ⟨h1, h2, h3, h4⟩
    refine .inl ⟨b, t, rfl, ?_, ⟨?_, h3, fun x hx => h.lt x (List.mem_cons_of_mem _ hx), Nat.le_of_succ_le h.len, h.hP, ?_⟩, h4⟩
    · rw [h1, Pl.bs_head (h.lt b (List.mem_cons_self ..))]
    · rw [h2, Pl.bs_tail]
    · exact h.s.trans (T := fun j => j = P) ⟨h4.os, h4.tape, h4.output, Nat.le_of_eq h4.size.symm, fun k _ hn => h4.block k hn⟩ (fun j _ e => by subst e; exact hS)
set_option maxRecDepth 100000 in
set_option maxHeartbeats 4000000 in
theorem unit_few {w : World} {P : Nat} {l : List Nat} (h : RS (fun k => k = P) w w P l) (hl : l.length < 6) :
    Calls Tryz.prog 48 #[.pointer (some ⟨P, 0, none⟩)] w fun e w' => e = .panicked shortP ∧ Save (fun k => k = P) w w' := by
  have HS := Lib.hid h
  clear h
  rcases l with _ | ⟨a, _ | ⟨c, _ | ⟨o, _ | ⟨s, _ | ⟨m, _ | ⟨n, r⟩⟩⟩⟩⟩⟩
  rotate_left 6
  · simp at hl
    omega
  all_goals
    clear hl
    go_enter Tryz.func48, Tryz.ntmps48
    go_wp2_with (go_at_call 47; refine (nextR (by first | exact HS.out | exact HS.out.alloc _) (by exact rfl)).mono ?_; rintro e w' (⟨b, t, hl', rfl, hr, hbt⟩ | ⟨hl', rfl, rfl⟩) <;> cases hl' <;> try (have HS := Lib.hid hr; have hb256 := HS.out.lt; clear hr hbt))
    first
      | exact ⟨rfl, rfl, HS.out.s⟩
      | exact ⟨rfl, rfl, HS.out.s.alloc _⟩
end Go.Proofs.YtoklnpoacckbfaaGreatDoor
