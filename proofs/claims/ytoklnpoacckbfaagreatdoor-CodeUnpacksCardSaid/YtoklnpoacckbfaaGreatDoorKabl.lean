/- Plain: rows of things, as a call owns them; strings of bytes, and their rest. What lay there stays, but where S says; literals and units in blocks of some kind. Nothing of a program. Plain: a code's bytes are read one behind the other. The document's reader: next. The code's reader: next: a byte, or a panic. -/
import Derived.Test.YtoklnpoacckbfaaGreatDoorKaam
import Derived.Test.YtoklnpoacckbfaaGreatDoorKaah
import Derived.Test.YtoklnpoacckbfaaGreatDoorKaai
import Derived.Test.YtoklnpoacckbfaaGreatDoorKaad
import Derived.BigQuiet
import Derived.Test.YtoklnpoacckbfaaGreatDoorKaae
namespace Go.Proofs.YtoklnpoacckbfaaGreatDoor
open Go Go.RowKit Go.Lib
namespace Pl
theorem bs_cons_size (b : Nat) (l : List Nat) : 0 < (bs (b :: l)).size := by rw [bs_size]; simp
theorem bs_head {b : Nat} {l : List Nat} (hb : b < 256) (h : 0 < (bs (b :: l)).size) : (bs (b :: l))[0].toNat = b := by
  show (UInt8.ofNat b).toNat = b
  rw [UInt8.toNat_ofNat']; exact Nat.mod_eq_of_lt hb
theorem bs_tail (b : Nat) (l : List Nat) : (bs (b :: l)).extract 1 (bs (b :: l)).size = bs l := by
  apply ByteArray.ext
  rw [ByteArray.data_extract]
  apply Array.ext'
  rw [bs_size]
  simp [bs]
  rw [List.take_of_length_le (by simp)]
/-- a string's bytes as numbers -/
def sb (s : ByteArray) : List Nat := s.data.toList.map UInt8.toNat
theorem sb_lt (s : ByteArray) : ∀ b ∈ sb s, b < 256 := by
  intro b hb; unfold sb at hb; obtain ⟨x, _, rfl⟩ := List.mem_map.1 hb; exact UInt8.toNat_lt x
theorem bs_sb (s : ByteArray) : bs (sb s) = s := by
  apply ByteArray.ext
  unfold bs sb
  rw [List.map_map]
  have : (UInt8.ofNat ∘ UInt8.toNat) = id := by funext x; simp
  rw [this, List.map_id]
theorem sb_size (s : ByteArray) : (sb s).length = s.size := by unfold sb; rw [List.length_map]; rfl
theorem sb_bs {l : List Nat} (h : ∀ b ∈ l, b < 256) : sb (bs l) = l := by
  unfold sb bs
  simp only [List.map_map]
  conv => rhs; rw [← List.map_id l]
  apply List.map_congr_left
  intro b hb
  have := h b hb
  show (UInt8.ofNat b).toNat = b
  rw [UInt8.toNat_ofNat']; exact Nat.mod_eq_of_lt this
theorem bs_inj {l m : List Nat} (hl : ∀ b ∈ l, b < 256) (hm : ∀ b ∈ m, b < 256) (h : bs l = bs m) : l = m := by
  rw [← sb_bs hl, ← sb_bs hm, h]
end Pl
section
variable {α : Type} {cs : α → Value → List Value} {size : Nat}
/-- the cells of things, each with the value of its last cell -/
def rowOf (cs : α → Value → List Value) (ps : List (α × Value)) : List Value := ps.flatMap fun p => cs p.1 p.2
theorem rowOf_append (cs : α → Value → List Value) (ps qs : List (α × Value)) : rowOf cs (ps ++ qs) = rowOf cs ps ++ rowOf cs qs := by unfold rowOf; rw [List.flatMap_append]
theorem rowOf_one (cs : α → Value → List Value) (x : α) (v : Value) : rowOf cs [(x, v)] = cs x v := by unfold rowOf; simp
theorem rowOf_len (h : ∀ x v, (cs x v).length = size) : ∀ ps : List (α × Value), (rowOf cs ps).length = ps.length * size
  | [] => by simp [rowOf]
  | p :: ps => by
    have := rowOf_len h ps
    unfold rowOf at this ⊢
    simp only [List.flatMap_cons, List.length_append, List.length_cons, h, this, Nat.add_mul, Nat.one_mul]; omega
theorem rowOf_at (h : ∀ x v, (cs x v).length = size) : ∀ (ps : List (α × Value)) (i : Nat) (p : α × Value), ps[i]? = some p → ∀ (j : Nat) (u : Value), (cs p.1 p.2)[j]? = some u → (rowOf cs ps)[i * size + j]? = some u
  | [], i, p, hp, _, _, _ => by simp at hp
  | q :: ps, 0, p, hp, j, u, hu => by
    simp at hp; subst hp
    unfold rowOf
    rw [List.flatMap_cons, Nat.zero_mul, Nat.zero_add, List.getElem?_append_left (by rw [List.getElem?_eq_some_iff] at hu; exact hu.1)]
    exact hu
  | q :: ps, i + 1, p, hp, j, u, hu => by
    have ih := rowOf_at h ps i p (by simpa using hp) j u hu
    unfold rowOf at ih ⊢
    rw [List.flatMap_cons, List.getElem?_append_right (by rw [h, Nat.add_mul]; omega), h, Nat.add_mul, Nat.one_mul, show i * size + size + j - size = i * size + j by omega]
    exact ih
/-- the value of the i-th thing's last cell -/
def valOf (ps : List (α × Value)) (i : Nat) : Value := match ps[i]? with | some p => p.2 | none => .nilFunc
theorem valOf_at {ps : List (α × Value)} {i : Nat} {p : α × Value} (h : ps[i]? = some p) : valOf ps i = p.2 := by unfold valOf; rw [h]
theorem RowAt.of_owns {w : World} {base : Nat} {e : TypeId} {v : Value} {ps : List (α × Value)} (hcs : ∀ x v, (cs x v).length = size) (h : Owns w base e size v ps.length (rowOf cs ps)) (hlen : ps.length ≤ 140737488355328) :
    ∃ A cap, v = .slice A (ps.map (·.1)).length cap ∧ (∀ a, A = some a → v.ownBlock = some a.block) ∧ RowAt size cs w (ps.map (·.1)) A cap (valOf ps) := by
  have hl := h.lt
  have hcells := fun (g : Nat) => h.cells (g := g)
  rcases h.2 with ⟨rfl, h0⟩ | ⟨g, cap, cur, fz, rfl, hg, hh, hfz, hn, hcap, hsz, htk⟩
  · have hp : ps = [] := List.eq_nil_of_length_eq_zero h0
    subst hp
    refine ⟨none, 0, rfl, by simp, ⟨by simp, by unfold maxLen; omega, by simp, by simp, fun _ => rfl, by simp, by simp⟩⟩
  · refine ⟨some ⟨g, 0, none⟩, cap, by rw [List.length_map], fun a ha => by cases ha; rfl, ⟨by simpa using hn, hcap, by simpa using hlen, fun _ => ⟨g, 0, rfl⟩, by simp, fun _ a ha => by cases ha; exact (hl g rfl).2, ?_⟩⟩
    intro b o e2 i x hx j u hu
    cases e2
    rw [List.getElem?_map] at hx
    obtain ⟨p, hp, rfl⟩ : ∃ p, ps[i]? = some p ∧ p.1 = x := by
      cases hps : ps[i]? with
      | none => rw [hps] at hx; cases hx
      | some p => rw [hps] at hx; exact ⟨p, rfl, by simpa using hx⟩
    rw [valOf_at hp] at hu
    have := hcells g rfl (i * size + j) u (rowOf_at hcs ps i p hp j u hu)
    rw [show (⟨g, 0, none⟩ : Addr).add (i * size + j) = ⟨g, 0 + (i * size + j), none⟩ from by unfold Addr.add; split <;> simp_all] at this
    rw [Nat.add_assoc]
    exact this
theorem RowAt.move {w w' : World} {l : List α} {A : Option Addr} {cap : Nat} {V : Nat → Value} (h : RowAt size cs w l A cap V) (hs : w.heap.size ≤ w'.heap.size) (hb : l ≠ [] → ∀ a, A = some a → w'.heap[a.block]? = w.heap[a.block]?) : RowAt size cs w' l A cap V := by
  refine ⟨h.le, h.capL, h.len, h.addr, h.nil, fun hn a ha => Nat.lt_of_lt_of_le (h.lt hn a ha) hs, ?_⟩
  intro b o e i x hx j u hu
  have hn : l ≠ [] := by rintro rfl; simp at hx
  rw [World.cell?_of_block (a := ⟨b, o + i * size + j, none⟩) (hb hn ⟨b, o, none⟩ e)]
  exact h.cells b o e i x hx j u hu
end
theorem insCells_len (x : Pl.Ins) (v : Value) : (insCells x v).length = 3 := rfl
theorem untCells_len (x : Pl.Unt) (v : Value) : (untCells x v).length = 5 := rfl
theorem litCells_len (x : Pl.Lit) (v : Value) : (litCells x v).length = 5 := rfl
/-- a slice value reads as instructions; the block that they lie in is as Q says -/
def InssOf (Q : Nat → Prop) (w : World) (l : List Pl.Ins) (v : Value) : Prop := ∃ A cap, v = .slice A l.length cap ∧ (l ≠ [] → ∀ a, A = some a → Q a.block) ∧ RowAt 3 insCells w l A cap (fun _ => .nilFunc) ∧ ∀ x ∈ l, Pl.InsW x
theorem InssOf.mono {Q Q' : Nat → Prop} {w : World} {l : List Pl.Ins} {v : Value} (h : InssOf Q w l v) (hQ : ∀ k, k < w.heap.size → Q k → Q' k) : InssOf Q' w l v := by
  obtain ⟨A, cap, rfl, hB, hr, hw⟩ := h
  exact ⟨A, cap, rfl, fun hn a ha => hQ _ (hr.lt hn a ha) (hB hn a ha), hr, hw⟩
theorem InssOf.keep {Q : Nat → Prop} {w w' : World} {l : List Pl.Ins} {v : Value} (h : InssOf Q w l v) (hs : w.heap.size ≤ w'.heap.size) (hb : ∀ k, k < w.heap.size → Q k → w'.heap[k]? = w.heap[k]?) : InssOf Q w' l v := by
  obtain ⟨A, cap, rfl, hB, hr, hw⟩ := h
  exact ⟨A, cap, rfl, hB, hr.move hs fun hn a ha => hb _ (hr.lt hn a ha) (hB hn a ha), hw⟩
theorem InssOf.at {Q : Nat → Prop} {w : World} {l : List Pl.Ins} {v : Value} (h : InssOf Q w l v) : InssAt w.heap.size w l v := by
  obtain ⟨A, cap, rfl, hB, hr, hw⟩ := h
  exact ⟨A, cap, rfl, fun hn a ha => hr.lt hn a ha, hr, hw⟩
theorem InssOf.lt {Q : Nat → Prop} {w : World} {l : List Pl.Ins} {v : Value} (h : InssOf Q w l v) (hQ : ∀ k, Q k → False) : l = [] := by
  obtain ⟨A, cap, rfl, hB, hr, hw⟩ := h
  cases l with
  | nil => rfl
  | cons x t =>
    obtain ⟨b, o, ha⟩ := hr.addr (by simp)
    exact (hQ _ (hB (by simp) _ ha)).elim
/-- instructions' cells -/
def insRow (l : List Pl.Ins) : List Value := rowOf insCells (l.map fun x => (x, .nilFunc))
theorem insRow_append (l m : List Pl.Ins) : insRow (l ++ m) = insRow l ++ insRow m := by unfold insRow; rw [List.map_append, rowOf_append]
theorem insRow_one (x : Pl.Ins) : insRow [x] = [.int .u8 x.op, .int .i64 x.a, .int .i64 x.b] := by unfold insRow; simp [rowOf, insCells]
theorem InssOf.of_owns {w : World} {base : Nat} {e : TypeId} {v : Value} {l : List Pl.Ins} (h : Owns w base e 3 v l.length (insRow l)) (hw : ∀ x ∈ l, Pl.InsW x) (hlen : l.length ≤ 140737488355328) : InssOf (fun k => base ≤ k) w l v := by
  have hlt := h.lt
  have hps : ((l.map fun x => (x, Value.nilFunc)) : List (Pl.Ins × Value)).length = l.length := List.length_map ..
  unfold insRow at h
  rw [← hps] at h
  obtain ⟨A, cap, hv, hA, hr⟩ := RowAt.of_owns insCells_len h (by rw [hps]; exact hlen)
  have hm : (l.map fun x => (x, Value.nilFunc)).map (·.1) = l := by rw [List.map_map]; exact List.map_id l
  rw [hm] at hv hr
  refine ⟨A, cap, hv, fun _ a ha => (hlt _ (hA a ha)).1, ⟨hr.le, hr.capL, hr.len, hr.addr, hr.nil, hr.lt, fun b o eq i x hx j u hu => hr.cells b o eq i x hx j u hu⟩, hw⟩
end Go.Proofs.YtoklnpoacckbfaaGreatDoor
namespace Go.Proofs.YtoklnpoacckbfaaGreatDoor
open Go Go.RowKit Go.Lib
/-- what lay there stays, but where S says -/
structure Save (S : Nat → Prop) (w w' : World) : Prop where
  os : w'.os = w.os
  tape : w'.tape = w.tape
  output : w'.output = w.output
  size : w.heap.size ≤ w'.heap.size
  block : ∀ k, k < w.heap.size → ¬ S k → w'.heap[k]? = w.heap[k]?
theorem Save.refl (S : Nat → Prop) (w : World) : Save S w w := ⟨rfl, rfl, rfl, Nat.le_refl _, fun _ _ _ => rfl⟩
theorem Save.trans {S T : Nat → Prop} {a b c : World} (h : Save S a b) (k : Save T b c) (hT : ∀ j, j < a.heap.size → T j → S j) : Save S a c :=
  ⟨k.os.trans h.os, k.tape.trans h.tape, k.output.trans h.output, Nat.le_trans h.size k.size, fun j hj hn => (k.block j (Nat.lt_of_lt_of_le hj h.size) (fun ht => hn (hT j hj ht))).trans (h.block j hj hn)⟩
theorem Save.mono {S T : Nat → Prop} {w w' : World} (h : Save S w w') (hT : ∀ j, j < w.heap.size → S j → T j) : Save T w w' := (Save.refl T w).trans h hT
theorem Save.of_below {B : Nat} {w w' : World} (h : Below B w w') (S : Nat → Prop) (hS : ∀ j, j < w.heap.size → ¬ S j → j < B) : Save S w w' := ⟨h.os, h.tape, h.output, h.size, fun k hk hn => h.block k (hS k hk hn)⟩
theorem Save.below {S : Nat → Prop} {w w' : World} (h : Save S w w') {B : Nat} (hB : B ≤ w.heap.size) (hS : ∀ j, j < B → ¬ S j) : Below B w w' := ⟨h.os, h.tape, h.output, h.size, fun k hk => h.block k (by omega) (hS k hk)⟩
theorem Save.step {S : Nat → Prop} {a b c : World} (h : Save S a b) {B : Nat} (k : Below B b c) (hB : a.heap.size ≤ B) : Save S a c := h.trans (Save.of_below k (fun j => B ≤ j) (fun j _ hn => by omega)) (fun j hj ht => by omega)
theorem Save.alloc {S : Nat → Prop} {a b : World} (h : Save S a b) (o : Obj) : Save S a (b.alloc o) := h.step ((Below.refl b.heap.size b).alloc (Nat.le_refl _) o) h.size
theorem Save.set {S : Nat → Prop} {a b : World} (h : Save S a b) (p : Addr) (v : Value) (hp : p.block < a.heap.size → S p.block) : Save S a (b.setCell p v) :=
  h.trans (T := fun j => j = p.block) ⟨rfl, rfl, rfl, by simp, fun k _ hk => Below.heap_setCell _ _ _ _ hk⟩ (fun j hj e => by subst e; exact hp hj)
theorem Save.grow {S : Nat → Prop} {a b c : World} {v v' : Value} (h : Save S a b) (g : Grow b v c v') (hv : ∀ k, v.ownBlock = some k → k < a.heap.size → S k) : Save S a c :=
  h.trans (T := fun j => v.ownBlock = some j) ⟨g.1.os, g.1.tape, g.1.output, g.1.size, fun k hk hn => g.1.block k hk (fun e => hn e.symm)⟩ (fun j hj e => hv j e hj)
theorem Save.cell {S : Nat → Prop} {w w' : World} (h : Save S w w') {b : Nat} (o : Nat) (hb : b < w.heap.size) (hS : ¬ S b) : w'.cell? ⟨b, o, none⟩ = w.cell? ⟨b, o, none⟩ := World.cell?_of_block (a := ⟨b, o, none⟩) (h.block b hb hS)
theorem Save.frozen {S : Nat → Prop} {w w' : World} (h : Save S w w') {b : Nat} (o : Nat) (hb : b < w.heap.size) (hS : ¬ S b) : w'.frozen? ⟨b, o, none⟩ = w.frozen? ⟨b, o, none⟩ := World.frozen?_of_block (a := ⟨b, o, none⟩) (h.block b hb hS)
theorem Owns.save {S : Nat → Prop} {w w' : World} {base : Nat} {e : TypeId} {size : Nat} {v : Value} {n : Nat} {xs : List Value} (h : Owns w base e size v n xs) (s : Save S w w') (hS : ∀ k, v.ownBlock = some k → ¬ S k) : Owns w' base e size v n xs := by
  have hl := h.lt
  refine ⟨h.1, ?_⟩
  rcases h.2 with hn | ⟨g, cap, cur, fz, rfl, hb1, hgg, rest⟩
  · exact .inl hn
  · exact .inr ⟨g, cap, cur, fz, rfl, hb1, (s.block g (hl g rfl).2 (hS g rfl)).trans hgg, rest⟩
theorem InssOf.save {Q S : Nat → Prop} {w w' : World} {l : List Pl.Ins} {v : Value} (h : InssOf Q w l v) (s : Save S w w') (hS : ∀ k, k < w.heap.size → Q k → ¬ S k) : InssOf Q w' l v :=
  h.keep s.size fun k hk hq => s.block k hk (hS k hk hq)
/-- literals in blocks as Q says -/
inductive LitsOf (Q : Nat → Prop) (w : World) : List Pl.Lit → Value → Prop
  | mk (A : Option Addr) (l : List Pl.Lit) (cap : Nat) (V : Nat → Value) (hB : l ≠ [] → ∀ a, A = some a → Q a.block) (h : RowAt 5 litCells w l A cap V) (hw : ∀ x ∈ l, Pl.LitW x) (hr : ∀ (i : Nat) (x : Pl.Lit), l[i]? = some x → LitsOf Q w x.items (V i)) :
    LitsOf Q w l (.slice A l.length cap)
theorem LitsOf.save {Q S : Nat → Prop} {w w' : World} {l : List Pl.Lit} {v : Value} (h : LitsOf Q w l v) (s : Save S w w') (hS : ∀ k, k < w.heap.size → Q k → ¬ S k) : LitsOf Q w' l v := by
  induction h with
  | mk A l cap V hB h hw _ ih => exact .mk A l cap V hB (h.move s.size fun hn a ha => s.block _ (h.lt hn a ha) (hS _ (h.lt hn a ha) (hB hn a ha))) hw ih
theorem LitsOf.mono {Q Q' : Nat → Prop} {w : World} {l : List Pl.Lit} {v : Value} (h : LitsOf Q w l v) (hQ : ∀ k, k < w.heap.size → Q k → Q' k) : LitsOf Q' w l v := by
  induction h with
  | mk A l cap V hB h hw _ ih => exact .mk A l cap V (fun hn a ha => hQ _ (h.lt hn a ha) (hB hn a ha)) h hw ih
theorem LitsOf.at {Q : Nat → Prop} {w : World} {l : List Pl.Lit} {v : Value} (h : LitsOf Q w l v) : LitsAt w.heap.size w l v := by
  induction h with
  | mk A l cap V hB h hw _ ih => exact .mk A l cap V (fun hn a ha => h.lt hn a ha) h hw ih
theorem LitsAt.of {B : Nat} {w : World} {l : List Pl.Lit} {v : Value} (h : LitsAt B w l v) : LitsOf (fun k => k < B) w l v := by
  induction h with
  | mk A l cap V hB h hw _ ih => exact .mk A l cap V hB h hw ih
theorem LitsOf.of_owns {Q : Nat → Prop} {w : World} {base : Nat} {e : TypeId} {v : Value} {l : List Pl.Lit} {ps : List (Pl.Lit × Value)} (h : Owns w base e 5 v ps.length (rowOf litCells ps)) (hl : ps.map (·.1) = l) (hlen : ps.length ≤ 140737488355328)
    (hv : ∀ k, v.ownBlock = some k → Q k) (hw : ∀ x ∈ l, Pl.LitW x) (hr : ∀ (i : Nat) (p : Pl.Lit × Value), ps[i]? = some p → LitsOf Q w p.1.items p.2) : LitsOf Q w l v := by
  obtain ⟨A, cap, e1, hA, hrow⟩ := RowAt.of_owns litCells_len h hlen
  subst hl
  rw [e1]
  refine .mk A _ cap _ (fun _ a ha => hv _ (hA a ha)) hrow hw ?_
  intro i x hx
  rw [List.getElem?_map] at hx
  cases hps : ps[i]? with
  | none => rw [hps] at hx; cases hx
  | some p =>
    rw [hps] at hx
    have : p.1 = x := by simpa using hx
    rw [valOf_at hps, ← this]
    exact hr i p hps
theorem UntsAt.of_owns {w : World} {base : Nat} {e : TypeId} {v : Value} {l : List Pl.Unt} {ps : List (Pl.Unt × Value)} (h : Owns w base e 5 v ps.length (rowOf untCells ps)) (hl : ps.map (·.1) = l) (hlen : ps.length ≤ 140737488355328)
    (hw : ∀ x ∈ l, Pl.UntW x) {Q : Nat → Prop} (hr : ∀ (i : Nat) (p : Pl.Unt × Value), ps[i]? = some p → InssOf Q w p.1.code p.2) : UntsAt w.heap.size w l v := by
  have hlt := h.lt
  obtain ⟨A, cap, e1, hA, hrow⟩ := RowAt.of_owns untCells_len h hlen
  subst hl
  refine ⟨A, cap, valOf ps, e1, fun _ a ha => (hlt _ (hA a ha)).2, hrow, hw, ?_⟩
  intro i x hx
  rw [List.getElem?_map] at hx
  cases hps : ps[i]? with
  | none => rw [hps] at hx; cases hx
  | some p =>
    rw [hps] at hx
    have : p.1 = x := by simpa using hx
    rw [valOf_at hps, ← this]
    exact (hr i p hps).at
/-- a struct's cells in a box of its own -/
theorem new_cells (w : World) (cs : Array Value) (t : TypeId) : ∀ j x, cs.toList[j]? = some x → (w.alloc (.cells cs t)).cell? ((⟨w.heap.size, 0, none⟩ : Addr).add j) = some x := by
  intro j x h
  rw [show (⟨w.heap.size, 0, none⟩ : Addr).add j = ⟨w.heap.size, j, none⟩ from by unfold Addr.add; split <;> simp_all]
  rw [World.cell?_alloc_new, ← Array.getElem?_toList]
  exact h
end Go.Proofs.YtoklnpoacckbfaaGreatDoor
namespace Go.Proofs.YtoklnpoacckbfaaGreatDoor
open Go Go.RowKit Go.Lib
namespace Pl
def glue {α : Type} (xs : List α) (o : Option (List α × List Nat)) : Option (List α × List Nat) := match o with | some p => some (xs ++ p.1, p.2) | none => none
theorem glue_nil {α : Type} (o : Option (List α × List Nat)) : glue [] o = o := by unfold glue; cases o <;> rfl
theorem glue_done {α : Type} (rd : List Nat → Option (α × List Nat)) (xs : List α) (r : List Nat) : glue xs (rdMany rd 0 r) = some (xs, r) := by unfold glue rdMany; simp
theorem glue_step {α : Type} {rd : List Nat → Option (α × List Nat)} {xs : List α} {r r1 : List Nat} {x : α} {n : Nat} (h : rd r = some (x, r1)) : glue xs (rdMany rd (n + 1) r) = glue (xs ++ [x]) (rdMany rd n r1) := by
  have e : rdMany rd (n + 1) r = (match rdMany rd n r1 with | none => none | some (xs, r1) => some (x :: xs, r1)) := by
    conv => lhs; unfold rdMany
    simp only [h]
    cases rdMany rd n r1 <;> rfl
  rw [e]
  cases rdMany rd n r1 with
  | none => rfl
  | some p => unfold glue; simp
theorem glue_stop {α : Type} {rd : List Nat → Option (α × List Nat)} {xs : List α} {r : List Nat} {n : Nat} (h : rd r = none) : glue xs (rdMany rd (n + 1) r) = none := by unfold rdMany; rw [h]; rfl
/-- the first bytes of an A -/
def rdAt (j : Nat) (l : List Nat) : Option (Int × List Nat) :=
  if j = 0 then some (0, l) else if j = 1 then (match l with | a :: r => some ((a : Int), r) | [] => none)
  else (match l with | a :: b :: r => some ((a : Int) + 256 * b, r) | _ => none)
theorem rdAt_all (op : Nat) (l : List Nat) : rdAt (bytesA op) l = rdA op l := rfl
theorem rdAt_zero (l : List Nat) : rdAt 0 l = some (0, l) := rfl
theorem rdAt_one {l r : List Nat} {a : Int} (h : rdAt 1 l = some (a, r)) : ∃ b : Nat, l = b :: r ∧ a = b := by
  unfold rdAt at h
  cases l with
  | nil => simp at h
  | cons b t => simp at h; exact ⟨b, by rw [h.2], h.1.symm⟩
theorem rdIns_nil (q : Nat → Bool) : rdIns q [] = none := rfl
theorem rdIns_bad {q : Nat → Bool} {op : Nat} {r : List Nat} (h : q op = false) : rdIns q (op :: r) = none := by unfold rdIns; simp [h]
theorem rdIns_a {q : Nat → Bool} {op : Nat} {r : List Nat} (h : rdA op r = none) : rdIns q (op :: r) = none := by unfold rdIns; simp [h]
theorem rdIns_b {q : Nat → Bool} {op : Nat} {r r1 : List Nat} {a : Int} (h : rdA op r = some (a, r1)) (hb : rdB op r1 = none) : rdIns q (op :: r) = none := by unfold rdIns; simp [h, hb]
theorem rdIns_ok {q : Nat → Bool} {op : Nat} {r r1 r2 : List Nat} {a b : Int} (hq : q op = true) (h : rdA op r = some (a, r1)) (hb : rdB op r1 = some (b, r2)) : rdIns q (op :: r) = some (⟨op, a, b⟩, r2) := by unfold rdIns; simp [hq, h, hb]
theorem rdA_none1 {op : Nat} (h : 0 < bytesA op) : rdA op [] = none := by unfold rdA; rw [if_neg (by omega)]; split <;> rfl
theorem rdA_none2 {op : Nat} {b : Nat} (h : 1 < bytesA op) : rdA op [b] = none := by unfold rdA; rw [if_neg (by omega), if_neg (by omega)]
theorem rdB_two_nil {op : Nat} (h : two op = true) : rdB op [] = none := by unfold rdB; rw [if_pos h]
theorem rdB_two {op : Nat} (h : two op = true) (b : Nat) (r : List Nat) : rdB op (b :: r) = some ((b : Int), r) := by unfold rdB; rw [if_pos h]
theorem rdB_one {op : Nat} (h : two op = false) (r : List Nat) : rdB op r = some (0, r) := by unfold rdB; rw [if_neg (by rw [h]; simp)]
theorem rdUnt_few {q : Nat → Bool} {l : List Nat} (h : l.length < 6) : rdUnt q l = none := by
  unfold rdUnt
  split
  · simp at h
    omega
  · rfl
theorem rdUnt_none {q : Nat → Bool} {a c o s m n : Nat} {r : List Nat} (h : rdMany (rdIns q) (m + 256 * n) r = none) : rdUnt q (a :: c :: o :: s :: m :: n :: r) = none := by
  unfold rdUnt; simp [h]
theorem rdUnt_some {q : Nat → Bool} {a c o s m n : Nat} {r r1 : List Nat} {xs : List Ins} (h : rdMany (rdIns q) (m + 256 * n) r = some (xs, r1)) : rdUnt q (a :: c :: o :: s :: m :: n :: r) = some (⟨a, c, o, s, xs⟩, r1) := by
  unfold rdUnt; simp [h]
theorem rd_few {l : List Nat} (h : l.length < 2) : rd l = none := by
  unfold rd rdQ rdUnts
  match l, h with
  | [], _ => rfl
  | [_], _ => rfl
  | _ :: _ :: _, h => simp at h; omega
theorem rd_none {p n : Nat} {r : List Nat} (h : rdMany (rdUnt knownB) n r = none) : rd (p :: n :: r) = none := by
  unfold rd rdQ rdUnts; simp [h]
theorem rd_more {p n : Nat} {r r1 : List Nat} {us : List Unt} (h : rdMany (rdUnt knownB) n r = some (us, r1)) (h1 : r1 ≠ []) : rd (p :: n :: r) = none := by
  unfold rd rdQ rdUnts; simp [h]
  cases r1 with
  | nil => exact absurd rfl h1
  | cons x t => rfl
theorem rd_some {p n : Nat} {r : List Nat} {us : List Unt} (h : rdMany (rdUnt knownB) n r = some (us, [])) : rd (p :: n :: r) = some ((p : Int), us) := by
  unfold rd rdQ rdUnts; simp [h]
end Pl
end Go.Proofs.YtoklnpoacckbfaaGreatDoor
namespace Go.Proofs.YtoklnpoacckbfaaGreatDoor
open Go Go.RowKit
structure RdrAt (w : World) (P : Nat) (s : ByteArray) (i : Nat) (bad : Bool) : Prop where
  c0 : w.cell? ⟨P, 0, none⟩ = some (.string s)
  c1 : w.cell? ⟨P, 1, none⟩ = some (.int .i64 i)
  c2 : w.cell? ⟨P, 2, none⟩ = some (.bool bad)
  f1 : w.frozen? ⟨P, 1, none⟩ = false
  f2 : w.frozen? ⟨P, 2, none⟩ = false
theorem RdrAt.step {w : World} {P : Nat} {s : ByteArray} {i : Nat} {bad : Bool} (h : RdrAt w P s i bad) (j : Nat) : RdrAt (w.setCell ⟨P, 1, none⟩ (.int .i64 j)) P s j bad :=
  ⟨by rw [World.cell?_setCell_other _ _ _ _ (by simp)]; exact h.c0, by rw [World.cell?_setCell_same' _ _ _ (by rw [h.c1]; rfl)], by rw [World.cell?_setCell_other _ _ _ _ (by simp)]; exact h.c2, by rw [World.frozen?_setCell]; exact h.f1, by rw [World.frozen?_setCell]; exact h.f2⟩
theorem RdrAt.step' {w : World} {P : Nat} {s : ByteArray} {i : Nat} {bad : Bool} (h : RdrAt w P s i bad) (j : Nat) {v : Int} (hv : v = j) : RdrAt (w.setCell ⟨P, 1, none⟩ (.int .i64 v)) P s j bad := by subst hv; exact h.step j
theorem RdrAt.fail {w : World} {P : Nat} {s : ByteArray} {i : Nat} {bad : Bool} (h : RdrAt w P s i bad) : RdrAt (w.setCell ⟨P, 2, none⟩ (.bool true)) P s i true :=
  ⟨by rw [World.cell?_setCell_other _ _ _ _ (by simp)]; exact h.c0, by rw [World.cell?_setCell_other _ _ _ _ (by simp)]; exact h.c1, by rw [World.cell?_setCell_same' _ _ _ (by rw [h.c2]; rfl)], by rw [World.frozen?_setCell]; exact h.f1, by rw [World.frozen?_setCell]; exact h.f2⟩
/-- besides block P all lies as it lay -/
structure But (P : Nat) (w w' : World) : Prop where
  os : w'.os = w.os
  tape : w'.tape = w.tape
  output : w'.output = w.output
  size : w'.heap.size = w.heap.size
  block : ∀ b, b ≠ P → w'.heap[b]? = w.heap[b]?
theorem But.refl (P : Nat) (w : World) : But P w w := ⟨rfl, rfl, rfl, rfl, fun _ _ => rfl⟩
theorem But.trans {P : Nat} {a b c : World} (h : But P a b) (k : But P b c) : But P a c :=
  ⟨k.os.trans h.os, k.tape.trans h.tape, k.output.trans h.output, k.size.trans h.size, fun i hi => (k.block i hi).trans (h.block i hi)⟩
theorem But.below {P B : Nat} {w w' : World} (h : But P w w') (hB : B ≤ P) : Below B w w' := ⟨h.os, h.tape, h.output, by rw [h.size]; exact Nat.le_refl _, fun k hk => h.block k (by omega)⟩
theorem But.store (w : World) (P j : Nat) (v : Value) : But P w (w.setCell ⟨P, j, none⟩ v) := ⟨rfl, rfl, rfl, by simp, fun b hb => Below.heap_setCell _ _ _ _ (by simpa using hb)⟩
theorem RdrAt.draw {w : World} {P : Nat} {s : ByteArray} {i : Nat} {bad : Bool} (h : RdrAt w P s i bad) (n : Nat) : RdrAt (w.drewN n) P s i bad := ⟨h.c0, h.c1, h.c2, h.f1, h.f2⟩
theorem But.draw (P : Nat) (w : World) (n : Nat) : But P w (w.drewN n) := ⟨rfl, rfl, rfl, rfl, fun _ _ => rfl⟩
set_option maxHeartbeats 1000000 in
theorem rnext_any (w : World) (P : Nat) (s : ByteArray) (i : Nat) (bad : Bool) (h : RdrAt w P s i bad) (hs : s.size ≤ 140737488355328) (hi : i < s.size) :
    Calls Tryz.prog 45 #[.pointer (some ⟨P, 0, none⟩)] w fun e w' => e = .returned (.int .i64 (s[i].toNat : Nat)) ∧ RdrAt w' P s (i + 1) bad ∧ But P w w' := by
  have HR := Lib.hid h
  obtain ⟨c0, c1, c2, f1, f2⟩ := h
  have hiI : (i : Int) < (s.size : Int) := by omega
  have hb256 : s[i].toNat < 256 := UInt8.toNat_lt _
  go_enter Tryz.func45, Tryz.ntmps45
  go_wp2_with fail
  go_quiet (fail)
  go_wp2_with fail
  go_quiet (fail)
  go_wp2_with fail
  go_ret
  exact ⟨rfl, (HR.out.draw _).step' (i + 1) (by omega), (But.draw P w _).trans (But.store _ P 1 _)⟩
set_option maxHeartbeats 1000000 in
theorem rnext_end (w : World) (P : Nat) (s : ByteArray) (i : Nat) (bad : Bool) (h : RdrAt w P s i bad) (hi : s.size ≤ i) :
    Calls Tryz.prog 45 #[.pointer (some ⟨P, 0, none⟩)] w fun e w' => e = .returned (.int .i64 0) ∧ RdrAt w' P s i true ∧ But P w w' := by
  have HR := Lib.hid h
  obtain ⟨c0, c1, c2, f1, f2⟩ := h
  have hiI : (s.size : Int) ≤ (i : Int) := by omega
  go_enter Tryz.func45, Tryz.ntmps45
  go_wp2_with fail
  go_quiet (fail)
  go_wp2_with fail
  go_ret
  exact ⟨rfl, (HR.out.draw _).fail, (But.draw P w _).trans (But.store _ P 2 _)⟩
end Go.Proofs.YtoklnpoacckbfaaGreatDoor
namespace Go.Proofs.YtoklnpoacckbfaaGreatDoor
open Go Go.RowKit
def shortV : Value := .iface 92 (.agg #[])
set_option maxHeartbeats 1000000 in
theorem next_any (w : World) (P : Nat) (s : ByteArray) (hs : 0 < s.size) (hsz : s.size ≤ 140737488355328) (c0 : w.cell? ⟨P, 0, none⟩ = some (.string s)) (f0 : w.frozen? ⟨P, 0, none⟩ = false) :
    Calls Tryz.prog 47 #[.pointer (some ⟨P, 0, none⟩)] w fun e w' => e = .returned (.int .i64 (s[0].toNat : Nat)) ∧ w'.cell? ⟨P, 0, none⟩ = some (.string (s.extract 1 s.size)) ∧ w'.frozen? ⟨P, 0, none⟩ = false ∧ But P w w' := by
  have he : s.toList.isEmpty = false := notempty s hs
  have he2 : (s.toList == []) = false := by cases h : s.toList <;> simp [h] at he ⊢
  have hb256 : s[0].toNat < 256 := UInt8.toNat_lt _
  have h1 : 1 ≤ s.size := hs
  have h1I : (1 : Int) ≤ (s.size : Int) := by omega
  go_enter Tryz.func47, Tryz.ntmps47
  go_wp2_with fail
  go_ret
  exact ⟨rfl, by rw [World.cell?_setCell_same' _ _ _ (by rw [c0]; rfl)], by rw [World.frozen?_setCell]; exact f0, But.store _ P 0 _⟩
set_option maxHeartbeats 1000000 in
theorem next_end (w : World) (P : Nat) (c0 : w.cell? ⟨P, 0, none⟩ = some (.string ⟨#[]⟩)) :
    Calls Tryz.prog 47 #[.pointer (some ⟨P, 0, none⟩)] w fun e w' => e = .panicked [{ v := shortV, recovered := false }] ∧ w' = w := by
  go_enter Tryz.func47, Tryz.ntmps47
  go_wp2_with fail
  unfold shortV; exact ⟨rfl, rfl, rfl⟩
end Go.Proofs.YtoklnpoacckbfaaGreatDoor
