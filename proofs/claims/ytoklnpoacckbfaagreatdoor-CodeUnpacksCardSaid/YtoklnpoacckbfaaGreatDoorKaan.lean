/- (*heights).come: a place is come to with a height. A label that is jumped back to: the law with a number that the relation bears. The document's symbol and Moves. Plain: may an instruction stand: operation by operation, as a Bool. The document's frame. -/
import Derived.Test.YtoklnpoacckbfaaGreatDoorKaam
import Derived.Test.YtoklnpoacckbfaaGreatDoorKaai
import Derived.Deep.CutRange
import Derived.ScopeJumps
import Derived.Deep.LoopGhost
import Derived.Test.YtoklnpoacckbfaaGreatDoorKaak
import Derived.Below
namespace Go.Proofs.YtoklnpoacckbfaaGreatDoor
open Go Go.RowKit Go.Lib
structure HgtAt (w : World) (base P G n : Nat) (hs : List Nat) (most : Int) : Prop where
  c0 : w.cell? ⟨P, 0, none⟩ = some (.slice (some ⟨G, 0, none⟩) n n)
  c1 : w.cell? ⟨P, 1, none⟩ = some (.int .i64 most)
  f1 : w.frozen? ⟨P, 1, none⟩ = false
  own : Owns w base 5 1 (.slice (some ⟨G, 0, none⟩) n n) n (nums .u8 hs)
  ne : P ≠ G
  bP : base ≤ P
  len : hs.length = n
theorem Owns.heap_eq {w w' : World} {base : Nat} {e : TypeId} {size : Nat} {v : Value} {n : Nat} {xs : List Value} (h : Owns w base e size v n xs) (hb : ∀ g, v.ownBlock = some g → w'.heap[g]? = w.heap[g]?) : Owns w' base e size v n xs := by
  refine ⟨h.1, ?_⟩
  rcases h.2 with hn | ⟨g, cap, cur, fz, rfl, hbg, hgg, rest⟩
  · exact .inl hn
  · exact .inr ⟨g, cap, cur, fz, rfl, hbg, by rw [hb g rfl]; exact hgg, rest⟩
theorem HgtAt.same {w w' : World} {base P G n : Nat} {hs : List Nat} {most : Int} (h : HgtAt w base P G n hs most) (hP : w'.heap[P]? = w.heap[P]?) (hG : w'.heap[G]? = w.heap[G]?) : HgtAt w' base P G n hs most :=
  ⟨by rw [World.cell?_of_block hP]; exact h.c0, by rw [World.cell?_of_block hP]; exact h.c1, by have := h.f1; unfold World.frozen? at this ⊢; simp only [hP]; exact this,
    h.own.heap_eq (fun g hg => by simp [Value.ownBlock] at hg; subst hg; exact hG), h.ne, h.bP, h.len⟩
theorem HgtAt.below {w w' : World} {B base P G n : Nat} {hs : List Nat} {most : Int} (h : HgtAt w base P G n hs most) (hb : Below B w w') (hP : P < B) (hG : G < B) : HgtAt w' base P G n hs most := h.same (hb.block P hP) (hb.block G hG)
theorem HgtAt.set {w : World} {base P G n : Nat} {hs : List Nat} {most : Int} (h : HgtAt w base P G n hs most) (k m : Nat) (M : Int) :
    HgtAt ((w.setCell ⟨G, k, none⟩ (.int .u8 (m : Nat))).setCell ⟨P, 1, none⟩ (.int .i64 M)) base P G n (hs.set k m) M := by
  have hne := h.ne
  have c0 : (w.setCell ⟨G, k, none⟩ (.int .u8 (m : Nat))).cell? ⟨P, 0, none⟩ = some (.slice (some ⟨G, 0, none⟩) n n) := by rw [World.cell?_of_block (Below.heap_setCell _ _ _ _ (by simpa using hne))]; exact h.c0
  have c1 : (w.setCell ⟨G, k, none⟩ (.int .u8 (m : Nat))).cell? ⟨P, 1, none⟩ = some (.int .i64 most) := by rw [World.cell?_of_block (Below.heap_setCell _ _ _ _ (by simpa using hne))]; exact h.c1
  refine ⟨?_, ?_, ?_, ?_, hne, h.bP, by rw [List.length_set]; exact h.len⟩
  · rw [World.cell?_setCell_other _ _ _ _ (by simp)]; exact c0
  · rw [World.cell?_setCell_same' _ _ _ (by rw [c1]; rfl)]
  · rw [World.frozen?_setCell, World.frozen?_setCell]; exact h.f1
  · rw [← nums_set]
    exact (h.own.stored _).elsewhere _ (by simp [Value.ownBlock]; exact fun e => hne e.symm)
/-- blocks besides two lie as they lay -/
theorem two_heap {w : World} {P G k b : Nat} (u v : Value) (h1 : b ≠ P) (h2 : b ≠ G) : ((w.setCell ⟨G, k, none⟩ u).setCell ⟨P, 1, none⟩ v).heap[b]? = w.heap[b]? := by
  rw [Below.heap_setCell _ _ _ _ (by simpa using h1), Below.heap_setCell _ _ _ _ (by simpa using h2)]
set_option maxRecDepth 100000 in
set_option maxHeartbeats 2000000 in
theorem come_bad {w : World} {base P G n : Nat} {hs : List Nat} {most : Int} (h : HgtAt w base P G n hs most) (k : Nat) (NW : Int) (n0 : 0 ≤ NW) (n1 : NW ≤ 1000) (hv : hs.getD k 0 ≤ 251) (hbad : n ≤ k ∨ 250 < NW ∨ hs.getD k 0 ≠ 0 ∧ (hs.getD k 0 : Int) ≠ NW + 1) :
    Calls Tryz.prog 61 #[.pointer (some ⟨P, 0, none⟩), .int .i64 k, .int .i64 NW] w fun e w' => e = .returned (.tuple #[.bool false, .bool false]) ∧ w' = w := by
  obtain ⟨c0, c1, f1, own, hne, hbP, hlen⟩ := h
  by_cases h250 : 250 < NW
  · go_enter Tryz.func61, Tryz.ntmps61
    go_wp2_with fail
    go_ret2
    exact ⟨rfl, rfl⟩
  by_cases hk : n ≤ k
  · have hkI : (n : Int) ≤ (k : Int) := by omega
    have hn : NW ≤ 250 := by omega
    go_enter Tryz.func61, Tryz.ntmps61
    go_wp2_with fail
    go_ret2
    exact ⟨rfl, rfl⟩
  · have hkn : k < n := by omega
    have hkI : (k : Int) < (n : Int) := by omega
    have hn : NW ≤ 250 := by omega
    obtain ⟨v, hvv⟩ : ∃ v, hs[k]? = some v := ⟨_, List.getElem?_eq_getElem (by omega)⟩
    have hgd : hs.getD k 0 = v := by rw [List.getD_eq_getElem?_getD, hvv]; rfl
    rw [hgd] at hv hbad
    have cv : w.cell? ⟨G, k, none⟩ = some (.int .u8 v) := own.cellAt (nums_at .u8 hvv)
    have hb1 : v ≠ 0 ∧ (v : Int) ≠ NW + 1 := by omega
    have q0 : ((v : Int) != 0) = true := by simp; omega
    have q1 : ((v : Int) != NW + 1) = true := by simpa using hb1.2
    clear hbad hb1 own hvv
    go_enter Tryz.func61, Tryz.ntmps61
    go_wp2_with fail
    go_ret2
    exact ⟨rfl, rfl⟩
set_option maxRecDepth 100000 in
set_option maxHeartbeats 2000000 in
theorem come_ok {w : World} {base P G n : Nat} {hs : List Nat} {most : Int} (h : HgtAt w base P G n hs most) (k : Nat) (NW : Int) (n0 : 0 ≤ NW) (n1 : NW ≤ 250) (hkn : k < n) (v : Nat) (hvv : hs[k]? = some v) (hv : v ≤ 251) (hok : v = 0 ∨ (v : Int) = NW + 1) :
    Calls Tryz.prog 61 #[.pointer (some ⟨P, 0, none⟩), .int .i64 k, .int .i64 NW] w fun e w' => e = .returned (.tuple #[.bool (v == 0), .bool true]) ∧ w' = (w.setCell ⟨G, k, none⟩ (.int .u8 (NW + 1))).setCell ⟨P, 1, none⟩ (.int .i64 (max most NW)) := by
  obtain ⟨c0, c1, f1, own, hne, hbP, hlen⟩ := h
  have hkI : (k : Int) < (n : Int) := by omega
  have cv : w.cell? ⟨G, k, none⟩ = some (.int .u8 v) := own.cellAt (nums_at .u8 hvv)
  have cf : w.frozen? ⟨G, k, none⟩ = false := own.free (by omega)
  have hng : ¬ G = P := fun e => hne e.symm
  clear own hvv
  rcases hok with rfl | hok
  · go_enter Tryz.func61, Tryz.ntmps61
    go_wp2_with fail
    go_ret2
    exact ⟨rfl, rfl⟩
  · have q0 : ((v : Int) != 0) = true := by simp; omega
    have q1 : ((v : Int) != NW + 1) = false := by simpa using hok
    have q2 : ((v : Int) == 0) = false := by simp; omega
    have q3 : (v == 0) = false := by simp; omega
    go_enter Tryz.func61, Tryz.ntmps61
    go_wp2_with fail
    go_ret2
    refine ⟨?_, rfl⟩
    simp [q3]
    omega
end Go.Proofs.YtoklnpoacckbfaaGreatDoor
namespace Go.Proofs.YtoklnpoacckbfaaGreatDoor
open Go
theorem wp_scope_ghost {P : Program} {a : Act} {w : World} {Q : Exit → Act → World → Prop} {c rest : Code} (l : Nat) (J : Nat → Act → World → Prop) (hf : findLabel c l = some rest)
    (first : c.wp P (Exit.jump l (fun a' w' => ∃ n, J n a' w') Q) a w)
    (pass : ∀ n a w, J n a w → rest.wp P (Exit.jump l (fun a' w' => ∃ n', n' < n ∧ J n' a' w') Q) a w) : (Code.scope c).wp P Q a w := by
  refine wp_scope_jumps l (fun a w => ∃ n, J n a w) (fun a w => leastOf (fun n => J n a w)) hf first ?_
  intro a w hJ
  refine wp_mono (pass _ a w (leastOf_spec hJ).1) ?_
  intro e a' w' hq
  cases e with
  | goto l' =>
    obtain ⟨h1, n', hlt, hJ'⟩ := hq
    exact ⟨h1, ⟨n', hJ'⟩, Nat.lt_of_le_of_lt ((leastOf_spec ⟨n', hJ'⟩).2 n' hJ') hlt⟩
  | normal => exact hq
  | exit id => exact hq
  | ret => exact hq
  | panic ch => exact hq
  | outgrown => exact hq
/-- where the label is come to from above, too -/
theorem wp_scope_ghost_x {P : Program} {a : Act} {w : World} {Q : Exit → Act → World → Prop} {c X : Code} (l : Nat) (J : Nat → Act → World → Prop) (hf : findLabel c l = some (Code.skip.seq X))
    (passX : ∀ n a w, J n a w → X.wp P (Exit.jump l (fun a' w' => ∃ n', n' < n ∧ J n' a' w') Q) a w)
    (first : (∀ n a w, J n a w → X.wp P (Exit.jump l (fun a' w' => ∃ n, J n a' w') Q) a w) → c.wp P (Exit.jump l (fun a' w' => ∃ n, J n a' w') Q) a w) : (Code.scope c).wp P Q a w := by
  refine wp_scope_ghost l J hf (first fun n a w h => ?_) (fun n a w h => wp_seq (wp_skip (passX n a w h)))
  refine wp_mono (passX n a w h) ?_
  intro e a' w' hq
  cases e with
  | goto l' =>
    obtain ⟨h1, n', _, hJ'⟩ := hq
    exact ⟨h1, n', hJ'⟩
  | normal => exact hq
  | exit id => exact hq
  | ret => exact hq
  | panic ch => exact hq
  | outgrown => exact hq
end Go.Proofs.YtoklnpoacckbfaaGreatDoor
namespace Go.Proofs.YtoklnpoacckbfaaGreatDoor
open Go.RowKit
namespace Pl
/-- the symbol's text, and whether there is one -/
def symV (o : Option ByteArray) : Array Value := match o with
  | some s => #[.string s, .bool true]
  | none => #[.string ⟨#[]⟩, .bool false]
theorem symbol_out {l : List Lit} {a : Int} (h : ¬ in_ a 0 ((l.length : Int) - 1)) : symbol l a = none := by
  unfold symbol; unfold in_ at h
  by_cases ha : 0 ≤ a
  · rw [if_pos ha, List.getElem?_eq_none (by omega)]
  · rw [if_neg ha]
theorem symbol_at {l : List Lit} {k : Nat} {x : Lit} (h : l[k]? = some x) : symbol l (k : Int) = if x.kind = 9 then some x.text else none := by
  unfold symbol
  rw [if_pos (by omega), show ((k : Int)).toNat = k by omega, h]
end Pl
set_option maxRecDepth 100000 in
set_option maxHeartbeats 2000000 in
theorem symbol_any {B : Nat} {c : Pl.Cod} {L U : Value} (w : World) (h : CodAt B w c L U) (a : Int) (ha0 : -9223372036854775808 ≤ a) (ha1 : a ≤ 9223372036854775807) :
    Calls Tryz.prog 65 #[codV c L U, .int .i64 a] w fun e w' => e = .returned (.tuple (Pl.symV (Pl.symbol c.lits a))) ∧ Below w.heap.size w w' := by
  have hB := h.b
  obtain ⟨Al, capl, Vl, rfl, hBl, hrowl, hwl, hrl⟩ := h.l.out
  have h1 := hrowl.le
  have h2 := hrowl.len
  unfold codV
  by_cases hin : Pl.in_ a 0 ((c.lits.length : Int) - 1)
  · have hina := hin
    unfold Pl.in_ at hina
    obtain ⟨k, rfl⟩ : ∃ k : Nat, a = k := ⟨a.toNat, by omega⟩
    have hlt : k < c.lits.length := by omega
    obtain ⟨b, o, rfl, hbb⟩ := hrowl.some_of hlt
    obtain ⟨y, hy⟩ : ∃ y, c.lits[k]? = some y := ⟨_, List.getElem?_eq_getElem hlt⟩
    obtain ⟨e0, e1, e2, e3, e4⟩ := hrowl.lit hy
    have HI := Lib.hid (Pl.inB_true hin)
    have HS := Lib.hid (Pl.symbol_at hy)
    clear hy hin
    have hltI : (k : Int) < (c.lits.length : Int) := by omega
    have hk0 : (0 : Int) ≤ (k : Int) := by omega
    by_cases hk : y.kind = 9
    · have HR := Lib.hid (HS.out.trans (if_pos hk))
      have hkI : ((y.kind : Int) != 9) = false := by simp; omega
      clear hk HS
      go_enter Tryz.func65, Tryz.ntmps65
      go_wp2_with fail
      refine (in_any _ _ _ _).mono ?_
      rintro e w2 ⟨rfl, rfl⟩
      rw [HI.out]
      go_wp2_with fail
      go_ret2
      exact ⟨by rw [HR.out]; rfl, (Below.refl _ _).alloc (Nat.le_refl _) _⟩
    · have HR := Lib.hid (HS.out.trans (if_neg hk))
      have hkI : ((y.kind : Int) != 9) = true := by simp; omega
      clear hk HS
      go_enter Tryz.func65, Tryz.ntmps65
      go_wp2_with fail
      refine (in_any _ _ _ _).mono ?_
      rintro e w2 ⟨rfl, rfl⟩
      rw [HI.out]
      go_wp2_with fail
      go_ret2
      exact ⟨by rw [HR.out]; rfl, (Below.refl _ _).alloc (Nat.le_refl _) _⟩
  · have HR := Lib.hid (Pl.symbol_out hin)
    have HI := Lib.hid (Pl.inB_false hin)
    clear hin
    go_enter Tryz.func65, Tryz.ntmps65
    go_wp2_with fail
    refine (in_any _ _ _ _).mono ?_
    rintro e w2 ⟨rfl, rfl⟩
    rw [HI.out]
    go_wp2_with fail
    go_ret2
    exact ⟨by rw [HR.out]; rfl, (Below.refl _ _).alloc (Nat.le_refl _) _⟩
def insV (x : Pl.Ins) : Value := .agg #[.int .u8 x.op, .int .i64 x.a, .int .i64 x.b]
theorem ret_two {a b c d : Int} (h1 : a = c) (h2 : b = d) : Ending.returned (.tuple #[.int .i64 a, .int .i64 b]) = .returned (.tuple #[.int .i64 c, .int .i64 d]) := by rw [h1, h2]
set_option maxRecDepth 100000 in
set_option maxHeartbeats 2000000 in
theorem moves_any (x : Pl.Ins) (hx : Pl.InsW x) (hb : x.b ≤ 1000) (w : World) : Calls Tryz.prog 69 #[insV x] w fun e w' => e = .returned (.tuple #[.int .i64 (Pl.off x), .int .i64 (Pl.lays x)]) ∧ Below w.heap.size w w' := by
  have hb0 := hx.b0
  unfold insV
  go_enter Tryz.func69, Tryz.ntmps69
  go_wp2_with fail
  all_goals
    simp only [beq_iff_eq, beq_eq_false_iff_ne] at *
    go_ret2
    refine ⟨ret_two ?_ ?_, (Below.refl _ _).alloc (Nat.le_refl _) _⟩
    · unfold Pl.off
      first
        | rw [if_pos (by omega)]
        | rw [if_neg (by omega), if_pos (by omega)]
        | rw [if_neg (by omega), if_neg (by omega), if_pos (by omega)]
        | rw [if_neg (by omega), if_neg (by omega), if_neg (by omega), if_pos (by omega)]
        | rw [if_neg (by omega), if_neg (by omega), if_neg (by omega), if_neg (by omega)]
    · unfold Pl.lays
      first
        | rw [if_pos (by omega)]
        | rw [if_neg (by omega), if_pos (by omega)]
        | rw [if_neg (by omega), if_neg (by omega)]
end Go.Proofs.YtoklnpoacckbfaaGreatDoor
namespace Go.Proofs.YtoklnpoacckbfaaGreatDoor
open Go.RowKit
namespace Pl
open Classical in
noncomputable def standsB (lits : List Lit) (units : List Unt) (i : Nat) (x : Ins) : Bool := decide (Stands lits units i x)
theorem standsB_iff {lits : List Lit} {units : List Unt} {i : Nat} {x : Ins} : standsB lits units i x = true ↔ Stands lits units i x := by unfold standsB; simp
def frameOf (u : Unt) : Int := u.args + u.copied + u.locals
variable (lits : List Lit) (units : List Unt) (i : Nat) (a b : Int)
theorem standsB_free {k : Nat} (h : 1 ≤ k ∧ k ≤ 4 ∨ k = 14 ∨ k = 15 ∨ k = 21) : standsB lits units i ⟨k, a, b⟩ = (decide (a = 0) && decide (b = 0)) := by
  rw [Bool.eq_iff_iff, standsB_iff]; unfold Stands
  have h1 : bytesA k = 0 := by unfold bytesA; rw [if_neg (by omega), if_pos (by omega)]
  have h2 : two k = false := by unfold two; simp; omega
  simp [h1, h2, h]
theorem standsB_leave : standsB lits units i ⟨22, a, b⟩ = (decide (a = 0) && decide (b = 0) && decide (0 < i)) := by
  rw [Bool.eq_iff_iff, standsB_iff]; unfold Stands
  simp [show bytesA 22 = 0 from rfl, show two 22 = false from rfl, and_assoc]
theorem standsB_lit : standsB lits units i ⟨5, a, b⟩ = (decide (b = 0) && inB a 0 ((lits.length : Int) - 1)) := by
  rw [Bool.eq_iff_iff, standsB_iff]; unfold Stands inB in_
  simp [show bytesA 5 = 1 from rfl, show two 5 = false from rfl]
theorem standsB_local {k : Nat} (h : k = 6 ∨ k = 10) : standsB lits units i ⟨k, a, b⟩ = (decide (b = 0) && inB a 0 (frameOf (unt units i) - 1)) := by
  rw [Bool.eq_iff_iff, standsB_iff]; unfold Stands inB in_ frameOf
  rcases h with rfl | rfl
  · simp [show bytesA 6 = 1 from rfl, show two 6 = false from rfl]
  · simp [show bytesA 10 = 1 from rfl, show two 10 = false from rfl]
theorem standsB_remote {k : Nat} (h : k = 7 ∨ k = 11) : standsB lits units i ⟨k, a, b⟩ = (inB a 0 (frameOf (unt units i) - 1) && inB b 0 62) := by
  rw [Bool.eq_iff_iff, standsB_iff]; unfold Stands inB in_ frameOf
  rcases h with rfl | rfl
  · simp [show bytesA 7 = 1 from rfl, show two 7 = true from rfl]
  · simp [show bytesA 11 = 1 from rfl, show two 11 = true from rfl]
theorem standsB_field {k : Nat} (h : k = 8 ∨ k = 12 ∨ k = 24) : standsB lits units i ⟨k, a, b⟩ = (decide (b = 0) && inB a 0 255) := by
  rw [Bool.eq_iff_iff, standsB_iff]; unfold Stands inB in_
  rcases h with rfl | rfl | rfl
  · simp [show bytesA 8 = 1 from rfl, show two 8 = false from rfl]
  · simp [show bytesA 12 = 1 from rfl, show two 12 = false from rfl]
  · simp [show bytesA 24 = 1 from rfl, show two 24 = false from rfl]
theorem standsB_global {k : Nat} (h : k = 9 ∨ k = 13) (s : ByteArray) (hs : symbol lits a = some s) : standsB lits units i ⟨k, a, b⟩ = (decide (b = 0) && (name s.data.toList && !takenB s)) := by
  rw [Bool.eq_iff_iff, standsB_iff]; unfold Stands
  rcases h with rfl | rfl
  · simp [show bytesA 9 = 1 from rfl, show two 9 = false from rfl, hs, takenB]
  · simp [show bytesA 13 = 1 from rfl, show two 13 = false from rfl, hs, takenB]
theorem standsB_global_no {k : Nat} (h : k = 9 ∨ k = 13) (hs : symbol lits a = none) : standsB lits units i ⟨k, a, b⟩ = false := by
  rw [← Bool.not_eq_true, standsB_iff]; unfold Stands
  rcases h with rfl | rfl <;> simp [hs]
theorem standsB_send {k : Nat} (h : k = 16 ∨ k = 17) (s : ByteArray) (hs : symbol lits a = some s) : standsB lits units i ⟨k, a, b⟩ = (inB b 0 15 && decide (arity s.data.toList = b)) := by
  rw [Bool.eq_iff_iff, standsB_iff]; unfold Stands inB in_
  rcases h with rfl | rfl
  · simp [show bytesA 16 = 1 from rfl, show two 16 = true from rfl, hs]
  · simp [show bytesA 17 = 1 from rfl, show two 17 = true from rfl, hs]
theorem standsB_send_no {k : Nat} (h : k = 16 ∨ k = 17) (hs : symbol lits a = none) : standsB lits units i ⟨k, a, b⟩ = false := by
  rw [← Bool.not_eq_true, standsB_iff]; unfold Stands
  rcases h with rfl | rfl <;> simp [hs]
theorem standsB_jump {k : Nat} (h : k = 18 ∨ k = 19 ∨ k = 20) : standsB lits units i ⟨k, a, b⟩ = (decide (b = 0) && inB a 0 (((unt units i).code.length : Int) - 1)) := by
  rw [Bool.eq_iff_iff, standsB_iff]; unfold Stands inB in_
  rcases h with rfl | rfl | rfl
  · simp [show bytesA 18 = 2 from rfl, show two 18 = false from rfl]
  · simp [show bytesA 19 = 2 from rfl, show two 19 = false from rfl]
  · simp [show bytesA 20 = 2 from rfl, show two 20 = false from rfl]
theorem standsB_vector : standsB lits units i ⟨23, a, b⟩ = (decide (b = 0) && inB a 1 63) := by
  rw [Bool.eq_iff_iff, standsB_iff]; unfold Stands inB in_
  simp [show bytesA 23 = 1 from rfl, show two 23 = false from rfl]
theorem standsB_block : standsB lits units i ⟨25, a, b⟩ = (inB a ((i : Int) + 1) ((units.length : Int) - 1) && decide (b = (unt units a.toNat).copied)) := by
  rw [Bool.eq_iff_iff, standsB_iff]; unfold Stands inB in_
  simp [show bytesA 25 = 1 from rfl, show two 25 = true from rfl]
theorem standsB_none {k : Nat} (h : k = 0 ∨ 26 ≤ k) : standsB lits units i ⟨k, a, b⟩ = false := by
  rw [← Bool.not_eq_true, standsB_iff]; unfold Stands
  have : ¬ (1 ≤ k ∧ k ≤ 4 ∨ k = 14 ∨ k = 15 ∨ k = 21) := by omega
  have h22 : k ≠ 22 := by omega
  have h5 : k ≠ 5 := by omega
  have h6 : ¬ (k = 6 ∨ k = 10) := by omega
  have h7 : ¬ (k = 7 ∨ k = 11) := by omega
  have h8 : ¬ (k = 8 ∨ k = 12 ∨ k = 24) := by omega
  have h9 : ¬ (k = 9 ∨ k = 13) := by omega
  have h16 : ¬ (k = 16 ∨ k = 17) := by omega
  have h18 : ¬ (k = 18 ∨ k = 19 ∨ k = 20) := by omega
  have h23 : k ≠ 23 := by omega
  have h25 : k ≠ 25 := by omega
  rintro ⟨_, _, h3⟩
  rw [if_neg this, if_neg h22, if_neg h5, if_neg h6, if_neg h7, if_neg h8, if_neg h9, if_neg h16, if_neg h18, if_neg h23, if_neg h25] at h3
  exact h3
theorem standsB_no1 {x : Ins} (h : bytesA x.op = 0) (ha : x.a ≠ 0) : standsB lits units i x = false := by
  rw [← Bool.not_eq_true, standsB_iff]; rintro ⟨h1, _⟩; exact ha (h1 h)
theorem standsB_no2 {x : Ins} (h : two x.op = false) (hb : x.b ≠ 0) : standsB lits units i x = false := by
  rw [← Bool.not_eq_true, standsB_iff]; rintro ⟨_, h1, _⟩; exact hb (h1 h)
end Pl
theorem within_q {n lo hi : Int} {v : Bool} (hv : Pl.inB n lo hi = v) (w : World) (k : Nat) : Calls Tryz.prog 57 #[.int .i64 n, .int .i64 lo, .int .i64 hi] (w.drewN k) fun e w' => e = .returned (.bool v) ∧ ∃ m, w' = w.drewN m :=
  (within_any n lo hi _).mono fun e w' ⟨he, hw⟩ => ⟨by rw [he, hv], k, hw.symm⟩
theorem in_q {n lo hi : Int} {v : Bool} (hv : Pl.inB n lo hi = v) (w : World) (k : Nat) : Calls Tryz.prog 66 #[.int .i64 n, .int .i64 lo, .int .i64 hi] (w.drewN k) fun e w' => e = .returned (.bool v) ∧ ∃ m, w' = w.drewN m :=
  (in_any n lo hi _).mono fun e w' ⟨he, hw⟩ => ⟨by rw [he, hv], k, hw.symm⟩
theorem drewN_below {B : Nat} {w W : World} (h : Below B w W) (n : Nat) : Below B w (W.drewN n) := h.trans ⟨rfl, rfl, rfl, Nat.le_refl _, fun _ _ => rfl⟩
end Go.Proofs.YtoklnpoacckbfaaGreatDoor
namespace Go.Proofs.YtoklnpoacckbfaaGreatDoor
open Go.RowKit
def untV (u : Pl.Unt) (v : Value) : Value := .agg #[.int .i64 u.args, .int .i64 u.copied, .int .i64 u.locals, .int .i64 u.stack, v]
set_option maxHeartbeats 400000 in
theorem frame_any (u : Pl.Unt) (hu : Pl.UntForm u) (v : Value) (w : World) : Calls Tryz.prog 64 #[untV u v] w fun e w' => e = .returned (.int .i64 (u.args + u.copied + u.locals)) ∧ Below w.heap.size w w' := by
  obtain ⟨a0, a1⟩ := hu.a
  obtain ⟨c0, c1⟩ := hu.c
  obtain ⟨l0, l1⟩ := hu.l
  unfold untV
  go_enter Tryz.func64, Tryz.ntmps64
  go_wp2_with fail
  go_ret
  exact ⟨rfl, (Below.refl _ _).alloc (Nat.le_refl _) _⟩
end Go.Proofs.YtoklnpoacckbfaaGreatDoor
