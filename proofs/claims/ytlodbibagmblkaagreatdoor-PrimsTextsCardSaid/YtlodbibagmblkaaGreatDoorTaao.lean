/- The table's orders: what they lay (printed by gen_ord2.py). What the table of floats holds: closures with what they captured. -/
import Derived.Test.YtlodbibagmblkaaGreatDoorTaan
import Derived.Laws.EntriesVeiled
namespace Go.Proofs.YtlodbibagmblkaaGreatDoor
open Go Go.RowKit Go.Lib
theorem grown_cell {w w' : World} {b p : Nat} {v : Value} (hg : w.grownBy w' (some b)) (hc : w.cell? ⟨p, 0, none⟩ = some v) (hp : p < w.heap.size) (hne : p ≠ b) : w'.cell? ⟨p, 0, none⟩ = some v := by
  rw [World.cell?_of_block (w := w) (hg.block p hp (by intro e; injection e with e; exact hne e))]; exact hc
theorem cell_one {W : World} {k : Nat} {v : Value} {T : TypeId} (h : W.heap[k]? = some (.cells #[v] T)) : W.cell? ⟨k, 0, none⟩ = some v := by simp [World.cell?, h]
/-- primitives of two that compare: what asks, what tells the values, what compares them lie in blocks -/
def OrdX (w : World) (b : Nat) (L : List (Int × Value)) (fr : Int) (s : ByteArray) (fc fg fb pb pg k : Nat) : Prop := w.cell? ⟨pb, 0, none⟩ = some (.func (.func fb) #[] #[]) ∧ w.cell? ⟨pg, 0, none⟩ = some (.func (.func fg) #[] #[]) ∧ pb < w.heap.size ∧ pg < w.heap.size ∧ pb ≠ b ∧ pg ≠ b ∧
  ∀ how : Nat, 3 ≤ how → how < k + 3 → ∃ p, lk L (fr + (how : Int)) = some (primv s (.func (.func fc) #[] #[.pointer (some ⟨pb, 0, none⟩), .pointer (some ⟨pg, 0, none⟩), .pointer (some ⟨p, 0, none⟩)])) ∧ w.cell? ⟨p, 0, none⟩ = some (.int .i64 (how : Int)) ∧ p < w.heap.size ∧ p ≠ b
theorem OrdX.kept {w w' : World} {b : Nat} {L : List (Int × Value)} {fr : Int} {s : ByteArray} {fc fg fb pb pg k : Nat} (h : OrdX w b L fr s fc fg fb pb pg k) (hg : w.grownBy w' (some b)) : OrdX w' b L fr s fc fg fb pb pg k := by
  obtain ⟨h1, h2, h3, h4, h5, h6, h7⟩ := h
  refine ⟨grown_cell hg h1 h3 h5, grown_cell hg h2 h4 h6, Nat.lt_of_lt_of_le h3 hg.size, Nat.lt_of_lt_of_le h4 hg.size, h5, h6, fun how e1 e2 => ?_⟩
  obtain ⟨p, p1, p2, p3, p4⟩ := h7 how e1 e2
  exact ⟨p, p1, grown_cell hg p2 p3 p4, Nat.lt_of_lt_of_le p3 hg.size, p4⟩
theorem OrdX.more {w : World} {b : Nat} {L : List (Int × Value)} {fr n : Int} {s : ByteArray} {fc fg fb pb pg k p : Nat} (h : OrdX w b L fr s fc fg fb pb pg k) (hn : n = fr + ((k : Int) + 3)) (hc : w.cell? ⟨p, 0, none⟩ = some (.int .i64 ((k : Int) + 3))) (hp : p < w.heap.size) (hpb : p ≠ b) :
    OrdX w b ((n, primv s (.func (.func fc) #[] #[.pointer (some ⟨pb, 0, none⟩), .pointer (some ⟨pg, 0, none⟩), .pointer (some ⟨p, 0, none⟩)])) :: L) fr s fc fg fb pb pg (k + 1) := by
  obtain ⟨h1, h2, h3, h4, h5, h6, h7⟩ := h
  refine ⟨h1, h2, h3, h4, h5, h6, fun how e1 e2 => ?_⟩
  by_cases e : how = k + 3
  · subst e
    exact ⟨p, by rw [hn, show ((k + 3 : Nat) : Int) = (k : Int) + 3 by omega]; simp [lk], by rw [show ((k + 3 : Nat) : Int) = (k : Int) + 3 by omega]; exact hc, hp, hpb⟩
  · obtain ⟨q, q1, q2⟩ := h7 how e1 (by omega)
    exact ⟨q, by rw [lk, if_neg (by show n ≠ _; omega)]; exact q1, q2⟩
def OrdAt (w : World) (L : List (Int × Value)) (fr : Int) (s : ByteArray) (fc fg fb : Nat) : Prop := ∃ pb pg, w.cell? ⟨pb, 0, none⟩ = some (.func (.func fb) #[] #[]) ∧ w.cell? ⟨pg, 0, none⟩ = some (.func (.func fg) #[] #[]) ∧ pb < w.heap.size ∧ pg < w.heap.size ∧
  ∀ how : Nat, 3 ≤ how → how < 9 → ∃ p, lk L (fr + (how : Int)) = some (primv s (.func (.func fc) #[] #[.pointer (some ⟨pb, 0, none⟩), .pointer (some ⟨pg, 0, none⟩), .pointer (some ⟨p, 0, none⟩)])) ∧ w.cell? ⟨p, 0, none⟩ = some (.int .i64 (how : Int)) ∧ p < w.heap.size
theorem OrdX.at {w : World} {b : Nat} {L L' : List (Int × Value)} {fr : Int} {s : ByteArray} {fc fg fb pb pg : Nat} (h : OrdX w b L fr s fc fg fb pb pg 6) (hl : ∀ (n : Int) v, fr + 3 ≤ n → n ≤ fr + 8 → lk L n = some v → lk L' n = some v) : OrdAt w L' fr s fc fg fb := by
  obtain ⟨h1, h2, h3, h4, h5, h6, h7⟩ := h
  refine ⟨pb, pg, h1, h2, h3, h4, fun how e1 e2 => ?_⟩
  obtain ⟨p, p1, p2, p3, _⟩ := h7 how e1 e2
  exact ⟨p, hl _ _ (by omega) (by omega) p1, p2, p3⟩
set_option maxRecDepth 4000 in
set_option maxHeartbeats 4000000 in
theorem ordersLarge_any (fr : Int) (s : ByteArray) (fg fb b : Nat) (L : List (Int × Value)) (w : World) (h : MapAt w b L) (hL : L.length ≤ 500) (hf : -1000 ≤ fr ∧ fr ≤ 1000) :
    Calls Tryz.prog 40 #[.map (some b), .int .i64 fr, .string s, .func (.func fg) #[] #[], .func (.func fb) #[] #[]] w fun e w' => e = .returned (.tuple #[]) ∧ ∃ L1, MapAt w' b (L1 ++ L) ∧ (∀ x ∈ L1, fr + 3 ≤ x.1 ∧ x.1 ≤ fr + 8) ∧ L1.length ≤ 6 ∧ w.grownBy w' (some b) ∧ ∃ pb pg, OrdX w' b L1 fr s 76 fg fb pb pg 6 := by
  have hbl := h.lt
  obtain ⟨W3, hW3⟩ : ∃ W3, (((w.alloc (.cells #[.func (.func fg) #[] #[]] 69)).alloc (.cells #[.func (.func fb) #[] #[]] 72)).alloc (.cells #[.int .i64 3] 3)) = W3 := ⟨_, rfl⟩
  have hs3 : W3.heap.size = w.heap.size + 3 := by rw [← hW3]; simp
  have hg3 : w.grownBy W3 (some b) := by
    rw [← hW3]
    exact ((World.grownBy_alloc w _ _).andThen (World.grownBy_alloc _ _ _) (fun _ e => .inr e)).andThen (World.grownBy_alloc _ _ _) (fun _ e => .inr e)
  have hc3 : W3.cell? ⟨w.heap.size + 2, 0, none⟩ = some (.int .i64 3) := by
    have q := heap_alloc_at ((w.alloc (.cells #[.func (.func fg) #[] #[]] 69)).alloc (.cells #[.func (.func fb) #[] #[]] 72)) (.cells #[.int .i64 3] 3)
    rw [hW3] at q
    have e : ((w.alloc (.cells #[.func (.func fg) #[] #[]] 69)).alloc (.cells #[.func (.func fb) #[] #[]] 72)).heap.size = w.heap.size + 2 := by simp
    rw [e] at q
    simp [World.cell?, q]
  have hm3 : MapAt W3 b L := by
    have q : w.grownBy W3 none := by
      rw [← hW3]
      exact ((World.grownBy_alloc w _ none).andThen (World.grownBy_alloc _ _ none) (fun _ e => .inr e)).andThen (World.grownBy_alloc _ _ none) (fun _ e => .inr e)
    exact h.kept q (by simp)
  have HO : Hid (OrdX W3 b [] fr s 76 fg fb (w.heap.size + 1) w.heap.size 0) := Lib.hid (by
    have q0 := heap_alloc_at w (.cells #[.func (.func fg) #[] #[]] 69)
    have q1 := heap_alloc_at (w.alloc (.cells #[.func (.func fg) #[] #[]] 69)) (.cells #[.func (.func fb) #[] #[]] 72)
    have hbl1 := (Below.refl (w.heap.size + 2) ((w.alloc (.cells #[.func (.func fg) #[] #[]] 69)).alloc (.cells #[.func (.func fb) #[] #[]] 72))).alloc (by simp) (.cells #[.int .i64 3] 3)
    have hbl0 := (Below.refl (w.heap.size + 1) (w.alloc (.cells #[.func (.func fg) #[] #[]] 69))).alloc (by simp) (.cells #[.func (.func fb) #[] #[]] 72)
    rw [hW3] at hbl1
    have e : (w.alloc (.cells #[.func (.func fg) #[] #[]] 69)).heap.size = w.heap.size + 1 := by simp
    rw [e] at q1
    refine ⟨?_, ?_, by omega, by omega, by omega, by omega, fun how e1 e2 => by omega⟩
    · rw [hbl1.cell (p := ⟨w.heap.size + 1, 0, none⟩) (by show w.heap.size + 1 < _; omega)]
      exact cell_one q1
    · rw [hbl1.cell (p := ⟨w.heap.size, 0, none⟩) (by show w.heap.size < _; omega), hbl0.cell (p := ⟨w.heap.size, 0, none⟩) (by show w.heap.size < _; omega)]
      exact cell_one q0)
  have HM := Lib.hid hm3
  have HG := Lib.hid hg3
  have HC := Lib.hid hc3
  have HS := Lib.hid hs3
  clear h hm3 hg3 hc3 hs3
  go_enter Tryz.func40, Tryz.ntmps40
  go_wp2_with fail
  go_loopw [10] (fun q wr => ∃ (k p : Nat) (L1 : List (Int × Value)), k ≤ 6 ∧ q = .pointer (some ⟨p, 0, none⟩) ∧ wr.cell? ⟨p, 0, none⟩ = some (.int .i64 ((k : Int) + 3)) ∧ w.heap.size ≤ p ∧ p < wr.heap.size ∧ MapAt wr b (L1 ++ L) ∧ L1.length = k ∧ Hid (∀ x ∈ L1, fr + 3 ≤ x.1 ∧ x.1 ≤ fr + 8) ∧ w.grownBy wr (some b) ∧ Hid (OrdX wr b L1 fr s 76 fg fb (w.heap.size + 1) w.heap.size k)) (fun q wr => match q with | .pointer (some a) => (match wr.cell? a with | some v => (9 - RowKit.intOf v).toNat | none => 0) | _ => 0)
  case atStart => exact ⟨0, w.heap.size + 2, [], by omega, rfl, HC.out, by omega, by rw [HS.out]; omega, HM.out, rfl, Lib.hid (by simp), HG.out, HO⟩
  case round =>
    obtain ⟨k, p, L1, hk, rfl, hc, hpw, hps, hm, hl, hkeys, hg, hox⟩ := hrel
    have hbp : p ≠ b := by omega
    have HG2 := Lib.hid hg
    by_cases hlt : k < 6
    · have hd : decide ((k : Int) + 3 ≤ 8) = true := decide_eq_true (by omega)
      clear hg
      go_wp2_with (at_mapUpdate; refine wpList_put _ rfl (.tmp 15) (.tmp 18) (.tmp 21) 50 48 (.inl rfl) Tryz.underlying50 b _ rfl hm (by rw [List.length_append]; omega) (fr + ((k : Int) + 3)) (primv s (.func (.func 76) #[] #[.pointer (some ⟨w.heap.size + 1, 0, none⟩), .pointer (some ⟨w.heap.size, 0, none⟩), .pointer (some ⟨p, 0, none⟩)])) rfl rfl (by omega) ?_)
      intro w2 hm2 hg2
      have hc2 := grown_cell hg2 hc hps hbp
      have hs2 := hg2.size
      have HX2 := Lib.hid (((hox.out.kept hg2).more rfl hc2 (by omega) hbp).kept (World.grownBy_alloc w2 (.cells #[.int .i64 ((k : Int) + 3 + 1)] 3) _))
      have HG3 := Lib.hid ((HG2.out.andThen hg2 (fun _ e => .inr e)).andThen (World.grownBy_alloc w2 (.cells #[.int .i64 ((k : Int) + 3 + 1)] 3) _) (fun _ e => .inr e))
      have HM3 := Lib.hid (hm2.kept (World.grownBy_alloc w2 (.cells #[.int .i64 ((k : Int) + 3 + 1)] 3) none) (by simp))
      clear hm2 hg2 hm
      go_wp2_with fail
      go_roundw
      case rel =>
        refine ⟨k + 1, w2.heap.size, _ :: L1, by omega, rfl, ?_, by omega, by simp, HM3.out, by simp [hl], Lib.hid ?_, HG3.out, HX2⟩
        · rw [show ((k + 1 : Nat) : Int) + 3 = (k : Int) + 3 + 1 by omega]; simp
        · intro x hx
          rcases List.mem_cons.1 hx with rfl | hx
          · exact ⟨by show fr + 3 ≤ fr + _; omega, by show fr + _ ≤ fr + 8; omega⟩
          · exact hkeys.out x hx
      case measure =>
        simp [RowKit.intOf, hc]
        omega
    · obtain rfl : k = 6 := by omega
      clear hg
      go_wp2_with fail
      go_end0
      exact ⟨rfl, L1, hm, hkeys.out, by omega, HG2.out, _, _, hox.out⟩
set_option maxRecDepth 4000 in
set_option maxHeartbeats 4000000 in
theorem ordersU_any (fr : Int) (s : ByteArray) (fg fb b : Nat) (L : List (Int × Value)) (w : World) (h : MapAt w b L) (hL : L.length ≤ 500) (hf : -1000 ≤ fr ∧ fr ≤ 1000) :
    Calls Tryz.prog 44 #[.map (some b), .int .i64 fr, .string s, .func (.func fg) #[] #[], .func (.func fb) #[] #[]] w fun e w' => e = .returned (.tuple #[]) ∧ ∃ L1, MapAt w' b (L1 ++ L) ∧ (∀ x ∈ L1, fr + 3 ≤ x.1 ∧ x.1 ≤ fr + 8) ∧ L1.length ≤ 6 ∧ w.grownBy w' (some b) ∧ ∃ pb pg, OrdX w' b L1 fr s 80 fg fb pb pg 6 := by
  have hbl := h.lt
  obtain ⟨W3, hW3⟩ : ∃ W3, (((w.alloc (.cells #[.func (.func fg) #[] #[]] 74)).alloc (.cells #[.func (.func fb) #[] #[]] 75)).alloc (.cells #[.int .i64 3] 3)) = W3 := ⟨_, rfl⟩
  have hs3 : W3.heap.size = w.heap.size + 3 := by rw [← hW3]; simp
  have hg3 : w.grownBy W3 (some b) := by
    rw [← hW3]
    exact ((World.grownBy_alloc w _ _).andThen (World.grownBy_alloc _ _ _) (fun _ e => .inr e)).andThen (World.grownBy_alloc _ _ _) (fun _ e => .inr e)
  have hc3 : W3.cell? ⟨w.heap.size + 2, 0, none⟩ = some (.int .i64 3) := by
    have q := heap_alloc_at ((w.alloc (.cells #[.func (.func fg) #[] #[]] 74)).alloc (.cells #[.func (.func fb) #[] #[]] 75)) (.cells #[.int .i64 3] 3)
    rw [hW3] at q
    have e : ((w.alloc (.cells #[.func (.func fg) #[] #[]] 74)).alloc (.cells #[.func (.func fb) #[] #[]] 75)).heap.size = w.heap.size + 2 := by simp
    rw [e] at q
    simp [World.cell?, q]
  have hm3 : MapAt W3 b L := by
    have q : w.grownBy W3 none := by
      rw [← hW3]
      exact ((World.grownBy_alloc w _ none).andThen (World.grownBy_alloc _ _ none) (fun _ e => .inr e)).andThen (World.grownBy_alloc _ _ none) (fun _ e => .inr e)
    exact h.kept q (by simp)
  have HO : Hid (OrdX W3 b [] fr s 80 fg fb (w.heap.size + 1) w.heap.size 0) := Lib.hid (by
    have q0 := heap_alloc_at w (.cells #[.func (.func fg) #[] #[]] 74)
    have q1 := heap_alloc_at (w.alloc (.cells #[.func (.func fg) #[] #[]] 74)) (.cells #[.func (.func fb) #[] #[]] 75)
    have hbl1 := (Below.refl (w.heap.size + 2) ((w.alloc (.cells #[.func (.func fg) #[] #[]] 74)).alloc (.cells #[.func (.func fb) #[] #[]] 75))).alloc (by simp) (.cells #[.int .i64 3] 3)
    have hbl0 := (Below.refl (w.heap.size + 1) (w.alloc (.cells #[.func (.func fg) #[] #[]] 74))).alloc (by simp) (.cells #[.func (.func fb) #[] #[]] 75)
    rw [hW3] at hbl1
    have e : (w.alloc (.cells #[.func (.func fg) #[] #[]] 74)).heap.size = w.heap.size + 1 := by simp
    rw [e] at q1
    refine ⟨?_, ?_, by omega, by omega, by omega, by omega, fun how e1 e2 => by omega⟩
    · rw [hbl1.cell (p := ⟨w.heap.size + 1, 0, none⟩) (by show w.heap.size + 1 < _; omega)]
      exact cell_one q1
    · rw [hbl1.cell (p := ⟨w.heap.size, 0, none⟩) (by show w.heap.size < _; omega), hbl0.cell (p := ⟨w.heap.size, 0, none⟩) (by show w.heap.size < _; omega)]
      exact cell_one q0)
  have HM := Lib.hid hm3
  have HG := Lib.hid hg3
  have HC := Lib.hid hc3
  have HS := Lib.hid hs3
  clear h hm3 hg3 hc3 hs3
  go_enter Tryz.func44, Tryz.ntmps44
  go_wp2_with fail
  go_loopw [10] (fun q wr => ∃ (k p : Nat) (L1 : List (Int × Value)), k ≤ 6 ∧ q = .pointer (some ⟨p, 0, none⟩) ∧ wr.cell? ⟨p, 0, none⟩ = some (.int .i64 ((k : Int) + 3)) ∧ w.heap.size ≤ p ∧ p < wr.heap.size ∧ MapAt wr b (L1 ++ L) ∧ L1.length = k ∧ Hid (∀ x ∈ L1, fr + 3 ≤ x.1 ∧ x.1 ≤ fr + 8) ∧ w.grownBy wr (some b) ∧ Hid (OrdX wr b L1 fr s 80 fg fb (w.heap.size + 1) w.heap.size k)) (fun q wr => match q with | .pointer (some a) => (match wr.cell? a with | some v => (9 - RowKit.intOf v).toNat | none => 0) | _ => 0)
  case atStart => exact ⟨0, w.heap.size + 2, [], by omega, rfl, HC.out, by omega, by rw [HS.out]; omega, HM.out, rfl, Lib.hid (by simp), HG.out, HO⟩
  case round =>
    obtain ⟨k, p, L1, hk, rfl, hc, hpw, hps, hm, hl, hkeys, hg, hox⟩ := hrel
    have hbp : p ≠ b := by omega
    have HG2 := Lib.hid hg
    by_cases hlt : k < 6
    · have hd : decide ((k : Int) + 3 ≤ 8) = true := decide_eq_true (by omega)
      clear hg
      go_wp2_with (at_mapUpdate; refine wpList_put _ rfl (.tmp 15) (.tmp 18) (.tmp 21) 50 48 (.inl rfl) Tryz.underlying50 b _ rfl hm (by rw [List.length_append]; omega) (fr + ((k : Int) + 3)) (primv s (.func (.func 80) #[] #[.pointer (some ⟨w.heap.size + 1, 0, none⟩), .pointer (some ⟨w.heap.size, 0, none⟩), .pointer (some ⟨p, 0, none⟩)])) rfl rfl (by omega) ?_)
      intro w2 hm2 hg2
      have hc2 := grown_cell hg2 hc hps hbp
      have hs2 := hg2.size
      have HX2 := Lib.hid (((hox.out.kept hg2).more rfl hc2 (by omega) hbp).kept (World.grownBy_alloc w2 (.cells #[.int .i64 ((k : Int) + 3 + 1)] 3) _))
      have HG3 := Lib.hid ((HG2.out.andThen hg2 (fun _ e => .inr e)).andThen (World.grownBy_alloc w2 (.cells #[.int .i64 ((k : Int) + 3 + 1)] 3) _) (fun _ e => .inr e))
      have HM3 := Lib.hid (hm2.kept (World.grownBy_alloc w2 (.cells #[.int .i64 ((k : Int) + 3 + 1)] 3) none) (by simp))
      clear hm2 hg2 hm
      go_wp2_with fail
      go_roundw
      case rel =>
        refine ⟨k + 1, w2.heap.size, _ :: L1, by omega, rfl, ?_, by omega, by simp, HM3.out, by simp [hl], Lib.hid ?_, HG3.out, HX2⟩
        · rw [show ((k + 1 : Nat) : Int) + 3 = (k : Int) + 3 + 1 by omega]; simp
        · intro x hx
          rcases List.mem_cons.1 hx with rfl | hx
          · exact ⟨by show fr + 3 ≤ fr + _; omega, by show fr + _ ≤ fr + 8; omega⟩
          · exact hkeys.out x hx
      case measure =>
        simp [RowKit.intOf, hc]
        omega
    · obtain rfl : k = 6 := by omega
      clear hg
      go_wp2_with fail
      go_end0
      exact ⟨rfl, L1, hm, hkeys.out, by omega, HG2.out, _, _, hox.out⟩
end Go.Proofs.YtlodbibagmblkaaGreatDoor
namespace Go.Proofs.YtlodbibagmblkaaGreatDoor
open Go Go.RowKit Go.Lib
theorem lk_append (A B : List (Int × Value)) (k : Int) : lk (A ++ B) k = match lk A k with | some v => some v | none => lk B k := by
  induction A with
  | nil => rfl
  | cons p A ih =>
    rw [List.cons_append, lk, lk]
    split
    · rfl
    · exact ih
theorem lk_none {A : List (Int × Value)} {k : Int} (h : ∀ x ∈ A, x.1 ≠ k) : lk A k = none := by
  induction A with
  | nil => rfl
  | cons p A ih =>
    rw [lk, if_neg (h p (by simp))]
    exact ih (fun x hx => h x (List.mem_cons_of_mem _ hx))
theorem lk_skip {A B : List (Int × Value)} {k : Int} (h : ∀ x ∈ A, x.1 ≠ k) : lk (A ++ B) k = lk B k := by rw [lk_append, lk_none h]
theorem lk_hit (k : Int) (v : Value) (L : List (Int × Value)) : lk ((k, v) :: L) k = some v := by simp [lk]
theorem lk_miss {j k : Int} (v : Value) (L : List (Int × Value)) (h : j ≠ k) : lk ((j, v) :: L) k = lk L k := by rw [lk, if_neg h]
/-- a closure of two floats: its number and its function lie behind block R, and are not block b -/
def F2 (R : Nat) (w : World) (b : Nat) (L : List (Int × Value)) (k : Int) (v : Value) : Prop := ∃ pk pf, lk L k = some (primv ⟨#[70, 70]⟩ (.func (.func 96) #[] #[.pointer (some ⟨pk, 0, none⟩), .pointer (some ⟨pf, 0, none⟩)])) ∧
  w.cell? ⟨pk, 0, none⟩ = some (.int .i64 k) ∧ w.cell? ⟨pf, 0, none⟩ = some v ∧ pk < w.heap.size ∧ pf < w.heap.size ∧ pk ≠ b ∧ pf ≠ b ∧ R < pk ∧ R < pf
def F1 (R : Nat) (w : World) (b : Nat) (L : List (Int × Value)) (k : Int) (v : Value) : Prop := ∃ pf, lk L k = some (primv ⟨#[70]⟩ (.func (.func 100) #[] #[.pointer (some ⟨pf, 0, none⟩)])) ∧
  w.cell? ⟨pf, 0, none⟩ = some v ∧ pf < w.heap.size ∧ pf ≠ b ∧ R < pf
theorem F2.kept {R b q : Nat} {w w' : World} {L : List (Int × Value)} {k : Int} {v : Value} (h : F2 R w b L k v) (hg : w.grownBy w' (some q)) (hq : q = b ∨ q ≤ R ∨ w.heap.size ≤ q) : F2 R w' b L k v := by
  obtain ⟨pk, pf, h1, h2, h3, h4, h5, h6, h7, h8, h9⟩ := h
  have hs := hg.size
  exact ⟨pk, pf, h1, grown_cell hg h2 h4 (by omega), grown_cell hg h3 h5 (by omega), by omega, by omega, h6, h7, h8, h9⟩
theorem F1.kept {R b q : Nat} {w w' : World} {L : List (Int × Value)} {k : Int} {v : Value} (h : F1 R w b L k v) (hg : w.grownBy w' (some q)) (hq : q = b ∨ q ≤ R ∨ w.heap.size ≤ q) : F1 R w' b L k v := by
  obtain ⟨pf, h1, h3, h5, h7, h9⟩ := h
  have hs := hg.size
  exact ⟨pf, h1, grown_cell hg h3 h5 (by omega), by omega, h7, h9⟩
theorem F2.cons {R b : Nat} {w : World} {L : List (Int × Value)} {k j : Int} {v u : Value} (h : F2 R w b L k v) (hne : j ≠ k) : F2 R w b ((j, u) :: L) k v := by
  obtain ⟨pk, pf, h1, r⟩ := h
  exact ⟨pk, pf, by unfold lk; rw [if_neg hne]; exact h1, r⟩
theorem F1.cons {R b : Nat} {w : World} {L : List (Int × Value)} {k j : Int} {v u : Value} (h : F1 R w b L k v) (hne : j ≠ k) : F1 R w b ((j, u) :: L) k v := by
  obtain ⟨pf, h1, r⟩ := h
  exact ⟨pf, by unfold lk; rw [if_neg hne]; exact h1, r⟩
/-- a range that begins has all keys before it -/
theorem has_puts {L : List (Int × Value)} {k : Int} {v : Value} (h : lk L k = some v) : Maps.has (puts L) (.int .i64 k) = true :=
  Maps.has_true_of_atKey (y := .held v) (fun z => by rw [puts_at, h])
/-- a key that was not drawn is still to come -/
theorem left_other {left : Lit → Bool} {k x : Int} (h : left (.int .i64 k) = true) (hne : k ≠ x) : (left (.int .i64 k) && !(Lit.int .i64 k).sameKey (.int .i64 x)) = true := by
  rw [h, Bool.true_and]
  show (!decide (IntKind.i64 = IntKind.i64 ∧ k = x)) = true
  rw [decide_eq_false (fun e => hne e.2)]
  rfl
theorem keyOf_is {x : Int} {kl : Lit} (hk : keyOf Tryz.prog 3 (.int .i64 x) = some kl) : kl = .int .i64 x := by
  obtain ⟨x', e, h, _⟩ := Maps.keyOf_int_inv Tryz.underlying3 hk
  clear hk
  rw [h]
  have e2 : x = x' := (Value.int.inj e).2
  rw [e2]
/-- a closure in a table: the cells that it captured -/
def E2 (w : World) (L : List (Int × Value)) (k : Int) (f : Nat) : Prop := ∃ pk pf, lk L k = some (primv ⟨#[70, 70]⟩ (.func (.func 96) #[] #[.pointer (some ⟨pk, 0, none⟩), .pointer (some ⟨pf, 0, none⟩)])) ∧
  w.cell? ⟨pk, 0, none⟩ = some (.int .i64 k) ∧ w.cell? ⟨pf, 0, none⟩ = some (.func (.func f) #[] #[]) ∧ pk < w.heap.size ∧ pf < w.heap.size
def E1 (w : World) (L : List (Int × Value)) (k : Int) (f : Nat) : Prop := ∃ pf, lk L k = some (primv ⟨#[70]⟩ (.func (.func 100) #[] #[.pointer (some ⟨pf, 0, none⟩)])) ∧
  w.cell? ⟨pf, 0, none⟩ = some (.func (.func f) #[] #[]) ∧ pf < w.heap.size
theorem F2.e {R b f : Nat} {w : World} {L : List (Int × Value)} {k : Int} (h : F2 R w b L k (.func (.func f) #[] #[])) : E2 w L k f := by
  obtain ⟨pk, pf, h1, h2, h3, h4, h5, _⟩ := h
  exact ⟨pk, pf, h1, h2, h3, h4, h5⟩
theorem F1.e {R b f : Nat} {w : World} {L : List (Int × Value)} {k : Int} (h : F1 R w b L k (.func (.func f) #[] #[])) : E1 w L k f := by
  obtain ⟨pf, h1, h2, h3, _⟩ := h
  exact ⟨pf, h1, h2, h3⟩
theorem E2.below {w w' : World} {L : List (Int × Value)} {k : Int} {f : Nat} (h : E2 w L k f) (hb : Below w.heap.size w w') : E2 w' L k f := by
  obtain ⟨pk, pf, h1, h2, h3, h4, h5⟩ := h
  exact ⟨pk, pf, h1, by rw [hb.cell (p := ⟨pk, 0, none⟩) h4]; exact h2, by rw [hb.cell (p := ⟨pf, 0, none⟩) h5]; exact h3, Nat.lt_of_lt_of_le h4 hb.size, Nat.lt_of_lt_of_le h5 hb.size⟩
theorem E1.below {w w' : World} {L : List (Int × Value)} {k : Int} {f : Nat} (h : E1 w L k f) (hb : Below w.heap.size w w') : E1 w' L k f := by
  obtain ⟨pf, h1, h3, h5⟩ := h
  exact ⟨pf, h1, by rw [hb.cell (p := ⟨pf, 0, none⟩) h5]; exact h3, Nat.lt_of_lt_of_le h5 hb.size⟩
/-- the same list of entries, in a longer list -/
theorem E2.sub {w : World} {L L' : List (Int × Value)} {k : Int} {f : Nat} (h : E2 w L k f) (hl : ∀ v, lk L k = some v → lk L' k = some v) : E2 w L' k f := by
  obtain ⟨pk, pf, h1, r⟩ := h
  exact ⟨pk, pf, hl _ h1, r⟩
theorem E1.sub {w : World} {L L' : List (Int × Value)} {k : Int} {f : Nat} (h : E1 w L k f) (hl : ∀ v, lk L k = some v → lk L' k = some v) : E1 w L' k f := by
  obtain ⟨pf, h1, r⟩ := h
  exact ⟨pf, hl _ h1, r⟩
/-- the table's floats -/
structure FltAt (w : World) (L : List (Int × Value)) : Prop where
  f41 : E2 w L 41 92
  f42 : E2 w L 42 93
  f49 : E2 w L 49 94
  f50 : E2 w L 50 95
  f52 : E1 w L 52 97
  f55 : E1 w L 55 98
  f57 : E1 w L 57 99
  f51 : lk L 51 = some (primv ⟨#[70]⟩ (.func (.func 101) #[] #[]))
  f53 : lk L 53 = some (primv ⟨#[70]⟩ (.func (.func 103) #[] #[]))
  f54 : lk L 54 = some (primv ⟨#[70, 76]⟩ (.func (.func 105) #[] #[]))
  f56 : lk L 56 = some (primv ⟨#[70]⟩ (.func (.func 107) #[] #[]))
/-- the same, while the table is laid -/
structure FltB (w : World) (b : Nat) (L : List (Int × Value)) : Prop where
  f41 : ∃ R, F2 R w b L 41 (.func (.func 92) #[] #[])
  f42 : ∃ R, F2 R w b L 42 (.func (.func 93) #[] #[])
  f49 : ∃ R, F2 R w b L 49 (.func (.func 94) #[] #[])
  f50 : ∃ R, F2 R w b L 50 (.func (.func 95) #[] #[])
  f52 : ∃ R, F1 R w b L 52 (.func (.func 97) #[] #[])
  f55 : ∃ R, F1 R w b L 55 (.func (.func 98) #[] #[])
  f57 : ∃ R, F1 R w b L 57 (.func (.func 99) #[] #[])
  f51 : lk L 51 = some (primv ⟨#[70]⟩ (.func (.func 101) #[] #[]))
  f53 : lk L 53 = some (primv ⟨#[70]⟩ (.func (.func 103) #[] #[]))
  f54 : lk L 54 = some (primv ⟨#[70, 76]⟩ (.func (.func 105) #[] #[]))
  f56 : lk L 56 = some (primv ⟨#[70]⟩ (.func (.func 107) #[] #[]))
theorem FltB.kept {w w' : World} {b : Nat} {L : List (Int × Value)} (h : FltB w b L) (hg : w.grownBy w' (some b)) : FltB w' b L := by
  obtain ⟨⟨_, h41⟩, ⟨_, h42⟩, ⟨_, h49⟩, ⟨_, h50⟩, ⟨_, h52⟩, ⟨_, h55⟩, ⟨_, h57⟩, h51, h53, h54, h56⟩ := h
  exact ⟨⟨_, h41.kept hg (.inl rfl)⟩, ⟨_, h42.kept hg (.inl rfl)⟩, ⟨_, h49.kept hg (.inl rfl)⟩, ⟨_, h50.kept hg (.inl rfl)⟩, ⟨_, h52.kept hg (.inl rfl)⟩, ⟨_, h55.kept hg (.inl rfl)⟩, ⟨_, h57.kept hg (.inl rfl)⟩, h51, h53, h54, h56⟩
theorem FltB.at {w : World} {b : Nat} {L : List (Int × Value)} (h : FltB w b L) : FltAt w L := by
  obtain ⟨⟨_, h41⟩, ⟨_, h42⟩, ⟨_, h49⟩, ⟨_, h50⟩, ⟨_, h52⟩, ⟨_, h55⟩, ⟨_, h57⟩, h51, h53, h54, h56⟩ := h
  exact ⟨h41.e, h42.e, h49.e, h50.e, h52.e, h55.e, h57.e, h51, h53, h54, h56⟩
theorem FltAt.below {w w' : World} {L : List (Int × Value)} (h : FltAt w L) (hb : Below w.heap.size w w') : FltAt w' L :=
  ⟨h.f41.below hb, h.f42.below hb, h.f49.below hb, h.f50.below hb, h.f52.below hb, h.f55.below hb, h.f57.below hb, h.f51, h.f53, h.f54, h.f56⟩
theorem FltAt.sub {w : World} {L L' : List (Int × Value)} (h : FltAt w L) (hl : ∀ k v, 41 ≤ k → k ≤ 57 → lk L k = some v → lk L' k = some v) : FltAt w L' :=
  ⟨h.f41.sub (fun v => hl _ v (by decide) (by decide)), h.f42.sub (fun v => hl _ v (by decide) (by decide)), h.f49.sub (fun v => hl _ v (by decide) (by decide)), h.f50.sub (fun v => hl _ v (by decide) (by decide)), h.f52.sub (fun v => hl _ v (by decide) (by decide)), h.f55.sub (fun v => hl _ v (by decide) (by decide)), h.f57.sub (fun v => hl _ v (by decide) (by decide)), hl _ _ (by decide) (by decide) h.f51, hl _ _ (by decide) (by decide) h.f53, hl _ _ (by decide) (by decide) h.f54, hl _ _ (by decide) (by decide) h.f56⟩
end Go.Proofs.YtlodbibagmblkaaGreatDoor
