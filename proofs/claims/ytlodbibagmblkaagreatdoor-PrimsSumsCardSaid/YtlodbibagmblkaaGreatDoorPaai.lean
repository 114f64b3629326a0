/- The table of strings, symbols and characters: the contract of texts. The table's integers: what lays a primitive of two integers; the orders. The table's orders: what they lay (printed by gen_ord2.py). The table of floats: the contract of floats (which keys it lays; printed by gen_flt2.py). -/
import Derived.Test.YtlodbibagmblkaaGreatDoorPaah
import Derived.Laws.EntriesVeiled
namespace Go.Proofs.YtlodbibagmblkaaGreatDoor
open Go Go.RowKit Go.Lib
/-- a primitive -/
def primv (s : ByteArray) (f : Value) : Value := .agg #[.string s, f]
def textsL : List (Int × Value) := [(84, primv ⟨#[67]⟩ (.func (.func 129) #[] #[])), (83, primv ⟨#[67, 67]⟩ (.func (.func 128) #[] #[])), (82, primv ⟨#[76]⟩ (.func (.func 127) #[] #[])), (81, primv ⟨#[67]⟩ (.func (.func 126) #[] #[])), (72, primv ⟨#[83]⟩ (.func (.func 124) #[] #[])), (71, primv ⟨#[83]⟩ (.func (.func 122) #[] #[])), (70, primv ⟨#[83]⟩ (.func (.func 120) #[] #[])), (69, primv ⟨#[83, 67]⟩ (.func (.func 118) #[] #[])), (68, primv ⟨#[83, 76, 76]⟩ (.func (.func 117) #[] #[])), (67, primv ⟨#[89]⟩ (.func (.func 116) #[] #[])), (66, primv ⟨#[83]⟩ (.func (.func 115) #[] #[])), (65, primv ⟨#[83, 83]⟩ (.func (.func 113) #[] #[])), (64, primv ⟨#[83, 83]⟩ (.func (.func 112) #[] #[])), (63, primv ⟨#[83, 83]⟩ (.func (.func 111) #[] #[])), (62, primv ⟨#[83]⟩ (.func (.func 110) #[] #[])), (61, primv ⟨#[83, 76]⟩ (.func (.func 109) #[] #[]))]
set_option maxRecDepth 4000 in
set_option maxHeartbeats 4000000 in
theorem texts_any (b : Nat) (L : List (Int × Value)) (w : World) (h : MapAt w b L) (hL : L.length ≤ 500) :
    Calls Tryz.prog 56 #[.map (some b)] w fun e w' => e = .returned (.tuple #[]) ∧ MapAt w' b (textsL ++ L) ∧ w.grownBy w' (some b) := by
  have hm0 := h
  have hg0 := World.grownBy.refl w (some b)
  clear h
  go_enter Tryz.func56, Tryz.ntmps56
  go_wp2_with (at_mapUpdate; refine wpList_put _ rfl (.tmp 2) (.const (.int .i64 61)) (.tmp 3) 50 48 (.inl rfl) Tryz.underlying50 b _ rfl hm0 (by first | omega | (simp only [List.length_cons]; omega)) 61 (primv ⟨#[83, 76]⟩ (.func (.func 109) #[] #[])) rfl rfl (by omega) ?_)
  intro w1 hm1 hgg
  have hg1 := hg0.andThen hgg (fun _ e => .inr e)
  clear hgg hm0 hg0
  go_wp2_with (at_mapUpdate; refine wpList_put _ rfl (.tmp 4) (.const (.int .i64 62)) (.tmp 5) 50 48 (.inl rfl) Tryz.underlying50 b _ rfl hm1 (by first | omega | (simp only [List.length_cons]; omega)) 62 (primv ⟨#[83]⟩ (.func (.func 110) #[] #[])) rfl rfl (by omega) ?_)
  intro w2 hm2 hgg
  have hg2 := hg1.andThen hgg (fun _ e => .inr e)
  clear hgg hm1 hg1
  go_wp2_with (at_mapUpdate; refine wpList_put _ rfl (.tmp 6) (.const (.int .i64 63)) (.tmp 7) 50 48 (.inl rfl) Tryz.underlying50 b _ rfl hm2 (by first | omega | (simp only [List.length_cons]; omega)) 63 (primv ⟨#[83, 83]⟩ (.func (.func 111) #[] #[])) rfl rfl (by omega) ?_)
  intro w3 hm3 hgg
  have hg3 := hg2.andThen hgg (fun _ e => .inr e)
  clear hgg hm2 hg2
  go_wp2_with (at_mapUpdate; refine wpList_put _ rfl (.tmp 8) (.const (.int .i64 64)) (.tmp 9) 50 48 (.inl rfl) Tryz.underlying50 b _ rfl hm3 (by first | omega | (simp only [List.length_cons]; omega)) 64 (primv ⟨#[83, 83]⟩ (.func (.func 112) #[] #[])) rfl rfl (by omega) ?_)
  intro w4 hm4 hgg
  have hg4 := hg3.andThen hgg (fun _ e => .inr e)
  clear hgg hm3 hg3
  go_wp2_with (at_mapUpdate; refine wpList_put _ rfl (.tmp 10) (.const (.int .i64 65)) (.tmp 11) 50 48 (.inl rfl) Tryz.underlying50 b _ rfl hm4 (by first | omega | (simp only [List.length_cons]; omega)) 65 (primv ⟨#[83, 83]⟩ (.func (.func 113) #[] #[])) rfl rfl (by omega) ?_)
  intro w5 hm5 hgg
  have hg5 := hg4.andThen hgg (fun _ e => .inr e)
  clear hgg hm4 hg4
  go_wp2_with (at_mapUpdate; refine wpList_put _ rfl (.tmp 12) (.const (.int .i64 66)) (.tmp 13) 50 48 (.inl rfl) Tryz.underlying50 b _ rfl hm5 (by first | omega | (simp only [List.length_cons]; omega)) 66 (primv ⟨#[83]⟩ (.func (.func 115) #[] #[])) rfl rfl (by omega) ?_)
  intro w6 hm6 hgg
  have hg6 := hg5.andThen hgg (fun _ e => .inr e)
  clear hgg hm5 hg5
  go_wp2_with (at_mapUpdate; refine wpList_put _ rfl (.tmp 14) (.const (.int .i64 67)) (.tmp 15) 50 48 (.inl rfl) Tryz.underlying50 b _ rfl hm6 (by first | omega | (simp only [List.length_cons]; omega)) 67 (primv ⟨#[89]⟩ (.func (.func 116) #[] #[])) rfl rfl (by omega) ?_)
  intro w7 hm7 hgg
  have hg7 := hg6.andThen hgg (fun _ e => .inr e)
  clear hgg hm6 hg6
  go_wp2_with (at_mapUpdate; refine wpList_put _ rfl (.tmp 16) (.const (.int .i64 68)) (.tmp 17) 50 48 (.inl rfl) Tryz.underlying50 b _ rfl hm7 (by first | omega | (simp only [List.length_cons]; omega)) 68 (primv ⟨#[83, 76, 76]⟩ (.func (.func 117) #[] #[])) rfl rfl (by omega) ?_)
  intro w8 hm8 hgg
  have hg8 := hg7.andThen hgg (fun _ e => .inr e)
  clear hgg hm7 hg7
  go_wp2_with (at_mapUpdate; refine wpList_put _ rfl (.tmp 18) (.const (.int .i64 69)) (.tmp 19) 50 48 (.inl rfl) Tryz.underlying50 b _ rfl hm8 (by first | omega | (simp only [List.length_cons]; omega)) 69 (primv ⟨#[83, 67]⟩ (.func (.func 118) #[] #[])) rfl rfl (by omega) ?_)
  intro w9 hm9 hgg
  have hg9 := hg8.andThen hgg (fun _ e => .inr e)
  clear hgg hm8 hg8
  go_wp2_with (at_mapUpdate; refine wpList_put _ rfl (.tmp 20) (.const (.int .i64 70)) (.tmp 21) 50 48 (.inl rfl) Tryz.underlying50 b _ rfl hm9 (by first | omega | (simp only [List.length_cons]; omega)) 70 (primv ⟨#[83]⟩ (.func (.func 120) #[] #[])) rfl rfl (by omega) ?_)
  intro w10 hm10 hgg
  have hg10 := hg9.andThen hgg (fun _ e => .inr e)
  clear hgg hm9 hg9
  go_wp2_with (at_mapUpdate; refine wpList_put _ rfl (.tmp 22) (.const (.int .i64 71)) (.tmp 23) 50 48 (.inl rfl) Tryz.underlying50 b _ rfl hm10 (by first | omega | (simp only [List.length_cons]; omega)) 71 (primv ⟨#[83]⟩ (.func (.func 122) #[] #[])) rfl rfl (by omega) ?_)
  intro w11 hm11 hgg
  have hg11 := hg10.andThen hgg (fun _ e => .inr e)
  clear hgg hm10 hg10
  go_wp2_with (at_mapUpdate; refine wpList_put _ rfl (.tmp 24) (.const (.int .i64 72)) (.tmp 25) 50 48 (.inl rfl) Tryz.underlying50 b _ rfl hm11 (by first | omega | (simp only [List.length_cons]; omega)) 72 (primv ⟨#[83]⟩ (.func (.func 124) #[] #[])) rfl rfl (by omega) ?_)
  intro w12 hm12 hgg
  have hg12 := hg11.andThen hgg (fun _ e => .inr e)
  clear hgg hm11 hg11
  go_wp2_with (at_mapUpdate; refine wpList_put _ rfl (.tmp 26) (.const (.int .i64 81)) (.tmp 27) 50 48 (.inl rfl) Tryz.underlying50 b _ rfl hm12 (by first | omega | (simp only [List.length_cons]; omega)) 81 (primv ⟨#[67]⟩ (.func (.func 126) #[] #[])) rfl rfl (by omega) ?_)
  intro w13 hm13 hgg
  have hg13 := hg12.andThen hgg (fun _ e => .inr e)
  clear hgg hm12 hg12
  go_wp2_with (at_mapUpdate; refine wpList_put _ rfl (.tmp 28) (.const (.int .i64 82)) (.tmp 29) 50 48 (.inl rfl) Tryz.underlying50 b _ rfl hm13 (by first | omega | (simp only [List.length_cons]; omega)) 82 (primv ⟨#[76]⟩ (.func (.func 127) #[] #[])) rfl rfl (by omega) ?_)
  intro w14 hm14 hgg
  have hg14 := hg13.andThen hgg (fun _ e => .inr e)
  clear hgg hm13 hg13
  go_wp2_with (at_mapUpdate; refine wpList_put _ rfl (.tmp 30) (.const (.int .i64 83)) (.tmp 31) 50 48 (.inl rfl) Tryz.underlying50 b _ rfl hm14 (by first | omega | (simp only [List.length_cons]; omega)) 83 (primv ⟨#[67, 67]⟩ (.func (.func 128) #[] #[])) rfl rfl (by omega) ?_)
  intro w15 hm15 hgg
  have hg15 := hg14.andThen hgg (fun _ e => .inr e)
  clear hgg hm14 hg14
  go_wp2_with (at_mapUpdate; refine wpList_put _ rfl (.tmp 32) (.const (.int .i64 84)) (.tmp 33) 50 48 (.inl rfl) Tryz.underlying50 b _ rfl hm15 (by first | omega | (simp only [List.length_cons]; omega)) 84 (primv ⟨#[67]⟩ (.func (.func 129) #[] #[])) rfl rfl (by omega) ?_)
  intro w16 hm16 hgg
  have hg16 := hg15.andThen hgg (fun _ e => .inr e)
  clear hgg hm15 hg15
  go_wp2_with fail
  go_end0
  exact ⟨rfl, hm16, hg16⟩
end Go.Proofs.YtlodbibagmblkaaGreatDoor
namespace Go.Proofs.YtlodbibagmblkaaGreatDoor
open Go Go.RowKit Go.Lib
/-- functions that lie in blocks of their own -/
def Ins (w : World) (b : Nat) (S : List (Nat × Nat)) : Prop := ∀ x ∈ S, w.cell? ⟨x.2, 0, none⟩ = some (.func (.func x.1) #[] #[]) ∧ x.2 < w.heap.size ∧ x.2 ≠ b
theorem Ins.kept {w w' : World} {b : Nat} {S : List (Nat × Nat)} (h : Ins w b S) (hg : w.grownBy w' (some b)) : Ins w' b S := fun x hx => by
  obtain ⟨h1, h2, h3⟩ := h x hx
  refine ⟨?_, Nat.lt_of_lt_of_le h2 hg.size, h3⟩
  rw [World.cell?_of_block (w := w) (hg.block x.2 h2 (by intro e; injection e with e; exact h3 e))]
  exact h1
/-- a primitive of two integers, whose function lies in a block -/
def insv (p : Nat) : Value := primv ⟨#[73, 73]⟩ (.func (.func 24) #[] #[.pointer (some ⟨p, 0, none⟩)])
set_option maxRecDepth 4000 in
set_option maxHeartbeats 2000000 in
theorem ints_any (n : Int) (f b ba : Nat) (L : List (Int × Value)) (S : List (Nat × Nat)) (w : World) (h : MapAt w b L) (hL : L.length ≤ 500) (hS : Ins w b S) (hn : -1000 ≤ n ∧ n ≤ 1000) (hc : w.cell? ⟨ba, 0, none⟩ = some (.map (some b))) (hba : ba < w.heap.size) (hne : ba ≠ b) :
    Calls Tryz.prog 23 #[.int .i64 n, .func (.func f) #[] #[], .pointer (some ⟨ba, 0, none⟩)] w fun e w' => e = .returned (.tuple #[]) ∧ ∃ p, MapAt w' b ((n, insv p) :: L) ∧ Ins w' b ((f, p) :: S) ∧ w.grownBy w' (some b) ∧ w'.cell? ⟨ba, 0, none⟩ = some (.map (some b)) ∧ ba < w'.heap.size := by
  obtain ⟨T, W1, hW1, hfw, hs1, hg1⟩ : ∃ (T : TypeId) (W1 : World), w.alloc (.cells #[.func (.func f) #[] #[]] 63) = W1 ∧ W1.cell? ⟨w.heap.size, 0, none⟩ = some (.func (.func f) #[] #[]) ∧ W1.heap.size = w.heap.size + 1 ∧ w.grownBy W1 (some b) :=
    ⟨0, _, rfl, by simp, by simp, World.grownBy_alloc w _ _⟩
  have hbl := h.lt
  have h1 : MapAt W1 b L := h.kept (World.grownBy_alloc w _ none |> fun q => hW1 ▸ q) (by simp)
  have hS1 := hS.kept hg1
  have hc1 : W1.cell? ⟨ba, 0, none⟩ = some (.map (some b)) := by
    rw [World.cell?_of_block (w := w) (hg1.block ba hba (by intro e; injection e with e; exact hne e))]; exact hc
  have HS1 := Lib.hid hS1
  have HG1 := Lib.hid hg1
  have HFW := Lib.hid hfw
  have HC1 := Lib.hid hc1
  clear h hS hS1 hg1 hfw
  go_enter Tryz.func23, Tryz.ntmps23
  go_wp2_with (at_mapUpdate; refine wpList_put _ rfl (.tmp 5) (.tmp 6) (.tmp 8) 50 48 (.inl rfl) Tryz.underlying50 b _ rfl h1 (by omega) n (insv w.heap.size) rfl rfl (by omega) ?_)
  intro w2 hm2 hg2
  have hg := HG1.out.andThen hg2 (fun _ e => .inr e)
  have hS2 := HS1.out.kept hg2
  have hf2 : w2.cell? ⟨w.heap.size, 0, none⟩ = some (.func (.func f) #[] #[]) := by
    rw [World.cell?_of_block (w := W1) (hg2.block w.heap.size (by omega) (by intro e; injection e with e; omega))]; exact HFW.out
  have hc2 : w2.cell? ⟨ba, 0, none⟩ = some (.map (some b)) := by
    rw [World.cell?_of_block (w := W1) (hg2.block ba (by omega) (by intro e; injection e with e; exact hne e))]; exact HC1.out
  have hs2 := hg2.size
  go_wp2_with fail
  go_end0
  refine ⟨rfl, w.heap.size, hm2, fun x hx => ?_, hg, hc2, by omega⟩
  rcases List.mem_cons.1 hx with rfl | hx
  · exact ⟨hf2, by show w.heap.size < _; omega, by show w.heap.size ≠ b; omega⟩
  · exact hS2 x hx
end Go.Proofs.YtlodbibagmblkaaGreatDoor
namespace Go.Proofs.YtlodbibagmblkaaGreatDoor
open Go Go.RowKit Go.Lib
theorem grown_cell {w w' : World} {b p : Nat} {v : Value} (hg : w.grownBy w' (some b)) (hc : w.cell? ⟨p, 0, none⟩ = some v) (hp : p < w.heap.size) (hne : p ≠ b) : w'.cell? ⟨p, 0, none⟩ = some v := by
  rw [World.cell?_of_block (w := w) (hg.block p hp (by intro e; injection e with e; exact hne e))]; exact hc
theorem grown_set {w W : World} {b p : Nat} {v : Value} (hg : w.grownBy W (some b)) (hp : w.heap.size ≤ p) : w.grownBy (W.setCell ⟨p, 0, none⟩ v) (some b) := by
  obtain ⟨h1, h2, h3, h4, h5⟩ := hg
  refine ⟨h1, h2, h3, by simpa [World.setCell] using h4, fun i hi hne => ?_⟩
  rw [Below.heap_setCell _ _ _ _ (by show i ≠ p; omega)]
  exact h5 i hi hne
theorem cell_one {W : World} {k : Nat} {v : Value} {T : TypeId} (h : W.heap[k]? = some (.cells #[v] T)) : W.cell? ⟨k, 0, none⟩ = some v := by simp [World.cell?, h]
/-- primitives of two that compare: what asks, what tells the values, what compares them lie in blocks -/
def OrdX (w : World) (b : Nat) (L : List (Int × Value)) (fr : Int) (s : ByteArray) (fc fg fb pb pg k : Nat) : Prop := w.cell? ⟨pb, 0, none⟩ = some (.func (.func fb) #[] #[]) ∧ w.cell? ⟨pg, 0, none⟩ = some (.func (.func fg) #[] #[]) ∧ pb < w.heap.size ∧ pg < w.heap.size ∧ pb ≠ b ∧ pg ≠ b ∧
  ∀ how : Nat, 3 ≤ how → how < k + 3 → ∃ p, lk L (fr + (how : Int)) = some (primv s (.func (.func fc) #[] #[.pointer (some ⟨pb, 0, none⟩), .pointer (some ⟨pg, 0, none⟩), .pointer (some ⟨p, 0, none⟩)])) ∧ w.cell? ⟨p, 0, none⟩ = some (.int .i64 (how : Int)) ∧ p < w.heap.size ∧ p ≠ b
theorem OrdX.kept {w w' : World} {b : Nat} {L : List (Int × Value)} {fr : Int} {s : ByteArray} {fc fg fb pb pg k : Nat} (h : OrdX w b L fr s fc fg fb pb pg k) (hg : w.grownBy w' (some b)) : OrdX w' b L fr s fc fg fb pb pg k := by
  obtain ⟨h1, h2, h3, h4, h5, h6, h7⟩ := h
  refine ⟨grown_cell hg h1 h3 h5, grown_cell hg h2 h4 h6, Nat.lt_of_lt_of_le h3 hg.size, Nat.lt_of_lt_of_le h4 hg.size, h5, h6, fun how e1 e2 => ?_⟩
  obtain ⟨p, p1, p2, p3, p4⟩ := h7 how e1 e2
  exact ⟨p, p1, grown_cell hg p2 p3 p4, Nat.lt_of_lt_of_le p3 hg.size, p4⟩
theorem OrdX.more {w : World} {b : Nat} {L : List (Int × Value)} {fr n : Int} {s : ByteArray} {fc fg fb pb pg k p : Nat} (h : OrdX w b L fr s fc fg fb pb pg k) (hn : n = fr + ((k : Int) + 3)) (hc : w.cell? ⟨p, 0, none⟩ = some (.int .i64 ((k : Int) + 3))) (hp : p < w.heap.size) (hpb : p ≠ b) :
    OrdX w b ((n, primv s (.func (.func fc) #[] #[.pointer (some ⟨pb, 0, none⟩), .pointer (some ⟨pg, 0, none⟩), .pointer (some ⟨p, 0, none⟩)])) :: L) fr s fc fg fb pb pg (k + 1) := by
  obtain ⟨h1, h2, h3, h4, h5, h6, h7⟩ := h
  refine ⟨h1, h2, h3, h4, h5, h6, fun how e1 e2 => ?_⟩
  by_cases e : how = k + 3
  · subst e
    exact ⟨p, by rw [hn, show ((k + 3 : Nat) : Int) = (k : Int) + 3 by omega]; simp [lk], by rw [show ((k + 3 : Nat) : Int) = (k : Int) + 3 by omega]; exact hc, hp, hpb⟩
  · obtain ⟨q, q1, q2⟩ := h7 how e1 (by omega)
    exact ⟨q, by rw [lk, if_neg (by show n ≠ _; omega)]; exact q1, q2⟩
def OrdAt (w : World) (L : List (Int × Value)) (fr : Int) (s : ByteArray) (fc fg fb : Nat) : Prop := ∃ pb pg, w.cell? ⟨pb, 0, none⟩ = some (.func (.func fb) #[] #[]) ∧ w.cell? ⟨pg, 0, none⟩ = some (.func (.func fg) #[] #[]) ∧ pb < w.heap.size ∧ pg < w.heap.size ∧
  ∀ how : Nat, 3 ≤ how → how < 9 → ∃ p, lk L (fr + (how : Int)) = some (primv s (.func (.func fc) #[] #[.pointer (some ⟨pb, 0, none⟩), .pointer (some ⟨pg, 0, none⟩), .pointer (some ⟨p, 0, none⟩)])) ∧ w.cell? ⟨p, 0, none⟩ = some (.int .i64 (how : Int)) ∧ p < w.heap.size
theorem OrdX.at {w : World} {b : Nat} {L L' : List (Int × Value)} {fr : Int} {s : ByteArray} {fc fg fb pb pg : Nat} (h : OrdX w b L fr s fc fg fb pb pg 6) (hl : ∀ (n : Int) v, fr + 3 ≤ n → n ≤ fr + 8 → lk L n = some v → lk L' n = some v) : OrdAt w L' fr s fc fg fb := by
  obtain ⟨h1, h2, h3, h4, h5, h6, h7⟩ := h
  refine ⟨pb, pg, h1, h2, h3, h4, fun how e1 e2 => ?_⟩
  obtain ⟨p, p1, p2, p3, _⟩ := h7 how e1 e2
  exact ⟨p, hl _ _ (by omega) (by omega) p1, p2, p3⟩
set_option maxRecDepth 4000 in
set_option maxHeartbeats 4000000 in
theorem ordersLarge_any (fr : Int) (s : ByteArray) (fg fb b : Nat) (L : List (Int × Value)) (w : World) (h : MapAt w b L) (hL : L.length ≤ 500) (hf : -1000 ≤ fr ∧ fr ≤ 1000) :
    Calls Tryz.prog 40 #[.map (some b), .int .i64 fr, .string s, .func (.func fg) #[] #[], .func (.func fb) #[] #[]] w fun e w' => e = .returned (.tuple #[]) ∧ ∃ L1, MapAt w' b (L1 ++ L) ∧ (∀ x ∈ L1, fr + 3 ≤ x.1 ∧ x.1 ≤ fr + 8) ∧ L1.length ≤ 6 ∧ w.grownBy w' (some b) ∧ ∃ pb pg, OrdX w' b L1 fr s 76 fg fb pb pg 6 := by
  have hbl := h.lt
  obtain ⟨W3, hW3⟩ : ∃ W3, (((w.alloc (.cells #[.func (.func fg) #[] #[]] 69)).alloc (.cells #[.func (.func fb) #[] #[]] 72)).alloc (.cells #[.int .i64 3] 3)) = W3 := ⟨_, rfl⟩
  have hs3 : W3.heap.size = w.heap.size + 3 := by rw [← hW3]; simp
  have hg3 : w.grownBy W3 (some b) := by
    rw [← hW3]
    exact ((World.grownBy_alloc w _ _).andThen (World.grownBy_alloc _ _ _) (fun _ e => .inr e)).andThen (World.grownBy_alloc _ _ _) (fun _ e => .inr e)
  have hc3 : W3.cell? ⟨w.heap.size + 2, 0, none⟩ = some (.int .i64 3) := by
    have q := heap_alloc_at ((w.alloc (.cells #[.func (.func fg) #[] #[]] 69)).alloc (.cells #[.func (.func fb) #[] #[]] 72)) (.cells #[.int .i64 3] 3)
    rw [hW3] at q
    have e : ((w.alloc (.cells #[.func (.func fg) #[] #[]] 69)).alloc (.cells #[.func (.func fb) #[] #[]] 72)).heap.size = w.heap.size + 2 := by simp
    rw [e] at q
    simp [World.cell?, q]
  have hm3 : MapAt W3 b L := by
    have q : w.grownBy W3 none := by
      rw [← hW3]
      exact ((World.grownBy_alloc w _ none).andThen (World.grownBy_alloc _ _ none) (fun _ e => .inr e)).andThen (World.grownBy_alloc _ _ none) (fun _ e => .inr e)
    exact h.kept q (by simp)
  have HO : Hid (OrdX W3 b [] fr s 76 fg fb (w.heap.size + 1) w.heap.size 0) := Lib.hid (by
    have q0 := heap_alloc_at w (.cells #[.func (.func fg) #[] #[]] 69)
    have q1 := heap_alloc_at (w.alloc (.cells #[.func (.func fg) #[] #[]] 69)) (.cells #[.func (.func fb) #[] #[]] 72)
    have hbl1 := (Below.refl (w.heap.size + 2) ((w.alloc (.cells #[.func (.func fg) #[] #[]] 69)).alloc (.cells #[.func (.func fb) #[] #[]] 72))).alloc (by simp) (.cells #[.int .i64 3] 3)
    have hbl0 := (Below.refl (w.heap.size + 1) (w.alloc (.cells #[.func (.func fg) #[] #[]] 69))).alloc (by simp) (.cells #[.func (.func fb) #[] #[]] 72)
    rw [hW3] at hbl1
    have e : (w.alloc (.cells #[.func (.func fg) #[] #[]] 69)).heap.size = w.heap.size + 1 := by simp
    rw [e] at q1
    refine ⟨?_, ?_, by omega, by omega, by omega, by omega, fun how e1 e2 => by omega⟩
    · rw [hbl1.cell (p := ⟨w.heap.size + 1, 0, none⟩) (by show w.heap.size + 1 < _; omega)]
      exact cell_one q1
    · rw [hbl1.cell (p := ⟨w.heap.size, 0, none⟩) (by show w.heap.size < _; omega), hbl0.cell (p := ⟨w.heap.size, 0, none⟩) (by show w.heap.size < _; omega)]
      exact cell_one q0)
  have HM := Lib.hid hm3
  have HG := Lib.hid hg3
  have HC := Lib.hid hc3
  have HS := Lib.hid hs3
  clear h hm3 hg3 hc3 hs3
  go_enter Tryz.func40, Tryz.ntmps40
  go_wp2_with fail
  go_loopw [10] (fun q wr => ∃ (k p : Nat) (L1 : List (Int × Value)), k ≤ 6 ∧ q = .pointer (some ⟨p, 0, none⟩) ∧ wr.cell? ⟨p, 0, none⟩ = some (.int .i64 ((k : Int) + 3)) ∧ w.heap.size ≤ p ∧ p < wr.heap.size ∧ MapAt wr b (L1 ++ L) ∧ L1.length = k ∧ Hid (∀ x ∈ L1, fr + 3 ≤ x.1 ∧ x.1 ≤ fr + 8) ∧ w.grownBy wr (some b) ∧ Hid (OrdX wr b L1 fr s 76 fg fb (w.heap.size + 1) w.heap.size k)) (fun q wr => match q with | .pointer (some a) => (match wr.cell? a with | some v => (9 - RowKit.intOf v).toNat | none => 0) | _ => 0)
  case atStart => exact ⟨0, w.heap.size + 2, [], by omega, rfl, HC.out, by omega, by rw [HS.out]; omega, HM.out, rfl, Lib.hid (by simp), HG.out, HO⟩
  case round =>
    obtain ⟨k, p, L1, hk, rfl, hc, hpw, hps, hm, hl, hkeys, hg, hox⟩ := hrel
    have hbp : p ≠ b := by omega
    have HG2 := Lib.hid hg
    by_cases hlt : k < 6
    · have hd : decide ((k : Int) + 3 ≤ 8) = true := decide_eq_true (by omega)
      clear hg
      go_wp2_with (at_mapUpdate; refine wpList_put _ rfl (.tmp 15) (.tmp 18) (.tmp 21) 50 48 (.inl rfl) Tryz.underlying50 b _ rfl hm (by rw [List.length_append]; omega) (fr + ((k : Int) + 3)) (primv s (.func (.func 76) #[] #[.pointer (some ⟨w.heap.size + 1, 0, none⟩), .pointer (some ⟨w.heap.size, 0, none⟩), .pointer (some ⟨p, 0, none⟩)])) rfl rfl (by omega) ?_)
      intro w2 hm2 hg2
      have hc2 := grown_cell hg2 hc hps hbp
      have hs2 := hg2.size
      have HX2 := Lib.hid (((hox.out.kept hg2).more rfl hc2 (by omega) hbp).kept (World.grownBy_alloc w2 (.cells #[.int .i64 ((k : Int) + 3 + 1)] 3) _))
      have HG3 := Lib.hid ((HG2.out.andThen hg2 (fun _ e => .inr e)).andThen (World.grownBy_alloc w2 (.cells #[.int .i64 ((k : Int) + 3 + 1)] 3) _) (fun _ e => .inr e))
      have HM3 := Lib.hid (hm2.kept (World.grownBy_alloc w2 (.cells #[.int .i64 ((k : Int) + 3 + 1)] 3) none) (by simp))
      clear hm2 hg2 hm
      go_wp2_with fail
      go_roundw
      case rel =>
        refine ⟨k + 1, w2.heap.size, _ :: L1, by omega, rfl, ?_, by omega, by simp, HM3.out, by simp [hl], Lib.hid ?_, HG3.out, HX2⟩
        · rw [show ((k + 1 : Nat) : Int) + 3 = (k : Int) + 3 + 1 by omega]; simp
        · intro x hx
          rcases List.mem_cons.1 hx with rfl | hx
          · exact ⟨by show fr + 3 ≤ fr + _; omega, by show fr + _ ≤ fr + 8; omega⟩
          · exact hkeys.out x hx
      case measure =>
        simp [RowKit.intOf, hc]
        omega
    · obtain rfl : k = 6 := by omega
      clear hg
      go_wp2_with fail
      go_end0
      exact ⟨rfl, L1, hm, hkeys.out, by omega, HG2.out, _, _, hox.out⟩
set_option maxRecDepth 4000 in
set_option maxHeartbeats 4000000 in
theorem ordersU_any (fr : Int) (s : ByteArray) (fg fb b : Nat) (L : List (Int × Value)) (w : World) (h : MapAt w b L) (hL : L.length ≤ 500) (hf : -1000 ≤ fr ∧ fr ≤ 1000) :
    Calls Tryz.prog 44 #[.map (some b), .int .i64 fr, .string s, .func (.func fg) #[] #[], .func (.func fb) #[] #[]] w fun e w' => e = .returned (.tuple #[]) ∧ ∃ L1, MapAt w' b (L1 ++ L) ∧ (∀ x ∈ L1, fr + 3 ≤ x.1 ∧ x.1 ≤ fr + 8) ∧ L1.length ≤ 6 ∧ w.grownBy w' (some b) ∧ ∃ pb pg, OrdX w' b L1 fr s 80 fg fb pb pg 6 := by
  have hbl := h.lt
  obtain ⟨W3, hW3⟩ : ∃ W3, (((w.alloc (.cells #[.func (.func fg) #[] #[]] 74)).alloc (.cells #[.func (.func fb) #[] #[]] 75)).alloc (.cells #[.int .i64 3] 3)) = W3 := ⟨_, rfl⟩
  have hs3 : W3.heap.size = w.heap.size + 3 := by rw [← hW3]; simp
  have hg3 : w.grownBy W3 (some b) := by
    rw [← hW3]
    exact ((World.grownBy_alloc w _ _).andThen (World.grownBy_alloc _ _ _) (fun _ e => .inr e)).andThen (World.grownBy_alloc _ _ _) (fun _ e => .inr e)
  have hc3 : W3.cell? ⟨w.heap.size + 2, 0, none⟩ = some (.int .i64 3) := by
    have q := heap_alloc_at ((w.alloc (.cells #[.func (.func fg) #[] #[]] 74)).alloc (.cells #[.func (.func fb) #[] #[]] 75)) (.cells #[.int .i64 3] 3)
    rw [hW3] at q
    have e : ((w.alloc (.cells #[.func (.func fg) #[] #[]] 74)).alloc (.cells #[.func (.func fb) #[] #[]] 75)).heap.size = w.heap.size + 2 := by simp
    rw [e] at q
    simp [World.cell?, q]
  have hm3 : MapAt W3 b L := by
    have q : w.grownBy W3 none := by
      rw [← hW3]
      exact ((World.grownBy_alloc w _ none).andThen (World.grownBy_alloc _ _ none) (fun _ e => .inr e)).andThen (World.grownBy_alloc _ _ none) (fun _ e => .inr e)
    exact h.kept q (by simp)
  have HO : Hid (OrdX W3 b [] fr s 80 fg fb (w.heap.size + 1) w.heap.size 0) := Lib.hid (by
    have q0 := heap_alloc_at w (.cells #[.func (.func fg) #[] #[]] 74)
    have q1 := heap_alloc_at (w.alloc (.cells #[.func (.func fg) #[] #[]] 74)) (.cells #[.func (.func fb) #[] #[]] 75)
    have hbl1 := (Below.refl (w.heap.size + 2) ((w.alloc (.cells #[.func (.func fg) #[] #[]] 74)).alloc (.cells #[.func (.func fb) #[] #[]] 75))).alloc (by simp) (.cells #[.int .i64 3] 3)
    have hbl0 := (Below.refl (w.heap.size + 1) (w.alloc (.cells #[.func (.func fg) #[] #[]] 74))).alloc (by simp) (.cells #[.func (.func fb) #[] #[]] 75)
    rw [hW3] at hbl1
    have e : (w.alloc (.cells #[.func (.func fg) #[] #[]] 74)).heap.size = w.heap.size + 1 := by simp
    rw [e] at q1
    refine ⟨?_, ?_, by omega, by omega, by omega, by omega, fun how e1 e2 => by omega⟩
    · rw [hbl1.cell (p := ⟨w.heap.size + 1, 0, none⟩) (by show w.heap.size + 1 < _; omega)]
      exact cell_one q1
    · rw [hbl1.cell (p := ⟨w.heap.size, 0, none⟩) (by show w.heap.size < _; omega), hbl0.cell (p := ⟨w.heap.size, 0, none⟩) (by show w.heap.size < _; omega)]
      exact cell_one q0)
  have HM := Lib.hid hm3
  have HG := Lib.hid hg3
  have HC := Lib.hid hc3
  have HS := Lib.hid hs3
  clear h hm3 hg3 hc3 hs3
  go_enter Tryz.func44, Tryz.ntmps44
  go_wp2_with fail
  go_loopw [10] (fun q wr => ∃ (k p : Nat) (L1 : List (Int × Value)), k ≤ 6 ∧ q = .pointer (some ⟨p, 0, none⟩) ∧ wr.cell? ⟨p, 0, none⟩ = some (.int .i64 ((k : Int) + 3)) ∧ w.heap.size ≤ p ∧ p < wr.heap.size ∧ MapAt wr b (L1 ++ L) ∧ L1.length = k ∧ Hid (∀ x ∈ L1, fr + 3 ≤ x.1 ∧ x.1 ≤ fr + 8) ∧ w.grownBy wr (some b) ∧ Hid (OrdX wr b L1 fr s 80 fg fb (w.heap.size + 1) w.heap.size k)) (fun q wr => match q with | .pointer (some a) => (match wr.cell? a with | some v => (9 - RowKit.intOf v).toNat | none => 0) | _ => 0)
  case atStart => exact ⟨0, w.heap.size + 2, [], by omega, rfl, HC.out, by omega, by rw [HS.out]; omega, HM.out, rfl, Lib.hid (by simp), HG.out, HO⟩
  case round =>
    obtain ⟨k, p, L1, hk, rfl, hc, hpw, hps, hm, hl, hkeys, hg, hox⟩ := hrel
    have hbp : p ≠ b := by omega
    have HG2 := Lib.hid hg
    by_cases hlt : k < 6
    · have hd : decide ((k : Int) + 3 ≤ 8) = true := decide_eq_true (by omega)
      clear hg
      go_wp2_with (at_mapUpdate; refine wpList_put _ rfl (.tmp 15) (.tmp 18) (.tmp 21) 50 48 (.inl rfl) Tryz.underlying50 b _ rfl hm (by rw [List.length_append]; omega) (fr + ((k : Int) + 3)) (primv s (.func (.func 80) #[] #[.pointer (some ⟨w.heap.size + 1, 0, none⟩), .pointer (some ⟨w.heap.size, 0, none⟩), .pointer (some ⟨p, 0, none⟩)])) rfl rfl (by omega) ?_)
      intro w2 hm2 hg2
      have hc2 := grown_cell hg2 hc hps hbp
      have hs2 := hg2.size
      have HX2 := Lib.hid (((hox.out.kept hg2).more rfl hc2 (by omega) hbp).kept (World.grownBy_alloc w2 (.cells #[.int .i64 ((k : Int) + 3 + 1)] 3) _))
      have HG3 := Lib.hid ((HG2.out.andThen hg2 (fun _ e => .inr e)).andThen (World.grownBy_alloc w2 (.cells #[.int .i64 ((k : Int) + 3 + 1)] 3) _) (fun _ e => .inr e))
      have HM3 := Lib.hid (hm2.kept (World.grownBy_alloc w2 (.cells #[.int .i64 ((k : Int) + 3 + 1)] 3) none) (by simp))
      clear hm2 hg2 hm
      go_wp2_with fail
      go_roundw
      case rel =>
        refine ⟨k + 1, w2.heap.size, _ :: L1, by omega, rfl, ?_, by omega, by simp, HM3.out, by simp [hl], Lib.hid ?_, HG3.out, HX2⟩
        · rw [show ((k + 1 : Nat) : Int) + 3 = (k : Int) + 3 + 1 by omega]; simp
        · intro x hx
          rcases List.mem_cons.1 hx with rfl | hx
          · exact ⟨by show fr + 3 ≤ fr + _; omega, by show fr + _ ≤ fr + 8; omega⟩
          · exact hkeys.out x hx
      case measure =>
        simp [RowKit.intOf, hc]
        omega
    · obtain rfl : k = 6 := by omega
      clear hg
      go_wp2_with fail
      go_end0
      exact ⟨rfl, L1, hm, hkeys.out, by omega, HG2.out, _, _, hox.out⟩
end Go.Proofs.YtlodbibagmblkaaGreatDoor
namespace Go.Proofs.YtlodbibagmblkaaGreatDoor
open Go Go.RowKit Go.Lib
theorem lk_mem : ∀ {L : List (Int × Value)} {k : Int} {v : Value}, lk L k = some v → (k, v) ∈ L
  | [], _, _, h => by cases h
  | p :: L, k, v, h => by
    unfold lk at h
    split at h
    · rename_i e
      injection h with h
      rw [← e, ← h]
      simp
    · exact List.mem_cons_of_mem _ (lk_mem h)
theorem ranges_le {w : World} {b r n cnt : Nat} {D : DataW Value} {left : Lit → Bool} (h : w.ranges Tryz.prog 3 Rh b r n D left cnt) : cnt ≤ n := by
  obtain ⟨es, clock, since, seen, c0, _, _, hs, _, _, _, hc, _⟩ := h
  rw [← hc]
  refine Nat.le_trans ?_ hs
  unfold leftOf
  exact Array.size_filter_le
theorem drawn {L : List (Int × Value)} {x : Int} {c : Value} {kl : Lit} {y : DataW Value × List MemPlace} (hk : keyOf Tryz.prog 3 (.int .i64 x) = some kl) (hy : Rh c = some y) (hat : ∀ z, (puts L).atKey kl z = y.1) : (x, c) ∈ L := by
  obtain ⟨x', e, rfl, _⟩ := Maps.keyOf_int_inv Tryz.underlying3 hk
  injection e with _ e
  subst e
  unfold Rh at hy
  injection hy with hy
  subst hy
  have h1 := hat (.lit (.bool true))
  rw [puts_at] at h1
  cases hl : lk L x with
  | none => rw [hl] at h1; cases h1
  | some v =>
    rw [hl] at h1
    injection h1 with h1
    rw [h1] at hl
    exact lk_mem hl
set_option maxRecDepth 4000 in
set_option maxHeartbeats 4000000 in
theorem floats_any (b : Nat) (L : List (Int × Value)) (w : World) (h : MapAt w b L) (hL : L.length ≤ 500) :
    Calls Tryz.prog 55 #[.map (some b)] w fun e w' => e = .returned (.tuple #[]) ∧ ∃ L1, MapAt w' b (L1 ++ L) ∧ (∀ x ∈ L1, 41 ≤ x.1 ∧ x.1 ≤ 57) ∧ L1.length ≤ 20 ∧ w.grownBy w' (some b) := by
  have hbl := h.lt
  have hmm := @run_makeMap Tryz.prog
  have Aq0 := MapAt.new w
  have Ab0 := h.kept (World.grownBy_alloc w (.map #[] 0) none) (by simp)
  have Ag0 := World.grownBy_alloc w (.map #[] 0) (some b)
  obtain ⟨Aw0, hw0⟩ : ∃ w0, w.alloc (.map #[] 0) = w0 := ⟨_, rfl⟩
  have As0 : Aw0.heap.size = w.heap.size + 1 := by rw [← hw0]; simp
  rw [hw0] at Aq0 Ab0 Ag0
  clear h
  go_enter Tryz.func55, Tryz.ntmps55
  go_wp2_with (refine wpList_put _ rfl (.tmp 6) (.const (.int .i64 41)) (.func 92) 122 121 (.inr rfl) Tryz.underlying122 w.heap.size _ rfl Aq0 (by simp) 41 (.func (.func 92) #[] #[]) rfl rfl (by omega) ?_)
  intro Aw1 Aq1 hgg
  have Ab1 := Ab0.kept hgg (by intro e; injection e with e; omega)
  have Ag1 := Ag0.andThen hgg (fun _ e => .inl (by injection e with e; omega))
  have As1 : Aw0.heap.size ≤ Aw1.heap.size := hgg.size
  clear hgg Aq0 Ab0 Ag0
  go_wp2_with (refine wpList_put _ rfl (.tmp 6) (.const (.int .i64 42)) (.func 93) 122 121 (.inr rfl) Tryz.underlying122 w.heap.size _ rfl Aq1 (by simp) 42 (.func (.func 93) #[] #[]) rfl rfl (by omega) ?_)
  intro Aw2 Aq2 hgg
  have Ab2 := Ab1.kept hgg (by intro e; injection e with e; omega)
  have Ag2 := Ag1.andThen hgg (fun _ e => .inl (by injection e with e; omega))
  have As2 : Aw1.heap.size ≤ Aw2.heap.size := hgg.size
  clear hgg Aq1 Ab1 Ag1
  go_wp2_with (refine wpList_put _ rfl (.tmp 6) (.const (.int .i64 49)) (.func 94) 122 121 (.inr rfl) Tryz.underlying122 w.heap.size _ rfl Aq2 (by simp) 49 (.func (.func 94) #[] #[]) rfl rfl (by omega) ?_)
  intro Aw3 Aq3 hgg
  have Ab3 := Ab2.kept hgg (by intro e; injection e with e; omega)
  have Ag3 := Ag2.andThen hgg (fun _ e => .inl (by injection e with e; omega))
  have As3 : Aw2.heap.size ≤ Aw3.heap.size := hgg.size
  clear hgg Aq2 Ab2 Ag2
  go_wp2_with (refine wpList_put _ rfl (.tmp 6) (.const (.int .i64 50)) (.func 95) 122 121 (.inr rfl) Tryz.underlying122 w.heap.size _ rfl Aq3 (by simp) 50 (.func (.func 95) #[] #[]) rfl rfl (by omega) ?_)
  intro Aw4 Aq4 hgg
  have Ab4 := Ab3.kept hgg (by intro e; injection e with e; omega)
  have Ag4 := Ag3.andThen hgg (fun _ e => .inl (by injection e with e; omega))
  have As4 : Aw3.heap.size ≤ Aw4.heap.size := hgg.size
  clear hgg Aq3 Ab3 Ag3
  obtain ⟨AL, hAL⟩ : ∃ Lm : List (Int × Value), Lm = [(50, .func (.func 95) #[] #[]), (49, .func (.func 94) #[] #[]), (42, .func (.func 93) #[] #[]), (41, .func (.func 92) #[] #[])] := ⟨_, rfl⟩
  have ALM : Hid (∀ p ∈ AL, (41 ≤ p.1 ∧ p.1 ≤ 57) ∧ ∃ n, p.2 = .func (.func n) #[] #[]) := Lib.hid (by subst hAL; simp)
  have Aq : MapAt Aw4 w.heap.size AL := by rw [hAL]; exact Aq4
  have Alen : AL.length = 4 := by rw [hAL]; rfl
  have Aq' : Aw4.ownsMap Tryz.prog 3 Rh w.heap.size 4 (puts AL) := by have := Aq; unfold MapAt at this; rw [Alen] at this; exact this
  have Abm : w.heap.size < Aw4.heap.size := by omega
  clear hAL Aq4 Aq
  go_wp2_with (at_range; refine wpList_range_own _ rfl (.tmp 7) 122 rfl 3 121 (Go.Maps.int_keyed Tryz.underlying3) Tryz.underlying122 Rh w.heap.size _ _ rfl Aq' ?_)
  intro Av hrg hgg Avs
  have hcn := ranges_le hrg
  have ARG := Lib.hid hrg
  have AB5 := Lib.hid (Ab4.kept hgg (by simp))
  have AG5 := Lib.hid (Ag4.andThen (hgg.but (some b)) (fun _ e => .inr e))
  have Ar5 : Aw4.heap.size < Av.heap.size := by omega
  clear hgg hrg Ab4 Ag4 Aq'
  go_wp2_with fail
  go_loopw [9] (fun _ wr => ∃ (left : Lit → Bool) (cnt : Nat) (L1 : List (Int × Value)), wr.ranges Tryz.prog 3 Rh w.heap.size Aw4.heap.size 4 (puts AL) left cnt ∧ L1.length + cnt ≤ 4 ∧ MapAt wr b (L1 ++ L) ∧ Hid (∀ x ∈ L1, 41 ≤ x.1 ∧ x.1 ≤ 57) ∧ w.grownBy wr (some b) ∧ Aw4.heap.size < wr.heap.size) (fun _ wr => wr.rangeLeft w.heap.size Aw4.heap.size)
  case atStart => exact ⟨_, _, [], ARG.out, by simpa using hcn, AB5.out, Lib.hid (by simp), AG5.out, Ar5⟩
  case round =>
    obtain ⟨left, cnt, Al1, hrg, Ahl1, hm, Ahk, hg, Asz⟩ := hrel
    have AHG := Lib.hid hg
    have AHM := Lib.hid hm
    have hleq := hrg.left_eq
    clear hg hm
    go_wp2_with (at_next; refine wpList_next_ranges _ rfl (.tmp 8) rfl 3 (Go.Maps.int_keyed Tryz.underlying3) Rh (Value.int .i64) (fun v : Value => v) (fun key kl hk => by obtain ⟨x, e, _, _⟩ := Maps.keyOf_int_inv Tryz.underlying3 hk; exact ⟨x, e⟩) (fun v y _ => ⟨v, rfl⟩) w.heap.size Aw4.heap.size _ _ left cnt rfl hrg ?_ ?_)
    · intro hc0 hl0
      have AHX := Lib.hid hc0
      clear hrg hleq hl0 hc0
      have hcnt : Al1.length ≤ 4 := by have := AHX.out; omega
      have hm0 := AHM.out
      have hg00 := AHG.out
      have hkeys1 := Ahk
      obtain ⟨u, hu⟩ : ∃ u, wr = u := ⟨_, rfl⟩
      rw [hu] at hm0 hg00 Asz ⊢
      clear AHM AHG AHX hu
      have hmm := @run_makeMap Tryz.prog
      have Bq0 := MapAt.new u
      have Bb0 := hm0.kept (World.grownBy_alloc u (.map #[] 0) none) (by simp)
      have Bg0 := hg00.andThen (World.grownBy_alloc u (.map #[] 0) (some b)) (fun _ e => .inr e)
      obtain ⟨Bw0, hBw0⟩ : ∃ w0, u.alloc (.map #[] 0) = w0 := ⟨_, rfl⟩
      have Bs0 : Bw0.heap.size = u.heap.size + 1 := by rw [← hBw0]; simp
      have hub : b < u.heap.size := hm0.lt
      have huw : w.heap.size ≤ u.heap.size := hg00.size
      rw [hBw0] at Bq0 Bb0 Bg0
      clear hm0 hg00
      go_wp2_with (refine wpList_put _ rfl (.tmp 18) (.const (.int .i64 52)) (.func 97) 124 123 (.inr rfl) Tryz.underlying124 u.heap.size _ rfl Bq0 (by simp) 52 (.func (.func 97) #[] #[]) rfl rfl (by omega) ?_)
      intro Bw1 Bq1 hgg
      have Bb1 := Bb0.kept hgg (by intro e; injection e with e; omega)
      have Bg1 := Bg0.andThen hgg (fun _ e => .inl (by injection e with e; omega))
      have Bs1 : Bw0.heap.size ≤ Bw1.heap.size := hgg.size
      clear hgg Bq0 Bb0 Bg0
      go_wp2_with (refine wpList_put _ rfl (.tmp 18) (.const (.int .i64 55)) (.func 98) 124 123 (.inr rfl) Tryz.underlying124 u.heap.size _ rfl Bq1 (by simp) 55 (.func (.func 98) #[] #[]) rfl rfl (by omega) ?_)
      intro Bw2 Bq2 hgg
      have Bb2 := Bb1.kept hgg (by intro e; injection e with e; omega)
      have Bg2 := Bg1.andThen hgg (fun _ e => .inl (by injection e with e; omega))
      have Bs2 : Bw1.heap.size ≤ Bw2.heap.size := hgg.size
      clear hgg Bq1 Bb1 Bg1
      go_wp2_with (refine wpList_put _ rfl (.tmp 18) (.const (.int .i64 57)) (.func 99) 124 123 (.inr rfl) Tryz.underlying124 u.heap.size _ rfl Bq2 (by simp) 57 (.func (.func 99) #[] #[]) rfl rfl (by omega) ?_)
      intro Bw3 Bq3 hgg
      have Bb3 := Bb2.kept hgg (by intro e; injection e with e; omega)
      have Bg3 := Bg2.andThen hgg (fun _ e => .inl (by injection e with e; omega))
      have Bs3 : Bw2.heap.size ≤ Bw3.heap.size := hgg.size
      clear hgg Bq2 Bb2 Bg2
      obtain ⟨BL, hBL⟩ : ∃ Lm : List (Int × Value), Lm = [(57, .func (.func 99) #[] #[]), (55, .func (.func 98) #[] #[]), (52, .func (.func 97) #[] #[])] := ⟨_, rfl⟩
      have BLM : Hid (∀ p ∈ BL, (41 ≤ p.1 ∧ p.1 ≤ 57) ∧ ∃ n, p.2 = .func (.func n) #[] #[]) := Lib.hid (by subst hBL; simp)
      have Bq : MapAt Bw3 u.heap.size BL := by rw [hBL]; exact Bq3
      have Blen : BL.length = 3 := by rw [hBL]; rfl
      have Bq' : Bw3.ownsMap Tryz.prog 3 Rh u.heap.size 3 (puts BL) := by have := Bq; unfold MapAt at this; rw [Blen] at this; exact this
      have Bbm : u.heap.size < Bw3.heap.size := by omega
      clear hBL Bq3 Bq
      go_wp2_with (at_range; refine wpList_range_own _ rfl (.tmp 19) 124 rfl 3 123 (Go.Maps.int_keyed Tryz.underlying3) Tryz.underlying124 Rh u.heap.size _ _ rfl Bq' ?_)
      intro Bv hrg hgg Bvs
      have hcn := ranges_le hrg
      have BRG := Lib.hid hrg
      have BB5 := Lib.hid (Bb3.kept hgg (by simp))
      have BG5 := Lib.hid (Bg3.andThen (hgg.but (some b)) (fun _ e => .inr e))
      have Br5 : Bw3.heap.size < Bv.heap.size := by omega
      clear hgg hrg Bb3 Bg3 Bq'
      go_wp2_with fail
      go_loopw [21] (fun _ wr => ∃ (left : Lit → Bool) (cnt : Nat) (L1 : List (Int × Value)), wr.ranges Tryz.prog 3 Rh u.heap.size Bw3.heap.size 3 (puts BL) left cnt ∧ L1.length + cnt ≤ 7 ∧ MapAt wr b (L1 ++ L) ∧ Hid (∀ x ∈ L1, 41 ≤ x.1 ∧ x.1 ≤ 57) ∧ w.grownBy wr (some b) ∧ Bw3.heap.size < wr.heap.size) (fun _ wr => wr.rangeLeft u.heap.size Bw3.heap.size)
      case atStart => exact ⟨_, _, Al1, BRG.out, by omega, BB5.out, hkeys1, BG5.out, Br5⟩
      case round =>
        obtain ⟨left, cnt, Bl1, hrg, Bhl1, hm, Bhk, hg, Bsz⟩ := hrel
        have BHG := Lib.hid hg
        have BHM := Lib.hid hm
        have hleq := hrg.left_eq
        clear hg hm
        go_wp2_with (at_next; refine wpList_next_ranges _ rfl (.tmp 20) rfl 3 (Go.Maps.int_keyed Tryz.underlying3) Rh (Value.int .i64) (fun v : Value => v) (fun key kl hk => by obtain ⟨x, e, _, _⟩ := Maps.keyOf_int_inv Tryz.underlying3 hk; exact ⟨x, e⟩) (fun v y _ => ⟨v, rfl⟩) u.heap.size Bw3.heap.size _ _ left cnt rfl hrg ?_ ?_)
        · intro hc0 hl0
          have BHX := Lib.hid hc0
          clear hrg hleq hl0 hc0
          have z0 := BHM.out
          have x0 := BHG.out
          go_wp2_with (at_mapUpdate; refine wpList_put _ rfl (.tmp 30) (.const (.int .i64 51)) (.tmp 31) 50 48 (.inl rfl) Tryz.underlying50 b _ rfl z0 (by first | (rw [List.length_append]; omega) | (simp only [List.length_cons, List.length_append]; omega)) 51 (primv ⟨#[70]⟩ (.func (.func 101) #[] #[])) rfl rfl (by omega) ?_)
          intro y1 z1 hgg
          have x1 := x0.andThen hgg (fun _ e => .inr e)
          clear hgg z0 x0
          go_wp2_with (at_mapUpdate; refine wpList_put _ rfl (.tmp 32) (.const (.int .i64 53)) (.tmp 33) 50 48 (.inl rfl) Tryz.underlying50 b _ rfl z1 (by first | (rw [List.length_append]; omega) | (simp only [List.length_cons, List.length_append]; omega)) 53 (primv ⟨#[70]⟩ (.func (.func 103) #[] #[])) rfl rfl (by omega) ?_)
          intro y2 z2 hgg
          have x2 := x1.andThen hgg (fun _ e => .inr e)
          clear hgg z1 x1
          go_wp2_with (at_mapUpdate; refine wpList_put _ rfl (.tmp 34) (.const (.int .i64 54)) (.tmp 35) 50 48 (.inl rfl) Tryz.underlying50 b _ rfl z2 (by first | (rw [List.length_append]; omega) | (simp only [List.length_cons, List.length_append]; omega)) 54 (primv ⟨#[70, 76]⟩ (.func (.func 105) #[] #[])) rfl rfl (by omega) ?_)
          intro y3 z3 hgg
          have x3 := x2.andThen hgg (fun _ e => .inr e)
          clear hgg z2 x2
          go_wp2_with (at_mapUpdate; refine wpList_put _ rfl (.tmp 36) (.const (.int .i64 56)) (.tmp 37) 50 48 (.inl rfl) Tryz.underlying50 b _ rfl z3 (by first | (rw [List.length_append]; omega) | (simp only [List.length_cons, List.length_append]; omega)) 56 (primv ⟨#[70]⟩ (.func (.func 107) #[] #[])) rfl rfl (by omega) ?_)
          intro y4 z4 hgg
          have x4 := x3.andThen hgg (fun _ e => .inr e)
          clear hgg z3 x3
          go_wp2_with fail
          go_end0
          refine ⟨rfl, ((56 : Int), primv ⟨#[70]⟩ (.func (.func 107) #[] #[])) :: ((54 : Int), primv ⟨#[70, 76]⟩ (.func (.func 105) #[] #[])) :: ((53 : Int), primv ⟨#[70]⟩ (.func (.func 103) #[] #[])) :: ((51 : Int), primv ⟨#[70]⟩ (.func (.func 101) #[] #[])) :: Bl1, z4, fun u hu => ?_, by simp only [List.length_cons]; omega, x4⟩
          simp only [List.mem_cons] at hu
          rcases hu with rfl | rfl | rfl | rfl | hu
          · exact ⟨by show (41 : Int) ≤ 56; omega, by show (56 : Int) ≤ 57; omega⟩
          · exact ⟨by show (41 : Int) ≤ 54; omega, by show (54 : Int) ≤ 57; omega⟩
          · exact ⟨by show (41 : Int) ≤ 53; omega, by show (53 : Int) ≤ 57; omega⟩
          · exact ⟨by show (41 : Int) ≤ 51; omega, by show (51 : Int) ≤ 57; omega⟩
          · exact Bhk.out u hu
        · intro x c kl ya yb w6 cnt6 hkl hleft hR hat hrg6 hlt6 hg6 hs6 hen
          obtain ⟨hx, nn, hcv⟩ := BLM.out _ (drawn hkl hR hat)
          simp only at hx hcv
          subst hcv
          have hm6 := BHM.out.kept hg6 (by intro e; injection e with e; omega)
          have hg7 := BHG.out.andThen hg6 (fun _ e => .inl (by injection e with e; omega))
          have hs6a := Nat.le_of_eq hs6.symm
          clear hkl hR hat hrg hs6
          obtain ⟨W7, hW7⟩ : ∃ W7, w6.alloc (.cells #[.func (.func nn) #[] #[]] 123) = W7 := ⟨_, rfl⟩
          have hg67 : w6.grownBy W7 none := by
            rw [← hW7]
            exact World.grownBy_alloc w6 _ none
          have hm7 := hm6.kept hg67 (by simp)
          have hg8 := hg7.andThen (hg67.but (some b)) (fun _ e => .inr e)
          have hrg7 := hrg6.kept hg67 (by simp) (by simp)
          have hs7 : w6.heap.size ≤ W7.heap.size := hg67.size
          clear hg67 hm6 hg7 hrg6
          go_wp2_with (at_mapUpdate; refine wpList_put _ rfl (.tmp 26) (.tmp 27) (.tmp 29) 50 48 (.inl rfl) Tryz.underlying50 b _ rfl hm7 (by rw [List.length_append]; omega) x (primv ⟨#[70]⟩ (.func (.func 100) #[] #[.pointer (some ⟨w6.heap.size, 0, none⟩)])) rfl rfl (by omega) ?_)
          intro w8 hm8 hgg
          have hg9 := Lib.hid (hg8.andThen hgg (fun _ e => .inr e))
          have hrg8 := Lib.hid (hrg7.kept hgg (by intro e; injection e with e; omega) (by intro e; injection e with e; omega))
          have hm9 := Lib.hid hm8
          have hs8 := hgg.size
          clear hm7 hg8 hrg7 hgg hm8
          go_wp2_with fail
          go_roundw
          case rel =>
            refine ⟨_, cnt6, _ :: Bl1, hrg8.out, by simp only [List.length_cons]; omega, hm9.out, Lib.hid (fun z hz => ?_), hg9.out, by omega⟩
            rcases List.mem_cons.1 hz with rfl | hz
            · exact hx
            · exact Bhk.out z hz
          case measure => rw [hrg8.out.left_eq, hleq]; omega
    · intro x c kl ya yb w6 cnt6 hkl hleft hR hat hrg6 hlt6 hg6 hs6 hen
      obtain ⟨hx, nn, hcv⟩ := ALM.out _ (drawn hkl hR hat)
      simp only at hx hcv
      subst hcv
      have hm6 := AHM.out.kept hg6 (by intro e; injection e with e; omega)
      have hg7 := AHG.out.andThen hg6 (fun _ e => .inl (by injection e with e; omega))
      have hs6a := Nat.le_of_eq hs6.symm
      clear hkl hR hat hrg hs6
      obtain ⟨W7, hW7⟩ : ∃ W7, (w6.alloc (.cells #[.int .i64 x] 3)).alloc (.cells #[.func (.func nn) #[] #[]] 121) = W7 := ⟨_, rfl⟩
      have hg67 : w6.grownBy W7 none := by
        rw [← hW7]
        exact (World.grownBy_alloc w6 _ none).andThen (World.grownBy_alloc _ _ none) (fun _ e => .inr e)
      have hm7 := hm6.kept hg67 (by simp)
      have hg8 := hg7.andThen (hg67.but (some b)) (fun _ e => .inr e)
      have hrg7 := hrg6.kept hg67 (by simp) (by simp)
      have hs7 : w6.heap.size ≤ W7.heap.size := hg67.size
      have hcx : W7.cell? ⟨w6.heap.size, 0, none⟩ = some (.int .i64 x) := by
        rw [← hW7]
        have q : ((w6.alloc (.cells #[.int .i64 x] 3)).alloc (.cells #[.func (.func nn) #[] #[]] 121)).heap[w6.heap.size]? = some (.cells #[.int .i64 x] 3) := by
          rw [Below.heap_alloc _ _ _ (by simp)]; exact heap_alloc_at _ _
        simp [World.cell?, q]
      clear hg67 hm6 hg7 hrg6
      go_wp2_with (at_mapUpdate; refine wpList_put _ rfl (.tmp 14) (.tmp 15) (.tmp 17) 50 48 (.inl rfl) Tryz.underlying50 b _ rfl hm7 (by rw [List.length_append]; omega) x (primv ⟨#[70, 70]⟩ (.func (.func 96) #[] #[.pointer (some ⟨w6.heap.size, 0, none⟩), .pointer (some ⟨w6.heap.size + 1, 0, none⟩)])) rfl rfl (by omega) ?_)
      intro w8 hm8 hgg
      have hg9 := Lib.hid (hg8.andThen hgg (fun _ e => .inr e))
      have hrg8 := Lib.hid (hrg7.kept hgg (by intro e; injection e with e; omega) (by intro e; injection e with e; omega))
      have hm9 := Lib.hid hm8
      have hs8 := hgg.size
      clear hm7 hg8 hrg7 hgg hm8
      go_wp2_with fail
      go_roundw
      case rel =>
        refine ⟨_, cnt6, _ :: Al1, hrg8.out, by simp only [List.length_cons]; omega, hm9.out, Lib.hid (fun z hz => ?_), hg9.out, by omega⟩
        rcases List.mem_cons.1 hz with rfl | hz
        · exact hx
        · exact Ahk.out z hz
      case measure => rw [hrg8.out.left_eq, hleq]; omega
end Go.Proofs.YtlodbibagmblkaaGreatDoor
