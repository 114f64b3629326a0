/- scan.Arity. -/
import Derived.Test.YtoklnpoacckbfaaGreatDoorKabc
import Derived.Test.YtoklnpoacckbfaaGreatDoorKabd
import Derived.Test.YtoklnpoacckbfaaGreatDoorKaai
namespace Go.Proofs.YtoklnpoacckbfaaGreatDoor
open Go Go.RowKit Go.Shelf
set_option maxRecDepth 100000 in
set_option maxHeartbeats 2000000 in
theorem arity1_any (s : ByteArray) (w : World) (hs : s.size ≤ 140737488355328) (hn : Pl.name s.data.toList = true) :
    Calls Tryz.prog 56 #[.string s] w fun e w' => e = .returned (.int .i64 0) ∧ Below w.heap.size w w' := by
  have HN := Lib.hid hn
  clear hn
  go_enter Tryz.func56, Tryz.ntmps56
  go_wp2_with fail
  refine (name_any s _ (by omega)).mono ?_
  rintro e w2 ⟨rfl, rfl⟩
  rw [HN.out]
  go_wp2_with fail
  refine bodyPost_ret (v := .int .i64 0) (by simp [results, Tryz.results56, go_sem]) rfl ⟨rfl, ?_⟩
  exact (Below.refl w.heap.size w).alloc (Nat.le_refl _) _
set_option maxRecDepth 100000 in
set_option maxHeartbeats 2000000 in
theorem arity2_any (w : World) :
    Calls Tryz.prog 56 #[.string ⟨#[]⟩] w fun e w' => e = .returned (.int .i64 (-1)) ∧ Below w.heap.size w w' := by
  go_enter Tryz.func56, Tryz.ntmps56
  go_wp2_with fail
  refine (name_any ⟨#[]⟩ _ (by decide)).mono ?_
  rintro e w2 ⟨rfl, rfl⟩
  rw [show Pl.name (⟨#[]⟩ : ByteArray).data.toList = false from rfl]
  go_wp2_with fail
  refine bodyPost_ret (v := .int .i64 (-1)) (by simp [results, Tryz.results56, go_sem]) rfl ⟨rfl, ?_⟩
  exact (Below.refl w.heap.size w).alloc (Nat.le_refl _) _
set_option maxRecDepth 100000 in
set_option maxHeartbeats 2000000 in
theorem arity3_any (s : ByteArray) (w : World) (hs : s.size ≤ 140737488355328) (hn : Pl.name s.data.toList = false) (hp : 0 < s.size) (hb : Pl.binary s[0].toNat = true ∨ s[0].toNat = 124) :
    Calls Tryz.prog 56 #[.string s] w fun e w' => e = .returned (.int .i64 (if Pl.signEnd s.data.toList 0 = s.size then 1 else -1)) ∧ Below w.heap.size w w' := by
  have HN := Lib.hid hn
  have HB := Lib.hid hb
  have he : s.toList.isEmpty = false := notempty s hp
  have he2 : (s.toList == []) = false := by cases h : s.toList <;> simp [h] at he ⊢
  have hb256 : s[0].toNat < 256 := UInt8.toNat_lt _
  clear hn hb
  go_enter Tryz.func56, Tryz.ntmps56
  go_wp2_with fail
  refine (name_any s _ (by omega)).mono ?_
  rintro e w2 ⟨rfl, rfl⟩
  rw [HN.out]
  go_wp2_with fail
  refine (binary_any s[0].toNat _ hb256).mono ?_
  rintro e w3 ⟨rfl, rfl⟩
  have hsg := fun w => sign_any s 0 w hp (by omega)
  have hlast : ∀ (v : World) (x : Int), Below w.heap.size w v → Below w.heap.size w (v.setCell ⟨w.heap.size, 0, none⟩ (.int .i64 x)) := fun v x h => h.setCell (Nat.le_refl _) _
  have key : ∀ w4 : World, Below (w.heap.size + 1) (w.alloc (.cells #[.int .i64 0] 3)) w4 → w4.cell? ⟨w.heap.size, 0, none⟩ = some (.int .i64 0) ∧ w4.frozen? ⟨w.heap.size, 0, none⟩ = false ∧ Below w.heap.size w w4 := by
    intro w4 h
    exact ⟨boxCells h rfl, by rw [h.frozen (p := ⟨w.heap.size, 0, none⟩) (by simp)]; simp [go_sem], ((Below.refl _ _).alloc (Nat.le_refl _) _).trans (h.mono (by simp))⟩
  cases hbin : Pl.binary s[0].toNat
  · have h124 : ((s[0].toNat : Int) == 124) = true := by
      have := HB.out; rw [hbin] at this; simp at this ⊢; omega
    go_wp2_with fail
    refine (hsg _).mono ?_
    rintro e w4 ⟨rfl, hb4⟩
    obtain ⟨d0, df, hbb⟩ := key w4 (hb4.mono (by simp))
    by_cases hE : Pl.signEnd s.data.toList 0 = s.size
    · rw [hE]
      go_wp2_with fail
      refine bodyPost_ret (v := .int .i64 1) (by simp [results, Tryz.results56, go_sem, d0]) rfl ⟨by simp, ?_⟩
      exact hlast _ _ hbb
    · have hEI : (((Pl.signEnd s.data.toList 0 : Nat) : Int) == (s.size : Int)) = false := by simp; omega
      go_wp2_with fail
      refine bodyPost_ret (v := .int .i64 (-1)) (by simp [results, Tryz.results56, go_sem, d0]) rfl ⟨rfl, ?_⟩
      exact hlast _ _ hbb
  · go_wp2_with fail
    refine (hsg _).mono ?_
    rintro e w4 ⟨rfl, hb4⟩
    obtain ⟨d0, df, hbb⟩ := key w4 (hb4.mono (by simp))
    by_cases hE : Pl.signEnd s.data.toList 0 = s.size
    · rw [hE]
      go_wp2_with fail
      refine bodyPost_ret (v := .int .i64 1) (by simp [results, Tryz.results56, go_sem, d0]) rfl ⟨by simp, ?_⟩
      exact hlast _ _ hbb
    · have hEI : (((Pl.signEnd s.data.toList 0 : Nat) : Int) == (s.size : Int)) = false := by simp; omega
      go_wp2_with fail
      refine bodyPost_ret (v := .int .i64 (-1)) (by simp [results, Tryz.results56, go_sem, d0]) rfl ⟨rfl, ?_⟩
      exact hlast _ _ hbb
attribute [local go_sem] Oper.semAt_some
theorem splitSeq_any (s p : ByteArray) (k : Int) (w : World) :
    Calls Tryz.prog 128 #[.string s, .string p, .int .i64 k] w fun e w' => e = .returned (.func (.func 178) #[] #[.pointer (some ⟨w.heap.size + 1, 0, none⟩), .pointer (some ⟨w.heap.size, 0, none⟩), .pointer (some ⟨w.heap.size + 2, 0, none⟩)]) ∧
      w' = ((w.alloc (.cells #[.string s] 9)).alloc (.cells #[.string p] 9)).alloc (.cells #[.int .i64 k] 3) := by
  go_enter Tryz.func128, Tryz.ntmps128
  go_wp2_with fail
  go_ret
  exact ⟨rfl, rfl⟩
theorem splitAfter_any (s p : ByteArray) (w : World) :
    Calls Tryz.prog 87 #[.string s, .string p] w fun e w' => e = .returned (.func (.func 178) #[] #[.pointer (some ⟨w.heap.size + 1, 0, none⟩), .pointer (some ⟨w.heap.size, 0, none⟩), .pointer (some ⟨w.heap.size + 2, 0, none⟩)]) ∧
      w' = ((w.alloc (.cells #[.string s] 9)).alloc (.cells #[.string p] 9)).alloc (.cells #[.int .i64 p.size] 3) := by
  go_enter Tryz.func87, Tryz.ntmps87
  go_wp2_with fail
  refine (splitSeq_any s p _ _).mono ?_
  rintro e w2 ⟨rfl, rfl⟩
  go_wp2_with fail
  go_ret
  exact ⟨rfl, rfl⟩
/-- all parts are names with a colon -/
def PartsOk (pre : List Part) : Prop := ∀ x ∈ partL pre, Pl.partOk x = true
def arityI (w : World) (b : Nat) (pre : List Part) (W : World) : Prop :=
  ((W.cell? ⟨b + 1, 0, none⟩ = some (.int .i64 pre.length) ∧ W.frozen? ⟨b + 1, 0, none⟩ = false) ∧ (W.cell? ⟨b, 0, none⟩ = some (.int .i64 0) ∧ W.frozen? ⟨b, 0, none⟩ = false) ∧ PartsOk pre) ∧ Below w.heap.size w W
def arityX (w : World) (b : Nat) (c : Code) (pre : List Part) (W : World) : Prop :=
  match c with
  | .ret => (W.cell? ⟨b, 0, none⟩ = some (.int .i64 (-1)) ∧ ∃ p x, pre = p ++ [x] ∧ PartsOk p ∧ Pl.partOk x.1.data.toList = false ∧ x.1.data.toList ≠ []) ∧ Below w.heap.size w W
  | .exit id => (id = 1 ∧ (W.cell? ⟨b + 1, 0, none⟩ = some (.int .i64 ((pre.length : Int) - 1)) ∧ W.frozen? ⟨b + 1, 0, none⟩ = false) ∧ (W.cell? ⟨b, 0, none⟩ = some (.int .i64 0) ∧ W.frozen? ⟨b, 0, none⟩ = false) ∧ ∃ p x, pre = p ++ [x] ∧ PartsOk p ∧ x.1.data.toList = []) ∧ Below w.heap.size w W
  | _ => False
theorem arity_ret {s : ByteArray} {p : List Part} {x : Part} (hp : PartsOk p) (hx : Pl.partOk x.1.data.toList = false) (hne : x.1.data.toList ≠ []) (h : SomeCame s (p ++ [x])) : Pl.keywords s.data.toList = -1 := by
  rcases h with ⟨q, i, he, hc, hi⟩ | ⟨q, i, j, he, hc, hj⟩
  · unfold partL at he
    rw [List.map_append, List.map_cons, List.map_nil] at he
    obtain ⟨h1, h2⟩ := List.append_inj' he rfl
    injection h2 with h2 _
    rw [hc.over (by rw [← h1]; exact hp) hi, if_neg (by rw [← h2]; exact hne)]
  · unfold partL at he
    rw [List.map_append, List.map_cons, List.map_nil] at he
    obtain ⟨h1, h2⟩ := List.append_inj' he rfl
    injection h2 with h2 _
    exact hc.bad (by rw [← h1]; exact hp) hj (by rw [← h2]; exact hx)
theorem arity_end {s : ByteArray} {p : List Part} {x : Part} (hp : PartsOk p) (hne : x.1.data.toList = []) (h : SomeCame s (p ++ [x])) : Pl.keywords s.data.toList = p.length := by
  rcases h with ⟨q, i, he, hc, hi⟩ | ⟨q, i, j, he, hc, hj⟩
  · unfold partL at he
    rw [List.map_append, List.map_cons, List.map_nil] at he
    obtain ⟨h1, h2⟩ := List.append_inj' he rfl
    injection h2 with h2 _
    rw [hc.over (by rw [← h1]; exact hp) hi, if_pos (by rw [← h2]; exact hne), ← h1, List.length_map]
  · unfold partL at he
    rw [List.map_append, List.map_cons, List.map_nil] at he
    obtain ⟨h1, h2⟩ := List.append_inj' he rfl
    injection h2 with h2 _
    rw [Pl.take_colon hj, hne] at h2
    simp at h2
theorem arity_all {s : ByteArray} {xs : List Part} (hp : PartsOk xs) (h : AllCame s xs) : False := by
  obtain ⟨q, i, he, hc, hi⟩ := h
  have := hp (s.data.toList.drop i) (by rw [he]; simp)
  rw [Pl.partOk_none hi] at this
  cases this
set_option maxRecDepth 100000 in
set_option maxHeartbeats 2000000 in
theorem arity4_any (s : ByteArray) (w : World) (hs : s.size ≤ 140737488355328) (hn : Pl.name s.data.toList = false) (hp : 0 < s.size) (hb : Pl.binary s[0].toNat = false ∧ s[0].toNat ≠ 124) :
    Calls Tryz.prog 56 #[.string s] w fun e w' => e = .returned (.int .i64 (Pl.keywords s.data.toList)) ∧ Below w.heap.size w w' := by
  refine (callsIn_wide (n := 4)).1 ?_
  refine callsIn_of_wp_marks Tryz.func56 rfl trivial ?_ rfl
  simp only [Tryz.ntmps56, List.size_toArray, List.length_cons, List.length_nil, Nat.reduceAdd, Nat.reduceSub, Array.replicate_succ, Array.replicate_zero, List.push_toArray, List.append_toArray, List.nil_append, List.cons_append]
  have he : s.toList.isEmpty = false := notempty s hp
  have he2 : (s.toList == []) = false := by cases h : s.toList <;> simp [h] at he ⊢
  have hb256 : s[0].toNat < 256 := UInt8.toNat_lt _
  have h124 : ((s[0].toNat : Int) == 124) = false := by simp; omega
  have HN := Lib.hid hn
  have HB := Lib.hid hb.1
  clear hn hb
  gi_wp2_with first
    | (refine ⟨trivial, ?_⟩; gi_at_call 59; refine (callsIn_wide.2 (name_any s _ (by omega))).mono ?_; rintro e w' ⟨rfl, rfl⟩; rw [HN.out])
    | (refine ⟨trivial, ?_⟩; gi_at_call 85; refine (callsIn_wide.2 (binary_any s[0].toNat _ hb256)).mono ?_; rintro e w' ⟨rfl, rfl⟩; rw [HB.out])
    | (refine ⟨trivial, ?_⟩; gi_at_call 87; refine (callsIn_wide.2 (splitAfter_any s ⟨#[58]⟩ _)).mono ?_; rintro e w' ⟨rfl, rfl⟩)
  obtain ⟨W1, hW1⟩ : ∃ W1, (w.alloc (.cells #[.int .i64 0] 3)).alloc (.cells #[.int .i64 0] 3) = W1 := ⟨_, rfl⟩
  have q0 : W1.cell? ⟨w.heap.size, 0, none⟩ = some (.int .i64 0) := by rw [← hW1]; simp [go_sem]
  have q1 : W1.cell? ⟨w.heap.size + 1, 0, none⟩ = some (.int .i64 0) := by rw [← hW1]; simp [go_sem]
  have qf0 : W1.frozen? ⟨w.heap.size, 0, none⟩ = false := by rw [← hW1]; simp only [frozen?_alloc_cells]; simp [World.frozen?]
  have qf1 : W1.frozen? ⟨w.heap.size + 1, 0, none⟩ = false := by rw [← hW1]; simp only [frozen?_alloc_cells]; simp [World.frozen?]
  have qb : Below w.heap.size w W1 := by rw [← hW1]; exact ((Below.refl _ _).alloc (Nat.le_refl _) _).alloc (by simp) _
  have qz : W1.heap.size = w.heap.size + 2 := by rw [← hW1]; simp
  rw [hW1]
  clear hW1
  obtain ⟨W2, hW2⟩ : ∃ W2, ((W1.alloc (.cells #[.string s] 9)).alloc (.cells #[.string ⟨#[58]⟩] 9)).alloc (.cells #[.int .i64 1] 3) = W2 := ⟨_, rfl⟩
  have k0 : W2.cell? ⟨w.heap.size + 2, 0, none⟩ = some (.string s) := by rw [← hW2, ← qz]; simp [go_sem]
  have k1 : W2.cell? ⟨w.heap.size + 2 + 1, 0, none⟩ = some (.string ⟨#[58]⟩) := by rw [← hW2, ← qz]; simp [go_sem]
  have k2 : W2.cell? ⟨w.heap.size + 2 + 2, 0, none⟩ = some (.int .i64 1) := by rw [← hW2, ← qz]; simp [go_sem]
  have kf : W2.frozen? ⟨w.heap.size + 2, 0, none⟩ = false := by rw [← hW2, ← qz]; simp only [frozen?_alloc_cells]; simp [World.frozen?]
  have kb : Below W1.heap.size W1 W2 := by rw [← hW2]; exact (((Below.refl _ _).alloc (Nat.le_refl _) _).alloc (by simp) _).alloc (by simp; omega) _
  have kz : W2.heap.size = w.heap.size + 5 := by rw [← hW2]; simp [qz]
  have m0 : W2.cell? ⟨w.heap.size, 0, none⟩ = some (.int .i64 0) := by rw [kb.cell (p := ⟨w.heap.size, 0, none⟩) (by simp; omega)]; exact q0
  have m1 : W2.cell? ⟨w.heap.size + 1, 0, none⟩ = some (.int .i64 0) := by rw [kb.cell (p := ⟨w.heap.size + 1, 0, none⟩) (by simp; omega)]; exact q1
  have mf0 : W2.frozen? ⟨w.heap.size, 0, none⟩ = false := by rw [kb.frozen (p := ⟨w.heap.size, 0, none⟩) (by simp; omega)]; exact qf0
  have mf1 : W2.frozen? ⟨w.heap.size + 1, 0, none⟩ = false := by rw [kb.frozen (p := ⟨w.heap.size + 1, 0, none⟩) (by simp; omega)]; exact qf1
  have mb : Below w.heap.size w W2 := qb.trans (kb.mono (by omega))
  rw [hW2]
  clear hW2 q0 q1 qf0 qf1 kb qb
  refine wpIn_rangeFunc_ownC (Bn := w.heap.size + 2) rfl (by omega) (gf := 178) (lb := #[.pointer (some ⟨w.heap.size + 2 + 1, 0, none⟩), .pointer (some ⟨w.heap.size + 2, 0, none⟩), .pointer (some ⟨w.heap.size + 2 + 2, 0, none⟩)]) rfl trivial
    (enters_of Tryz.func178 (by kernel_rfl) rfl) (split_stops s hs _ (w.heap.size + 2) (by omega) W2 (by omega) k0 k1 k2 kf) (fun h k => ⟨k.1.trans h.1, k.2.1.trans h.2.1, k.2.2.trans h.2.2⟩)
    (fun W l o o' hl _ _ _ => ⟨World.putObj_heap_other (by omega), World.putObj_heap_other (by omega), World.putObj_heap_other (by omega)⟩) (Below.refl _ _) (fun _ => rfl)
    (arityI w w.heap.size) (arityX w w.heap.size) ?own ?ownx ?set ?setx ?start
    (fun x => { tmps := #[.string s, undef, .pointer (some ⟨w.heap.size, 0, none⟩), .pointer (some ⟨w.heap.size + 1, 0, none⟩), .string x.1, undef, undef, .bool false, .string s, .bool false, .bool false, .string s, .bool false, .bool false, .string s, .int .u8 (s[0].toNat : Nat), .bool false, .bool false, .string s, .int .u8 (s[0].toNat : Nat), .bool false, .bool false, undef, undef, undef, undef, undef, .string s,
      .func (.func 178) #[] #[.pointer (some ⟨w.heap.size + 2 + 1, 0, none⟩), .pointer (some ⟨w.heap.size + 2, 0, none⟩), .pointer (some ⟨w.heap.size + 2 + 2, 0, none⟩)], .string x.1, undef, undef, undef, undef, undef, undef, undef, undef, undef, undef, undef, undef, undef, undef, undef, undef, undef], defers := [] }) ?assign ?body ?done ?stop
  case own => exact OwnFrom.and (Own.from (fun s A B row hs hg hr => ⟨⟨cell_kept hs.1.1 hg hr, (frozen_kept hs.1.1 hg hr).trans hs.1.2⟩, ⟨cell_kept hs.2.1.1 hg hr, (frozen_kept hs.2.1.1 hg hr).trans hs.2.1.2⟩, hs.2.2⟩) _) (ownFrom_below (Nat.le_refl _) (by omega))
  case ownx =>
    intro c
    cases c with
    | ret => exact OwnFrom.and (Own.from (fun s A B row hs hg hr => ⟨cell_kept hs.1 hg hr, hs.2⟩) _) (ownFrom_below (Nat.le_refl _) (by omega))
    | exit id => exact OwnFrom.and (Own.from (fun s A B row hs hg hr => ⟨hs.1, ⟨cell_kept hs.2.1.1 hg hr, (frozen_kept hs.2.1.1 hg hr).trans hs.2.1.2⟩, ⟨cell_kept hs.2.2.1.1 hg hr, (frozen_kept hs.2.2.1.1 hg hr).trans hs.2.2.1.2⟩, hs.2.2.2⟩) _) (ownFrom_below (Nat.le_refl _) (by omega))
    | _ => exact fun s W W' row hs _ _ => hs.elim
  case set =>
    rintro xs W v ⟨⟨⟨a1, a2⟩, ⟨a3, a4⟩, a5⟩, a6⟩
    have n0 : w.heap.size ≠ w.heap.size + 2 := by omega
    have n1 : w.heap.size + 1 ≠ w.heap.size + 2 := by omega
    exact ⟨⟨⟨by rw [World.cell?_of_block (Below.heap_setCell _ _ _ _ n1)]; exact a1, by rw [World.frozen?_setCell]; exact a2⟩, ⟨by rw [World.cell?_of_block (Below.heap_setCell _ _ _ _ n0)]; exact a3, by rw [World.frozen?_setCell]; exact a4⟩, a5⟩, a6.setCell (p := ⟨w.heap.size + 2, 0, none⟩) (by simp) _⟩
  case setx =>
    intro c xs W v h
    have n0 : w.heap.size ≠ w.heap.size + 2 := by omega
    have n1 : w.heap.size + 1 ≠ w.heap.size + 2 := by omega
    cases c with
    | ret =>
      obtain ⟨⟨a1, a2⟩, a3⟩ := h
      exact ⟨⟨by rw [World.cell?_of_block (Below.heap_setCell _ _ _ _ n0)]; exact a1, a2⟩, a3.setCell (p := ⟨w.heap.size + 2, 0, none⟩) (by simp) _⟩
    | exit id =>
      obtain ⟨⟨a0, ⟨a1, a2⟩, ⟨a3, a4⟩, a5⟩, a6⟩ := h
      exact ⟨⟨a0, ⟨by rw [World.cell?_of_block (Below.heap_setCell _ _ _ _ n1)]; exact a1, by rw [World.frozen?_setCell]; exact a2⟩, ⟨by rw [World.cell?_of_block (Below.heap_setCell _ _ _ _ n0)]; exact a3, by rw [World.frozen?_setCell]; exact a4⟩, a5⟩, a6.setCell (p := ⟨w.heap.size + 2, 0, none⟩) (by simp) _⟩
    | _ => exact h.elim
  case start => exact ⟨⟨⟨m1, mf1⟩, ⟨m0, mf0⟩, fun x hx => by cases hx⟩, mb⟩
  case assign =>
    intro l x W K hK
    gi_wp2
    exact hK
  case body =>
    rintro l pre x W ⟨⟨⟨a1, a2⟩, ⟨a3, a4⟩, a5⟩, a6⟩ hN
    have hpl : pre.length ≤ 140737488355330 := by omega
    have hx := x.2
    by_cases hemp : x.1.data.toList = []
    · have h1 : x.1 = ⟨#[]⟩ := by cases hh : x.1 with | mk d => rw [hh] at hemp; congr 1; simpa using hemp
      obtain ⟨x, hxx⟩ := x
      simp only at h1
      subst h1
      have A5 := Lib.hid a5
      clear a5
      gi_wp2
      exact ⟨KeepsOthers.refl _, ⟨rfl, ⟨by rw [a1]; simp, a2⟩, ⟨a3, a4⟩, pre, _, rfl, A5.out, rfl⟩, a6⟩
    · have e1 : x.1.toList.isEmpty = false := by rw [ByteArray.toList_eq]; cases hh : x.1.data.toList <;> simp [hh] at hemp ⊢
      have e2 : (x.1.toList == []) = false := by rw [ByteArray.toList_eq]; cases hh : x.1.data.toList <;> simp [hh] at hemp ⊢
      obtain ⟨T, hT⟩ : ∃ T : ByteArray, (⟨(Lib.trimSuffix x.1.data.toList [58]).toArray⟩ : ByteArray) = T := ⟨_, rfl⟩
      have hTs : T.size ≤ 140737488355328 := by
        have h1 := Lib.trimSuffix_le x.1.data.toList [58]
        have h2 : x.1.data.toList.length = x.1.size := by simp
        have h3 : T.size = (Lib.trimSuffix x.1.data.toList [58]).length := by rw [← hT]; show (Lib.trimSuffix x.1.data.toList [58]).toArray.size = _; rw [List.size_toArray]
        omega
      have hPN : Pl.partOk x.1.data.toList = (Lib.hasSuffix x.1.data.toList [58] && Pl.name T.data.toList) := by unfold Pl.partOk; rw [← hT]
      have HP := Lib.hid hPN
      have HT := Lib.hid hT
      have A5 := Lib.hid a5
      have HE := Lib.hid hemp
      clear hPN hT a5 hemp
      have hcut := fun W => Tryz.strings_CutSuffix x.1 ⟨#[58]⟩ W (by omega)
      rw [show (⟨#[58]⟩ : ByteArray).data.toList = [58] from rfl, HT.out] at hcut
      have KRET : ∀ W' : World, W' = W.setCell ⟨w.heap.size, 0, none⟩ (.int .i64 (-1)) → Pl.partOk x.1.data.toList = false → ownPostK (Kp3 (w.heap.size + 2)) (arityI w w.heap.size) (arityX w w.heap.size) (pre ++ [x]) W .ret { tmps := #[], defers := [] } W' := by
        rintro W' rfl hno
        exact ⟨KeepsOthers.setCell _ _ _, ⟨by rw [World.cell?_setCell_same' _ _ _ (by rw [a3]; rfl)], pre, x, rfl, A5.out, hno, HE.out⟩, a6.setCell (p := ⟨w.heap.size, 0, none⟩) (Nat.le_refl _) _⟩
      have KRET := Lib.hid KRET
      cases hsx : Lib.hasSuffix x.1.data.toList [58]
      · rw [hsx] at hcut
        have HNO := Lib.hid (show Pl.partOk x.1.data.toList = false by rw [HP.out, hsx]; rfl)
        clear hsx
        gi_wp2_with (refine ⟨trivial, ?_⟩; gi_at_call 88; refine (CallsIn.inRound l (callsIn_wide.2 (hcut _))).mono ?_; rintro e w' ⟨rfl, rfl⟩)
        refine ⟨trivial, ?_⟩
        gi_wp2
        exact KRET.out _ rfl HNO.out
      · rw [hsx] at hcut
        have HPT := Lib.hid (show Pl.partOk x.1.data.toList = Pl.name T.data.toList by rw [HP.out, hsx]; rfl)
        clear hsx
        have hnm := fun W => name_any T W (by omega)
        cases hnT : Pl.name T.data.toList
        · rw [hnT] at hnm
          have HNO := Lib.hid (HPT.out.trans hnT)
          clear hnT
          gi_wp2_with first
            | (refine ⟨trivial, ?_⟩; gi_at_call 88; refine (CallsIn.inRound l (callsIn_wide.2 (hcut _))).mono ?_; rintro e w' ⟨rfl, rfl⟩)
            | (refine ⟨trivial, ?_⟩; gi_at_call 59; refine (CallsIn.inRound l (callsIn_wide.2 (hnm _))).mono ?_; rintro e w' ⟨rfl, rfl⟩)
          exact KRET.out _ rfl HNO.out
        · rw [hnT] at hnm
          have HYES := Lib.hid (HPT.out.trans hnT)
          clear hnT
          gi_wp2_with first
            | (refine ⟨trivial, ?_⟩; gi_at_call 88; refine (CallsIn.inRound l (callsIn_wide.2 (hcut _))).mono ?_; rintro e w' ⟨rfl, rfl⟩)
            | (refine ⟨trivial, ?_⟩; gi_at_call 59; refine (CallsIn.inRound l (callsIn_wide.2 (hnm _))).mono ?_; rintro e w' ⟨rfl, rfl⟩)
          have hz := a6.size
          have n0 : w.heap.size ≠ w.heap.size + 1 := by omega
          refine ⟨KeepsOthers.setCell _ _ _, ⟨Below.heap_setCell _ _ _ _ (by simp), Below.heap_setCell _ _ _ _ (by simp), Below.heap_setCell _ _ _ _ (by simp)⟩,
            ⟨⟨by rw [World.cell?_setCell_same' _ _ _ (by rw [a1]; rfl)]; simp, by rw [World.frozen?_setCell]; exact a2⟩, ⟨by rw [World.cell?_of_block (Below.heap_setCell _ _ _ _ n0)]; exact a3, by rw [World.frozen?_setCell]; exact a4⟩, ?_⟩, a6.setCell (p := ⟨w.heap.size + 1, 0, none⟩) (by simp) _⟩
          intro y hy
          unfold partL at hy
          rw [List.map_append, List.mem_append] at hy
          rcases hy with hy | hy
          · exact A5.out y hy
          · simp only [List.map_cons, List.map_nil, List.mem_singleton] at hy
            rw [hy]; exact HYES.out
  case done =>
    rintro D xs W _ hS ⟨⟨_, _, hok⟩, _⟩ _
    exact (arity_all hok hS).elim
  case stop =>
    intro D c pre W hD hS h hK
    cases c with
    | ret =>
      obtain ⟨⟨a1, p, x, rfl, hp, hx, hne⟩, a3⟩ := h
      have HR := Lib.hid (arity_ret hp hx hne hS)
      clear hS hp hx hne
      gi_wp2
      have g0 : (W.putObj D (.deferred none)).cell? ⟨w.heap.size, 0, none⟩ = some (.int .i64 (-1)) := by rw [World.cell?_of_block (World.putObj_heap_other (by simp; omega))]; exact a1
      refine ⟨by simp, .inl ⟨_, _, rfl, run_takeDeferred hK, ?_⟩⟩
      exact ⟨.int .i64 (-1), by simp [results, Tryz.results56, go_sem, g0], by rw [HR.out], a3.trans (belowK_b (w := w) (Nat.le_refl _) W D _ _ (by omega) hK rfl rfl)⟩
    | exit id =>
      obtain ⟨⟨rfl, ⟨a1, a2⟩, ⟨a3, a4⟩, p, x, rfl, hp, hne⟩, a6⟩ := h
      have HR := Lib.hid (arity_end hp hne hS)
      clear hS hp hne
      gi_wp2
      have hK2 := (KeepsOthers.setCell W ⟨w.heap.size, 0, none⟩ (.int .i64 p.length)).same D _ hK rfl
      have g0 : ((W.setCell ⟨w.heap.size, 0, none⟩ (.int .i64 p.length)).putObj D (.deferred none)).cell? ⟨w.heap.size, 0, none⟩ = some (.int .i64 p.length) := by
        rw [World.cell?_of_block (World.putObj_heap_other (by simp; omega)), World.cell?_setCell_same' _ _ _ (by rw [a3]; rfl)]
      refine ⟨by simp, .inl ⟨_, _, rfl, run_takeDeferred hK2, ?_⟩⟩
      exact ⟨.int .i64 p.length, by simp [results, Tryz.results56, go_sem, g0], by rw [HR.out], (a6.setCell (p := ⟨w.heap.size, 0, none⟩) (Nat.le_refl _) _).trans (belowK_b (w := w) (Nat.le_refl _) _ D _ _ (by omega) hK2 rfl rfl)⟩
    | _ => exact h.elim
/-- scan.Arity -/
theorem arity_any (s : ByteArray) (w : World) (hs : s.size ≤ 140737488355328) :
    Calls Tryz.prog 56 #[.string s] w fun e w' => e = .returned (.int .i64 (Pl.arity s.data.toList)) ∧ Below w.heap.size w w' := by
  have ls : s.data.toList.length = s.size := by simp
  by_cases h0 : s.size = 0
  · have hnil : s.data.toList = [] := List.eq_nil_of_length_eq_zero (by omega)
    obtain rfl : s = ⟨#[]⟩ := by cases s with | mk d => congr 1; simpa using hnil
    exact arity2_any w
  have hne : s.data.toList ≠ [] := by intro e; rw [e] at ls; simp at ls; omega
  cases hn : Pl.name s.data.toList with
  | true => 
    have e : Pl.arity s.data.toList = 0 := by unfold Pl.arity; rw [if_neg hne, if_pos hn]
    rw [e]; exact arity1_any s w hs hn
  | false =>
    have hp : 0 < s.size := by omega
    have hpk : Pl.peek s.data.toList 0 = s[0].toNat := Pl.peek_at (by omega)
    by_cases hb : Pl.binary s[0].toNat = true ∨ s[0].toNat = 124
    · have e : Pl.arity s.data.toList = if Pl.signEnd s.data.toList 0 = s.size then 1 else -1 := by
        unfold Pl.arity; rw [if_neg hne, if_neg (by rw [hn]; decide), hpk, if_pos hb, ls]
      rw [e]; exact arity3_any s w hs hn hp hb
    · have e : Pl.arity s.data.toList = Pl.keywords s.data.toList := by
        unfold Pl.arity; rw [if_neg hne, if_neg (by rw [hn]; decide), hpk, if_neg hb]
      rw [e]
      refine arity4_any s w hs hn hp ⟨?_, fun h => hb (.inr h)⟩
      cases h : Pl.binary s[0].toNat
      · rfl
      · exact absurd (.inl h) hb
end Go.Proofs.YtoklnpoacckbfaaGreatDoor
