/- Blocks of two cells: locals that hold a number or a large number. Bytes turned round, sought: the contracts of slices.Reverse, slices.Index, slices.Contains. Sums of numbers with signs: the contract of number.add. Large numbers as words, and back: the contracts of two, told. Numbers told: the contract of told, both ways. A quotient of words: the contract of div where the divisor is greater, or one word. -/
import Derived.Test.YtlodbibagmblkaaGreatDoorTaaj
import Derived.Deep.RegionHeld3
namespace Go.Proofs.YtlodbibagmblkaaGreatDoor
open Go.RowKit Go.Lib
/-- a block of two cells -/
def P2 (W : World) (k : Nat) (T : TypeId) (a b : Value) : Prop := W.heap[k]? = some (.cells #[a, b] T)
theorem P2.new (w : World) (T : TypeId) (a b : Value) : P2 (w.alloc (.cells #[a, b] T)) w.heap.size T a b := heap_alloc_at _ _
theorem P2.lt {W : World} {k : Nat} {T : TypeId} {a b : Value} (h : P2 W k T a b) : k < W.heap.size := (Array.getElem?_eq_some_iff.1 h).1
theorem P2.below {W W' : World} {k : Nat} {T : TypeId} {a b : Value} (h : P2 W k T a b) (hb : Below W.heap.size W W') : P2 W' k T a b := by
  unfold P2; rw [hb.block _ h.lt]; exact h
theorem P2.under {W W' : World} {k B : Nat} {T : TypeId} {a b : Value} (h : P2 W k T a b) (hb : Below B W W') (hk : k < B) : P2 W' k T a b := by
  unfold P2; rw [hb.block _ hk]; exact h
theorem P2.alloc {W : World} {k : Nat} {T : TypeId} {a b : Value} (h : P2 W k T a b) (o : Obj) : P2 (W.alloc o) k T a b := h.below ((Below.refl _ _).alloc (Nat.le_refl _) _)
theorem P2.drew {W : World} {k : Nat} {T : TypeId} {a b : Value} (h : P2 W k T a b) : P2 W.drew k T a b := h
theorem P2.cells {W : World} {k : Nat} {T : TypeId} {a b : Value} (h : P2 W k T a b) : W.cell? ⟨k, 0, none⟩ = some a ∧ W.cell? ⟨k, 1, none⟩ = some b ∧ W.frozen? ⟨k, 0, none⟩ = false ∧ W.frozen? ⟨k, 1, none⟩ = false := by
  unfold P2 at h
  refine ⟨?_, ?_, ?_, ?_⟩
  · simp [World.cell?, h]
  · simp [World.cell?, h]
  · simp [World.frozen?, h]
  · simp [World.frozen?, h]
theorem P2.set {W : World} {k : Nat} {T : TypeId} {a b : Value} (h : P2 W k T a b) (x y : Value) : P2 ((W.setCell ⟨k, 0, none⟩ x).setCell ⟨k, 1, none⟩ y) k T x y := by
  unfold P2 at *
  simp only [World.setCell, Array.getElem?_modify, if_pos, h]
  rfl
theorem P2.set0 {W : World} {k : Nat} {T : TypeId} {a b : Value} (h : P2 W k T a b) (x : Value) : P2 (W.setCell ⟨k, 0, none⟩ x) k T x b := by
  unfold P2 at *
  simp only [World.setCell, Array.getElem?_modify, if_pos, h]
  rfl
theorem P2.set1 {W : World} {k : Nat} {T : TypeId} {a b : Value} (h : P2 W k T a b) (x : Value) : P2 (W.setCell ⟨k, 1, none⟩ x) k T a x := by
  unfold P2 at *
  simp only [World.setCell, Array.getElem?_modify, if_pos, h]
  rfl
theorem P2.other {W : World} {k j i : Nat} {T : TypeId} {a b x : Value} (h : P2 W k T a b) (hne : j ≠ k) : P2 (W.setCell ⟨j, i, none⟩ x) k T a b := by
  unfold P2 at *
  simp only [World.setCell, Array.getElem?_modify, if_neg hne]
  exact h
theorem P2.both {W : World} {k j : Nat} {T : TypeId} {a b x y : Value} (h : P2 W k T a b) (hne : j ≠ k) : P2 ((W.setCell ⟨j, 0, none⟩ x).setCell ⟨j, 1, none⟩ y) k T a b := (h.other hne).other hne
theorem below_set2 {w W : World} {k B : Nat} (hb : Below B w W) (hk : B ≤ k) (x y : Value) : Below B w ((W.setCell ⟨k, 0, none⟩ x).setCell ⟨k, 1, none⟩ y) :=
  (hb.setCell (p := ⟨k, 0, none⟩) hk _).setCell (p := ⟨k, 1, none⟩) hk _
/-- words lie where no such block is -/
theorem Rd.clear {W : World} {k i : Nat} {T : TypeId} {a b x v : Value} {xs : List Nat} (h : Rd W v xs) (hk : P2 W k T a b) (ha : ∀ n, a ≠ .int .u32 n) : Rd (W.setCell ⟨k, i, none⟩ x) v xs := by
  rcases h with h | ⟨g, cap, h1, h2, h3, h4⟩
  · exact .inl h
  · refine .inr ⟨g, cap, h1, h2, by simpa [World.setCell] using h3, fun j y hj => ?_⟩
    have hne : (⟨k, i, none⟩ : Addr) ≠ ⟨g, j, none⟩ := by
      intro e
      injection e with e1 _
      subst e1
      have h0 : 0 < xs.length := by have := (List.getElem?_eq_some_iff.1 hj).1; omega
      have := h4 0 _ (List.getElem?_eq_getElem h0)
      rw [hk.cells.1] at this
      injection this with this
      exact ha _ this
    rw [World.cell?_setCell_other _ _ _ _ hne]
    exact h4 j y hj
theorem Rd.clear2 {W : World} {k : Nat} {T : TypeId} {a b x y v : Value} {xs : List Nat} (h : Rd W v xs) (hk : P2 W k T a b) (ha : ∀ n, a ≠ .int .u32 n) (hx : ∀ n, x ≠ .int .u32 n) : Rd ((W.setCell ⟨k, 0, none⟩ x).setCell ⟨k, 1, none⟩ y) v xs :=
  (h.clear hk ha).clear (hk.set0 x) hx
/-- a signed number -/
def sg (neg : Bool) (V : Nat) : Int := if neg then -(V : Int) else V
theorem sg_of (n : Int) : sg (decide (n < 0)) n.natAbs = n := by
  unfold sg
  by_cases h : n < 0
  · rw [decide_eq_true h, if_pos rfl]; omega
  · rw [decide_eq_false h]; simp; omega
/-- A number comes out. -/
def NumOk (w : World) (n : Int) (e : Ending) (w' : World) : Prop := ∃ v neg V, e = .returned (.agg #[v, .bool neg]) ∧ Rd w' v (Pl.wd V) ∧ sg neg V = n ∧ Below w.heap.size w w'
end Go.Proofs.YtlodbibagmblkaaGreatDoor
namespace Go.Proofs.YtlodbibagmblkaaGreatDoor
open Go.RowKit Go.Lib
namespace Pl
/-- a list with its first and last k turned round -/
def revk (l : List UInt8) (k : Nat) : List UInt8 := (List.range l.length).map fun i => if i < k ∨ l.length - k ≤ i then l.getD (l.length - 1 - i) 0 else l.getD i 0
theorem revk_len (l : List UInt8) (k : Nat) : (revk l k).length = l.length := by simp [revk]
theorem revk_zero (l : List UInt8) : revk l 0 = l := by
  apply List.ext_getElem
  · simp [revk]
  · intro i h1 h2
    simp only [revk, List.getElem_map, List.getElem_range]
    rw [if_neg (by omega), List.getD_eq_getElem?_getD, List.getElem?_eq_getElem h2]; rfl
theorem revk_end {l : List UInt8} {k : Nat} (h : l.length ≤ 2 * k + 1) (hk : k ≤ l.length) : revk l k = l.reverse := by
  apply List.ext_getElem
  · simp [revk]
  · intro i h1 h2
    rw [revk_len] at h1
    simp only [revk, List.getElem_map, List.getElem_range, List.getElem_reverse]
    by_cases hc : i < k ∨ l.length - k ≤ i
    · rw [if_pos hc, List.getD_eq_getElem?_getD, List.getElem?_eq_getElem (by omega)]; rfl
    · rw [if_neg hc, List.getD_eq_getElem?_getD, List.getElem?_eq_getElem h1]
      have : i = l.length - 1 - i := by omega
      show l[i] = _
      congr 1
theorem revk_get {l : List UInt8} {k i : Nat} (h1 : k ≤ i) (h2 : i < l.length - k) (h3 : i < l.length) : (revk l k)[i]? = some (l.getD i 0) := by
  rw [List.getElem?_eq_getElem (by rw [revk_len]; exact h3)]
  simp only [revk, List.getElem_map, List.getElem_range]
  rw [if_neg (by omega)]
theorem revk_succ {l : List UInt8} {k : Nat} (h : 2 * k + 1 < l.length) : revk l (k + 1) = ((revk l k).set k (l.getD (l.length - 1 - k) 0)).set (l.length - 1 - k) (l.getD k 0) := by
  apply List.ext_getElem
  · simp [revk]
  · intro i h1 h2
    rw [revk_len] at h1
    simp only [List.getElem_set, revk, List.getElem_map, List.getElem_range]
    by_cases e1 : l.length - 1 - k = i
    · rw [if_pos e1, if_pos (by omega)]
      congr 1; omega
    · rw [if_neg e1]
      by_cases e2 : k = i
      · rw [if_pos e2, if_pos (by omega)]
        congr 1; omega
      · rw [if_neg e2]
        by_cases hc : i < k ∨ l.length - k ≤ i
        · rw [if_pos hc, if_pos (by omega)]
        · rw [if_neg hc, if_neg (by omega)]
end Pl
theorem bc_set (l : List UInt8) (k : Nat) (c : UInt8) : bc (l.set k c) = (bc l).set k (.int .u8 c.toNat) := by simp [bc, List.map_set]
theorem bc_get {l : List UInt8} {k : Nat} {c : UInt8} (h : l[k]? = some c) : (bc l)[k]? = some (.int .u8 c.toNat) := by simp [bc, h]
def Own1 (w : World) (base : Nat) (v : Value) (l : List UInt8) : Prop := Owns w base 5 1 v l.length (bc l)
set_option maxRecDepth 4000 in
set_option maxHeartbeats 2000000 in
theorem reverse_any (v : Value) (l : List UInt8) (base : Nat) (w : World) (ho : Own1 w base v l) (hl : l.length ≤ 1000000) :
    Calls Tryz.prog 87 #[v] w fun e w' => e = .returned (.tuple #[]) ∧ Own1 w' base v l.reverse ∧ Below base w w' ∧ w.heap.size ≤ w'.heap.size := by
  obtain ⟨n, hn⟩ : ∃ n, l.length = n := ⟨_, rfl⟩
  have HO := Lib.hid ho
  have HN := Lib.hid hn
  obtain ⟨va, vc, hv⟩ := ho.form
  rw [hn] at hv hl
  subst hv
  clear ho hn
  go_enter Tryz.func87, Tryz.ntmps87
  go_wp2_with fail
  go_loopw [2, 3] (fun i j wr => ∃ k : Nat, 2 * k ≤ n + 1 ∧ k ≤ n ∧ i = .int .i64 k ∧ j = .int .i64 ((n : Int) - 1 - k) ∧ Own1 wr base (.slice va n vc) (Pl.revk l k) ∧ Below base w wr ∧ w.heap.size ≤ wr.heap.size) (fun i _ _ => n + 1 - (RowKit.intOf i).toNat)
  case atStart => exact ⟨0, by omega, by omega, rfl, by simp, by rw [Pl.revk_zero]; exact HO.out, Below.refl _ _, Nat.le_refl _⟩
  case round =>
    obtain ⟨k, hk, hk2, rfl, rfl, hown, hb, hsz⟩ := hrel
    have HOW := Lib.hid hown
    have HB := Lib.hid hb
    by_cases hlt : 2 * k + 1 < n
    · have hd : decide ((k : Int) < (n : Int) - 1 - (k : Int)) = true := decide_eq_true (by omega)
      have hown' : Owns wr base 5 1 (.slice va n vc) n (bc (Pl.revk l k)) := by
        have := hown
        unfold Own1 at this
        rw [Pl.revk_len, HN.out] at this
        exact this
      obtain ⟨g, cap, hv, hbg, hgs, hcap⟩ := Owns.some_of hown' (by omega)
      injection hv with hva hvn hvc
      subst hva hvc
      obtain ⟨m, hm⟩ : ∃ m, n - 1 - k = m := ⟨_, rfl⟩
      have hmI : (n : Int) - 1 - (k : Int) = (m : Int) := by omega
      rw [hmI] at hd ⊢
      have c1 := hown'.cellAt (bc_get (Pl.revk_get (l := l) (k := k) (i := k) (Nat.le_refl _) (by rw [HN.out]; omega) (by rw [HN.out]; omega)))
      have c2 := hown'.cellAt (bc_get (Pl.revk_get (l := l) (k := k) (i := m) (by omega) (by rw [HN.out]; omega) (by rw [HN.out]; omega)))
      have f1 := hown'.free (j := k) (by omega)
      have f2 := hown'.free (j := m) (by omega)
      have hne : (⟨g, k, none⟩ : Addr) ≠ ⟨g, m, none⟩ := by intro e; injection e with _ e; omega
      have HNEW : Hid (Own1 ((wr.setCell ⟨g, k, none⟩ (.int .u8 (l.getD m 0).toNat)).setCell ⟨g, m, none⟩ (.int .u8 (l.getD k 0).toNat)) base (.slice (some ⟨g, 0, none⟩) n vc) (Pl.revk l (k + 1))) := Lib.hid (by
        have h1 := (hown'.stored (j := k) (.int .u8 (l.getD m 0).toNat)).stored (j := m) (.int .u8 (l.getD k 0).toNat)
        unfold Own1
        rw [Pl.revk_succ (by rw [HN.out]; exact hlt), bc_set, bc_set, List.length_set, List.length_set, Pl.revk_len, HN.out, hm]
        exact h1)
      have HB2 : Hid (Below base w ((wr.setCell ⟨g, k, none⟩ (.int .u8 (l.getD m 0).toNat)).setCell ⟨g, m, none⟩ (.int .u8 (l.getD k 0).toNat))) := Lib.hid ((hb.setCell (p := ⟨g, k, none⟩) hbg _).setCell (p := ⟨g, m, none⟩) hbg _)
      clear hown hown' hb
      go_wp2_with fail
      go_region
      go_wp2_with fail
      go_roundw
      case rel => exact ⟨k + 1, by omega, by omega, by go_num, by congr 1; omega, HNEW.out, HB2.out.drew, by simpa [World.setCell] using hsz⟩
      case measure => simp [RowKit.intOf]; omega
    · have hd : decide ((k : Int) < (n : Int) - 1 - (k : Int)) = false := decide_eq_false (by omega)
      have HR := Lib.hid (Pl.revk_end (l := l) (k := k) (by rw [HN.out]; omega) (by rw [HN.out]; exact hk2))
      clear hown hb
      go_wp2_with fail
      go_end0
      exact ⟨rfl, by rw [← HR.out]; exact HOW.out, HB.out, hsz⟩
/-- A slice that reads as bytes. -/
def Rd1 (w : World) (v : Value) (l : List UInt8) : Prop := ∃ g cap, v = .slice (some ⟨g, 0, none⟩) l.length cap ∧ g < w.heap.size ∧ ∀ (j : Nat) (x : UInt8), l[j]? = some x → w.cell? ⟨g, j, none⟩ = some (.int .u8 x.toNat)
theorem Rd1.below {w w' : World} {v : Value} {l : List UInt8} (h : Rd1 w v l) {B : Nat} (hb : Below B w w') (hB : ∀ k, v.ownBlock = some k → k < B) : Rd1 w' v l := by
  obtain ⟨g, cap, rfl, h1, h2⟩ := h
  exact ⟨g, cap, rfl, Nat.lt_of_lt_of_le h1 hb.size, fun j x hj => by rw [hb.cell (p := ⟨g, j, none⟩) (hB g rfl)]; exact h2 j x hj⟩
theorem Rd1.lt {w : World} {v : Value} {l : List UInt8} (h : Rd1 w v l) : ∀ k, v.ownBlock = some k → k < w.heap.size := by
  obtain ⟨g, cap, rfl, h1, h2⟩ := h
  intro k hk
  simp [Value.ownBlock] at hk
  subst hk
  exact h1
/-- where a byte stands; -1: nowhere -/
def Pl.IdxIs (l : List UInt8) (c : UInt8) (r : Int) : Prop := (∃ k : Nat, l[k]? = some c ∧ r = k) ∨ (c ∉ l ∧ r = -1)
set_option maxHeartbeats 1000000 in
theorem index_any (v : Value) (l : List UInt8) (c : UInt8) (w : World) (h : Rd1 w v l) (hl : l.length ≤ 1000000) :
    Calls Tryz.prog 132 #[v, .int .u8 c.toNat] w fun e w' => ∃ r, e = .returned (.int .i64 r) ∧ Pl.IdxIs l c r ∧ w = w' := by
  obtain ⟨g, cap, rfl, hg, hc⟩ := h
  obtain ⟨n, hn⟩ : ∃ n, l.length = n := ⟨_, rfl⟩
  have HC := Lib.hid hc
  have HN := Lib.hid hn
  rw [hn] at hl ⊢
  clear hc hn
  go_enter Tryz.func132, Tryz.ntmps132
  go_wp2_with fail
  go_loop [8] (fun i => ∃ k : Nat, k ≤ n ∧ i = .int .i64 k ∧ Hid (c ∉ l.take k)) (fun i => n - (RowKit.intOf i).toNat)
  case atStart => exact ⟨0, Nat.zero_le _, rfl, Lib.hid (by simp)⟩
  case round =>
    obtain ⟨k, hk, rfl, hno⟩ := hrel
    by_cases hlt : k < n
    · have hkl : k < l.length := by rw [HN.out]; exact hlt
      obtain ⟨d, hd⟩ : ∃ d, l[k] = d := ⟨_, rfl⟩
      have hcell := HC.out k d (by rw [List.getElem?_eq_getElem hkl, hd])
      by_cases e : c = d
      · subst e
        have HR : Hid (Pl.IdxIs l c k) := Lib.hid (.inl ⟨k, by rw [List.getElem?_eq_getElem hkl, hd], rfl⟩)
        clear hd hkl
        go_wp2_with fail
        go_ret
        exact ⟨_, rfl, HR.out, rfl⟩
      · have hne : ((c.toNat : Int) == (d.toNat : Int)) = false := by
          rw [beq_eq_false_iff_ne]
          intro h
          exact e (UInt8.toNat_inj.1 (by omega))
        have HN2 : Hid (c ∉ l.take (k + 1)) := Lib.hid (by
          rw [List.take_succ_eq_append_getElem hkl, List.mem_append, List.mem_singleton, hd]
          intro h
          rcases h with h | h
          · exact hno.out h
          · exact e h)
        clear e hd hkl
        go_wp2_with fail
        go_round
        case rel => exact ⟨k + 1, by omega, by go_num, HN2⟩
        case measure => simp [RowKit.intOf]; omega
    · obtain rfl : k = n := by omega
      have HR : Hid (Pl.IdxIs l c (-1)) := Lib.hid (.inr ⟨by
        have := hno.out
        rwa [List.take_of_length_le (by rw [HN.out]; exact Nat.le_refl _)] at this, rfl⟩)
      go_wp2_with fail
      go_ret
      exact ⟨_, rfl, HR.out, rfl⟩
set_option maxHeartbeats 1000000 in
theorem contains_any (v : Value) (l : List UInt8) (c : UInt8) (w : World) (h : Rd1 w v l) (hl : l.length ≤ 1000000) :
    Calls Tryz.prog 130 #[v, .int .u8 c.toNat] w fun e w' => e = .returned (.bool (decide (c ∈ l))) ∧ w = w' := by
  have HI := Lib.hid (index_any v l c w h hl)
  obtain ⟨g, cap, rfl, hg, hc⟩ := h
  generalize l.length = n at *
  go_enter Tryz.func130, Tryz.ntmps130
  go_wp2_with fail
  refine HI.out.mono ?_
  rintro e w' ⟨r, rfl, hr, rfl⟩
  have hd : decide (0 ≤ r) = decide (c ∈ l) := by
    rcases hr with ⟨k, hk, rfl⟩ | ⟨hk, rfl⟩
    · rw [decide_eq_true (by omega), decide_eq_true (List.mem_of_getElem? hk)]
    · rw [decide_eq_false hk]; rfl
  have HD := Lib.hid hd
  clear hr hd
  go_wp2_with fail
  go_ret
  exact ⟨by rw [← HD.out]; rfl, rfl⟩
end Go.Proofs.YtlodbibagmblkaaGreatDoor
namespace Go.Proofs.YtlodbibagmblkaaGreatDoor
open Go.RowKit Go.Lib
theorem chain {w w1 w2 : World} {B : Nat} (h1 : Below B w w1) (h2 : Below w1.heap.size w1 w2) (hB : B ≤ w1.heap.size) : Below B w w2 := h1.trans (h2.mono hB)
set_option maxRecDepth 4000 in
set_option maxHeartbeats 2000000 in
theorem numadd_any (vx vy : Value) (na nb : Bool) (a b : Nat) (w : World) (hx : Rd w vx (Pl.wd a)) (hy : Rd w vy (Pl.wd b)) (la : (Pl.wd a).length ≤ 2500) (lb : (Pl.wd b).length ≤ 2500) :
    Calls Tryz.prog 67 #[.agg #[vx, .bool na], .agg #[vy, .bool nb]] w (NumOk w (sg na a + sg nb b)) := by
  have HADD : Hid (∀ W, Below w.heap.size w W → Calls Tryz.prog 85 #[vx, vy] W (NatOk W (a + b))) := Lib.hid (fun W hb => by
    have := nadd_any vx vy _ _ W (hx.below hb) (hy.below hb) (by omega) (by omega) (Pl.wd_ws a) (Pl.wd_ws b)
    rwa [Pl.wd_num, Pl.wd_num] at this)
  have HCMP : Hid (∀ W, Below w.heap.size w W → Calls Tryz.prog 134 #[vx, vy] W (fun e w' => e = .returned (.int .i64 (Pl.ordn a b)) ∧ Below W.heap.size W w')) := Lib.hid (fun W hb => by
    have := ncmp_any vx vy _ _ W (hx.below hb) (hy.below hb) (by omega) (by omega) (Pl.wd_ws a) (Pl.wd_ws b)
    rwa [Pl.wd_num, Pl.wd_num] at this)
  have HSUB : Hid (∀ W, Below w.heap.size w W → b ≤ a → Calls Tryz.prog 135 #[vx, vy] W (NatOk W (a - b))) := Lib.hid (fun W hb h => by
    have := nsub_any vx vy _ _ W (hx.below hb) (hy.below hb) (by omega) (Pl.wd_len_le h) (Pl.wd_ws a) (Pl.wd_ws b) (by rw [Pl.wd_num, Pl.wd_num]; exact h)
    rwa [Pl.wd_num, Pl.wd_num] at this)
  have HSUB2 : Hid (∀ W, Below w.heap.size w W → a ≤ b → Calls Tryz.prog 135 #[vy, vx] W (NatOk W (b - a))) := Lib.hid (fun W hb h => by
    have := nsub_any vy vx _ _ W (hy.below hb) (hx.below hb) (by omega) (Pl.wd_len_le h) (Pl.wd_ws b) (Pl.wd_ws a) (by rw [Pl.wd_num, Pl.wd_num]; exact h)
    rwa [Pl.wd_num, Pl.wd_num] at this)
  obtain ⟨xa, xc, rfl⟩ := hx.form
  obtain ⟨ya, yc, rfl⟩ := hy.form
  generalize (Pl.wd a).length = n at *
  generalize (Pl.wd b).length = m at *
  clear hx hy la lb
  obtain ⟨W3, hW3⟩ : ∃ W3, ((w.alloc (.cells #[.slice xa n xc, .bool na] 92)).alloc (.cells #[.slice ya m yc, .bool nb] 92)).alloc (.cells #[.slice none 0 0, .bool false] 92) = W3 := ⟨_, rfl⟩
  have P0 : Hid (P2 W3 w.heap.size 92 (.slice xa n xc) (.bool na)) := Lib.hid (by rw [← hW3]; exact ((P2.new _ _ _ _).alloc _).alloc _)
  have P1 : Hid (P2 W3 (w.heap.size + 1) 92 (.slice ya m yc) (.bool nb)) := Lib.hid (by
    rw [← hW3]
    have := (P2.new (w.alloc (.cells #[.slice xa n xc, .bool na] 92)) 92 (.slice ya m yc) (.bool nb)).alloc (.cells #[.slice none 0 0, .bool false] 92)
    simpa using this)
  have PR : Hid (P2 W3 (w.heap.size + 2) 92 (.slice none 0 0) (.bool false)) := Lib.hid (by
    rw [← hW3]
    have := P2.new ((w.alloc (.cells #[.slice xa n xc, .bool na] 92)).alloc (.cells #[.slice ya m yc, .bool nb] 92)) 92 (.slice none 0 0) (.bool false)
    simpa using this)
  have HB3 : Hid (Below w.heap.size w W3) := Lib.hid (by rw [← hW3]; exact (((Below.refl _ _).alloc (Nat.le_refl _) _).alloc (by simp) _).alloc (by simp; omega) _)
  have hs3 : w.heap.size + 3 ≤ W3.heap.size := by rw [← hW3]; simp
  have hW3' := Lib.hid hW3
  obtain ⟨p0, p1, p2, p3⟩ := P0.out.cells
  obtain ⟨q0, q1, q2, q3⟩ := P1.out.cells
  by_cases hs : na = nb
  · subst hs
    go_enter Tryz.func67, Tryz.ntmps67
    go_wp2_with fail
    go_region_held3 (fun W => W.cell? ⟨w.heap.size, 0, none⟩ = some (.slice xa n xc) ∧ W.cell? ⟨w.heap.size, 1, none⟩ = some (.bool na) ∧ W.cell? ⟨w.heap.size + 1, 0, none⟩ = some (.slice ya m yc)) (first | exact ⟨p0, p1, q0⟩ | exact ⟨pp0, pp1, qq0⟩ | exact ⟨(P04.both (by omega)).cells.1, (P04.both (by omega)).cells.2.1, (P14.both (by omega)).cells.1⟩ | (refine ⟨?_, ?_, ?_⟩ <;> assumption)) ((go_at_call 85; refine (HADD.out _ (by exact HB3.out.drew)).mono ?_; rintro e w4 ⟨v4, rfl, hrd4, hb4d⟩; have hb4 : Below W3.heap.size W3 w4 := (Below.refl _ W3).drew.trans hb4d; clear hb4d; have hB4 : Below w.heap.size w w4 := chain HB3.out hb4 (by omega); obtain ⟨xa4, xc4, rfl⟩ := hrd4.form; have P04 := P0.out.below hb4; have P14 := P1.out.below hb4; have PR4 := PR.out.below hb4; obtain ⟨pp0, pp1, _, _⟩ := P04.cells; obtain ⟨qq0, qq1, _, _⟩ := P14.cells; obtain ⟨r0, r1, f0, f1⟩ := PR4.cells))
    all_goals
      have hfin := PR4.set (.slice xa4 (Pl.wd (a + b)).length xc4) (.bool na)
      have HRD := Lib.hid (hrd4.clear2 (x := .slice xa4 (Pl.wd (a + b)).length xc4) (y := .bool na) PR4 (by simp) (by simp))
      have HBF := Lib.hid (below_set2 hB4 (show w.heap.size ≤ w.heap.size + 2 by omega) (.slice xa4 (Pl.wd (a + b)).length xc4) (.bool na))
      obtain ⟨k0, k1, _, _⟩ := hfin.cells
      clear hfin
      go_wp2_with fail
      refine bodyPost_ret (v := .agg #[.slice xa4 (Pl.wd (a + b)).length xc4, .bool na]) (by simp [results, Tryz.results67, go_sem, k0, k1]) rfl ⟨_, na, a + b, rfl, HRD.out, by unfold sg; split <;> omega, HBF.out⟩
  · have hne : (na == nb) = false := by rw [beq_eq_false_iff_ne]; exact hs
    go_enter Tryz.func67, Tryz.ntmps67
    go_wp2_with fail
    refine (HCMP.out _ (by exact HB3.out)).mono ?_
    rintro e w5 ⟨rfl, hb5⟩
    have HB4 := Lib.hid (chain HB3.out hb5 (by omega))
    have hs5 : w.heap.size + 3 ≤ w5.heap.size := Nat.le_trans hs3 hb5.size
    have P04 := Lib.hid (P0.out.below hb5)
    have P14 := Lib.hid (P1.out.below hb5)
    have PR4 := Lib.hid (PR.out.below hb5)
    clear p0 p1 p2 p3 q0 q1 q2 q3 hb5 hW3 hW3' HB3 P0 P1 PR hs3
    obtain ⟨p0, p1, p2, p3⟩ := P04.out.cells
    obtain ⟨q0, q1, q2, q3⟩ := P14.out.cells
    rcases Nat.lt_or_ge a b with hlt | hge
    · have ho : Pl.ordn a b = -1 := by unfold Pl.ordn; rw [if_pos hlt]
      have HSG : Hid (sg nb (b - a) = sg na a + sg nb b) := Lib.hid (by
        unfold sg
        cases na <;> cases nb <;> simp at hs ⊢ <;> omega)
      rw [ho]
      obtain ⟨w6, hw6⟩ : ∃ w6, (((w5.setCell ⟨w.heap.size, 0, none⟩ (.slice ya m yc)).setCell ⟨w.heap.size, 1, none⟩ (.bool nb)).setCell ⟨w.heap.size + 1, 0, none⟩ (.slice xa n xc)).setCell ⟨w.heap.size + 1, 1, none⟩ (.bool na) = w6 := ⟨_, rfl⟩
      have P05 : Hid (P2 w6 w.heap.size 92 (.slice ya m yc) (.bool nb)) := Lib.hid (by rw [← hw6]; exact (P04.out.set _ _).both (by omega))
      have P15 : Hid (P2 w6 (w.heap.size + 1) 92 (.slice xa n xc) (.bool na)) := Lib.hid (by rw [← hw6]; exact (P14.out.both (by omega)).set _ _)
      have PR6 : Hid (P2 w6 (w.heap.size + 2) 92 (.slice none 0 0) (.bool false)) := Lib.hid (by rw [← hw6]; exact (PR4.out.both (by omega)).both (by omega))
      have HB6 : Hid (Below w.heap.size w w6) := Lib.hid (by rw [← hw6]; exact below_set2 (below_set2 HB4.out (Nat.le_refl _) _ _) (by omega) _ _)
      have hs6 : w.heap.size + 3 ≤ w6.heap.size := by rw [← hw6]; simpa [World.setCell] using hs5
      go_wp2_with fail
      try rw [hw6]
      clear p0 p1 p2 p3 q0 q1 q2 q3 hw6
      obtain ⟨p0, p1, p2, p3⟩ := P05.out.cells
      obtain ⟨q0, q1, q2, q3⟩ := P15.out.cells
      clear hs5 HB4 P04 P14 PR4
      go_region_held3 (fun W => W.cell? ⟨w.heap.size, 0, none⟩ = some (.slice ya m yc) ∧ W.cell? ⟨w.heap.size, 1, none⟩ = some (.bool nb) ∧ W.cell? ⟨w.heap.size + 1, 0, none⟩ = some (.slice xa n xc)) (first | exact ⟨p0, p1, q0⟩ | exact ⟨pp0, pp1, qq0⟩ | exact ⟨(P04.both (by omega)).cells.1, (P04.both (by omega)).cells.2.1, (P14.both (by omega)).cells.1⟩ | (refine ⟨?_, ?_, ?_⟩ <;> assumption)) ((go_at_call 135; refine (HSUB2.out _ (by exact HB6.out.drew) (Nat.le_of_lt hlt)).mono ?_; rintro e w4 ⟨v4, rfl, hrd4, hb4d⟩; have hb4 : Below w6.heap.size w6 w4 := (Below.refl _ w6).drew.trans hb4d; clear hb4d; have hB4 : Below w.heap.size w w4 := chain HB6.out hb4 (by omega); obtain ⟨xa4, xc4, rfl⟩ := hrd4.form; have P04 := P05.out.below hb4; have P14 := P15.out.below hb4; have PR4 := PR6.out.below hb4; obtain ⟨pp0, pp1, _, _⟩ := P04.cells; obtain ⟨qq0, qq1, _, _⟩ := P14.cells; obtain ⟨r0, r1, f0, f1⟩ := PR4.cells))
      all_goals
        have hfin := PR4.set (.slice xa4 (Pl.wd (b - a)).length xc4) (.bool nb)
        have HRD := Lib.hid (hrd4.clear2 (x := .slice xa4 (Pl.wd (b - a)).length xc4) (y := .bool nb) PR4 (by simp) (by simp))
        have HBF := Lib.hid (below_set2 hB4 (show w.heap.size ≤ w.heap.size + 2 by omega) (.slice xa4 (Pl.wd (b - a)).length xc4) (.bool nb))
        obtain ⟨k0, k1, _, _⟩ := hfin.cells
        clear hfin
        go_wp2_with fail
        refine bodyPost_ret (v := .agg #[.slice xa4 (Pl.wd (b - a)).length xc4, .bool nb]) (by simp [results, Tryz.results67, go_sem, k0, k1]) rfl ⟨_, nb, b - a, rfl, HRD.out, HSG.out, HBF.out⟩
    · have ho : ¬ Pl.ordn a b < 0 := by unfold Pl.ordn; rw [if_neg (by omega)]; split <;> omega
      have HSG : Hid (sg na (a - b) = sg na a + sg nb b) := Lib.hid (by
        unfold sg
        cases na <;> cases nb <;> simp at hs ⊢ <;> omega)
      have hdo : decide (Pl.ordn a b < 0) = false := decide_eq_false ho
      have HB5 := HB4
      have PR5 := PR4
      go_wp2_with fail
      go_region_held3 (fun W => W.cell? ⟨w.heap.size, 0, none⟩ = some (.slice xa n xc) ∧ W.cell? ⟨w.heap.size, 1, none⟩ = some (.bool na) ∧ W.cell? ⟨w.heap.size + 1, 0, none⟩ = some (.slice ya m yc)) (first | exact ⟨p0, p1, q0⟩ | exact ⟨pp0, pp1, qq0⟩ | exact ⟨(P04.both (by omega)).cells.1, (P04.both (by omega)).cells.2.1, (P14.both (by omega)).cells.1⟩ | (refine ⟨?_, ?_, ?_⟩ <;> assumption)) ((go_at_call 135; refine (HSUB.out _ (by exact HB5.out.drew) hge).mono ?_; rintro e w4 ⟨v4, rfl, hrd4, hb4d⟩; have hb4 : Below w5.heap.size w5 w4 := (Below.refl _ w5).drew.trans hb4d; clear hb4d; have hB4 : Below w.heap.size w w4 := chain HB5.out hb4 (by omega); obtain ⟨xa4, xc4, rfl⟩ := hrd4.form; have P04 := P04.out.below hb4; have P14 := P14.out.below hb4; have PR4 := PR5.out.below hb4; obtain ⟨pp0, pp1, _, _⟩ := P04.cells; obtain ⟨qq0, qq1, _, _⟩ := P14.cells; obtain ⟨r0, r1, f0, f1⟩ := PR4.cells))
      all_goals
        have hfin := PR4.set (.slice xa4 (Pl.wd (a - b)).length xc4) (.bool na)
        have HRD := Lib.hid (hrd4.clear2 (x := .slice xa4 (Pl.wd (a - b)).length xc4) (y := .bool na) PR4 (by simp) (by simp))
        have HBF := Lib.hid (below_set2 hB4 (show w.heap.size ≤ w.heap.size + 2 by omega) (.slice xa4 (Pl.wd (a - b)).length xc4) (.bool na))
        obtain ⟨k0, k1, _, _⟩ := hfin.cells
        clear hfin
        go_wp2_with fail
        refine bodyPost_ret (v := .agg #[.slice xa4 (Pl.wd (a - b)).length xc4, .bool na]) (by simp [results, Tryz.results67, go_sem, k0, k1]) rfl ⟨_, na, a - b, rfl, HRD.out, HSG.out, HBF.out⟩
end Go.Proofs.YtlodbibagmblkaaGreatDoor
namespace Go.Proofs.YtlodbibagmblkaaGreatDoor
open Go.RowKit Go.Lib
namespace Pl
theorem words_wd (V : Nat) : words (((dgs V).length + 3) / 4) (dgs V) = wd V := by
  have hn := num_words (dgs V) (((dgs V).length + 3) / 4) (by omega)
  rw [le_dgs] at hn
  have hw : Ws (words (((dgs V).length + 3) / 4) (dgs V)) := fun x hx => by
    obtain ⟨j, _, rfl⟩ := List.mem_map.1 hx; exact word_lt _ j
  by_cases h0 : dgs V = []
  · rw [h0] at hn hw ⊢
    exact wd_eq hw (.inl rfl) hn
  · refine wd_eq hw (tr_of_ge hw ?_) hn
    rw [hn, words_len]
    have h1 := canon_ge (canon_dgs V) h0
    rw [le_dgs] at h1
    have hl : 0 < (dgs V).length := List.length_pos_iff.2 h0
    refine Nat.le_trans ?_ h1
    rw [show (4294967296 : Nat) = 256 ^ 4 from rfl, ← Nat.pow_mul]
    exact Nat.pow_le_pow_right (by decide) (by omega)
/-- fits it? -/
theorem lt_p {V a b : Nat} (h : V < 256 ^ a) (hab : a ≤ b) : V < 256 ^ b := Nat.lt_of_lt_of_le h (Nat.pow_le_pow_right (by decide) hab)
theorem le_p {V a b : Nat} (h : 256 ^ b ≤ V) (hab : a ≤ b) : 256 ^ a ≤ V := Nat.le_trans (Nat.pow_le_pow_right (by decide) hab) h
theorem le_q {V a b : Nat} (h : 4294967296 ^ b ≤ V) (hab : a ≤ b) : 4294967296 ^ a ≤ V := Nat.le_trans (Nat.pow_le_pow_right (by decide) hab) h
theorem p32 (k : Nat) : (256 : Nat) ^ (4 * k) = 4294967296 ^ k := by rw [Nat.pow_mul]
def Big (n : Int) : Prop := n.natAbs < 256 ^ 4096
theorem wd_len (V : Nat) (h : V < 256 ^ 4096) : (wd V).length ≤ 1024 := by
  rw [← words_wd, words_len]
  have := dgs_len h
  omega
theorem bytesOf_wd (V : Nat) : bytesOf (wd V) = dgs V := by rw [bytesOf_is (wd_ws V), wd_num]
end Pl
theorem lof_any2 (n : Int) (w : World) (h : Pl.Big n) : Calls Tryz.prog 69 #[lof n] w fun e w' => ∃ v, e = .returned (.agg #[v, .bool (decide (n < 0))]) ∧ Rd w' v (Pl.wd n.natAbs) ∧ Below w.heap.size w w' := by
  have := lof_any (decide (n < 0)) (Pl.dgs n.natAbs) w (Pl.dgs_len h)
  rw [show OfOk w (decide (n < 0)) (Pl.dgs n.natAbs) = fun e w' => ∃ v, e = .returned (.agg #[v, .bool (decide (n < 0))]) ∧ Rd w' v (Pl.words (((Pl.dgs n.natAbs).length + 3) / 4) (Pl.dgs n.natAbs)) ∧ Below w.heap.size w w' from rfl] at this
  rw [Pl.words_wd] at this
  exact this
theorem lcheck_any2 (n : Int) (w : World) (h : Pl.Big n) : Calls Tryz.prog 82 #[lof n] w fun e w' => e = .returned (.int .i64 0) ∧ Below w.heap.size w w' := by
  have := check_any (decide (n < 0)) (Pl.dgs n.natAbs) w (Nat.le_trans (Pl.dgs_len h) (by decide))
  rw [Pl.chk_dgs h (by intro h1 h2; simp at h1; omega)] at this
  exact this
set_option maxRecDepth 4000 in
set_option maxHeartbeats 4000000 in
theorem ltwo_any (A B : Int) (w : World) (hA : Pl.Big A) (hB : Pl.Big B) :
    Calls Tryz.prog 65 #[lof A, lof B] w fun e w' => ∃ va vb, e = .returned (.tuple #[.agg #[va, .bool (decide (A < 0))], .agg #[vb, .bool (decide (B < 0))], .int .i64 0]) ∧ Rd w' va (Pl.wd A.natAbs) ∧ Rd w' vb (Pl.wd B.natAbs) ∧ Below w.heap.size w w' := by
  have HCA := Lib.hid (fun W => lcheck_any2 A W hA)
  have HCB := Lib.hid (fun W => lcheck_any2 B W hB)
  have HOA := Lib.hid (fun W => lof_any2 A W hA)
  have HOB := Lib.hid (fun W => lof_any2 B W hB)
  clear hA hB
  obtain ⟨na, hna⟩ : ∃ na, decide (A < 0) = na := ⟨_, rfl⟩
  obtain ⟨nb, hnb⟩ : ∃ nb, decide (B < 0) = nb := ⟨_, rfl⟩
  have ha : lof A = .agg #[.bool na, .string (bs (Pl.dgs A.natAbs))] := by unfold lof lv; rw [hna]
  have hb : lof B = .agg #[.bool nb, .string (bs (Pl.dgs B.natAbs))] := by unfold lof lv; rw [hnb]
  rw [ha] at HCA HOA ⊢
  rw [hb] at HCB HOB ⊢
  rw [hna] at HOA ⊢
  rw [hnb] at HOB ⊢
  generalize bs (Pl.dgs A.natAbs) = sa at *
  generalize bs (Pl.dgs B.natAbs) = sb at *
  generalize A.natAbs = U at *
  generalize B.natAbs = V at *
  clear ha hb hna hnb
  obtain ⟨W3, hW3⟩ : ∃ W3, (((w.alloc (.cells #[.bool na, .string sa] 43)).alloc (.cells #[.bool nb, .string sb] 43)).alloc (.cells #[.slice none 0 0, .bool false] 92)).alloc (.cells #[.slice none 0 0, .bool false] 92) = W3 := ⟨_, rfl⟩
  have P0 : Hid (P2 W3 w.heap.size 43 (.bool na) (.string sa)) := Lib.hid (by rw [← hW3]; exact (((P2.new _ _ _ _).alloc _).alloc _).alloc _)
  have P1 : Hid (P2 W3 (w.heap.size + 1) 43 (.bool nb) (.string sb)) := Lib.hid (by
    rw [← hW3]
    have := ((P2.new (w.alloc (.cells #[.bool na, .string sa] 43)) 43 (.bool nb) (.string sb)).alloc (.cells #[.slice none 0 0, .bool false] 92)).alloc (.cells #[.slice none 0 0, .bool false] 92)
    simpa using this)
  have R0 : Hid (P2 W3 (w.heap.size + 2) 92 (.slice none 0 0) (.bool false)) := Lib.hid (by
    rw [← hW3]
    have := (P2.new ((w.alloc (.cells #[.bool na, .string sa] 43)).alloc (.cells #[.bool nb, .string sb] 43)) 92 (.slice none 0 0) (.bool false)).alloc (.cells #[.slice none 0 0, .bool false] 92)
    simpa using this)
  have R1 : Hid (P2 W3 (w.heap.size + 3) 92 (.slice none 0 0) (.bool false)) := Lib.hid (by
    rw [← hW3]
    have := P2.new (((w.alloc (.cells #[.bool na, .string sa] 43)).alloc (.cells #[.bool nb, .string sb] 43)).alloc (.cells #[.slice none 0 0, .bool false] 92)) 92 (.slice none 0 0) (.bool false)
    simpa using this)
  have HB3 : Hid (Below w.heap.size w W3) := Lib.hid (by rw [← hW3]; exact ((((Below.refl _ _).alloc (Nat.le_refl _) _).alloc (by simp) _).alloc (by simp; omega) _).alloc (by simp; omega) _)
  have hs3 : w.heap.size + 4 ≤ W3.heap.size := by rw [← hW3]; simp
  obtain ⟨p0, p1, _, _⟩ := P0.out.cells
  go_enter Tryz.func65, Tryz.ntmps65
  go_wp2_with fail
  refine (HCA.out _).mono ?_
  rintro e w4 ⟨rfl, hb4⟩
  have P04 := Lib.hid (P0.out.below hb4)
  have P14 := Lib.hid (P1.out.below hb4)
  have R04 := Lib.hid (R0.out.below hb4)
  have R14 := Lib.hid (R1.out.below hb4)
  have HB4 := Lib.hid (chain HB3.out hb4 (by omega))
  have hs4 : w.heap.size + 4 ≤ w4.heap.size := Nat.le_trans hs3 hb4.size
  clear p0 p1 hb4 P0 P1 R0 R1 HB3 hs3 hW3
  obtain ⟨q0, q1, _, _⟩ := P14.out.cells
  go_wp2_with fail
  refine (HCB.out _).mono ?_
  rintro e w5 ⟨rfl, hb5⟩
  have P0 := Lib.hid (P04.out.below hb5)
  have P1 := Lib.hid (P14.out.below hb5)
  have R0 := Lib.hid (R04.out.below hb5)
  have R1 := Lib.hid (R14.out.below hb5)
  have HB5 := Lib.hid (chain HB4.out hb5 (by omega))
  have hs5 : w.heap.size + 4 ≤ w5.heap.size := Nat.le_trans hs4 hb5.size
  clear q0 q1 hb5 P04 P14 R04 R14 HB4 hs4
  obtain ⟨p0, p1, _, _⟩ := P0.out.cells
  obtain ⟨q0, q1, _, _⟩ := P1.out.cells
  have HS : Hid (∀ W, Below w5.heap.size w5 W → W.cell? ⟨w.heap.size, 0, none⟩ = some (.bool na) ∧ W.cell? ⟨w.heap.size, 1, none⟩ = some (.string sa) ∧ W.cell? ⟨w.heap.size + 1, 0, none⟩ = some (.bool nb) ∧ W.cell? ⟨w.heap.size + 1, 1, none⟩ = some (.string sb)) := Lib.hid (fun W hb => ⟨(P0.out.below hb).cells.1, (P0.out.below hb).cells.2.1, (P1.out.below hb).cells.1, (P1.out.below hb).cells.2.1⟩)
  have HS2 : Hid (∀ W, Below w5.heap.size w5 W → ∀ k, k ≠ w.heap.size → k ≠ w.heap.size + 1 → ∀ x y, ((W.setCell ⟨k, 0, none⟩ x).setCell ⟨k, 1, none⟩ y).cell? ⟨w.heap.size, 0, none⟩ = some (.bool na) ∧ ((W.setCell ⟨k, 0, none⟩ x).setCell ⟨k, 1, none⟩ y).cell? ⟨w.heap.size, 1, none⟩ = some (.string sa) ∧ ((W.setCell ⟨k, 0, none⟩ x).setCell ⟨k, 1, none⟩ y).cell? ⟨w.heap.size + 1, 0, none⟩ = some (.bool nb) ∧ ((W.setCell ⟨k, 0, none⟩ x).setCell ⟨k, 1, none⟩ y).cell? ⟨w.heap.size + 1, 1, none⟩ = some (.string sb)) := Lib.hid (fun W hb k h1 h2 x y => ⟨((P0.out.below hb).both h1).cells.1, ((P0.out.below hb).both h1).cells.2.1, ((P1.out.below hb).both h2).cells.1, ((P1.out.below hb).both h2).cells.2.1⟩)
  have HS3 : Hid (∀ W, Below w5.heap.size w5 W → ∀ k, k ≠ w.heap.size → k ≠ w.heap.size + 1 → ∀ x y, ∀ j, j ≠ w.heap.size → j ≠ w.heap.size + 1 → ∀ x' y', ((((W.setCell ⟨k, 0, none⟩ x).setCell ⟨k, 1, none⟩ y).setCell ⟨j, 0, none⟩ x').setCell ⟨j, 1, none⟩ y').cell? ⟨w.heap.size, 0, none⟩ = some (.bool na) ∧ ((((W.setCell ⟨k, 0, none⟩ x).setCell ⟨k, 1, none⟩ y).setCell ⟨j, 0, none⟩ x').setCell ⟨j, 1, none⟩ y').cell? ⟨w.heap.size, 1, none⟩ = some (.string sa) ∧ ((((W.setCell ⟨k, 0, none⟩ x).setCell ⟨k, 1, none⟩ y).setCell ⟨j, 0, none⟩ x').setCell ⟨j, 1, none⟩ y').cell? ⟨w.heap.size + 1, 0, none⟩ = some (.bool nb) ∧ ((((W.setCell ⟨k, 0, none⟩ x).setCell ⟨k, 1, none⟩ y).setCell ⟨j, 0, none⟩ x').setCell ⟨j, 1, none⟩ y').cell? ⟨w.heap.size + 1, 1, none⟩ = some (.string sb)) := Lib.hid (fun W hb k h1 h2 x y j h3 h4 x' y' => ⟨(((P0.out.below hb).both h1).both h3).cells.1, (((P0.out.below hb).both h1).both h3).cells.2.1, (((P1.out.below hb).both h2).both h4).cells.1, (((P1.out.below hb).both h2).both h4).cells.2.1⟩)
  have BD := Lib.hid (show Below w5.heap.size w5 w5.drew from (Below.refl _ w5).drew)
  go_wp2_with fail
  go_region_held3 (fun W => W.cell? ⟨w.heap.size, 0, none⟩ = some (.bool na) ∧ W.cell? ⟨w.heap.size, 1, none⟩ = some (.string sa) ∧ W.cell? ⟨w.heap.size + 1, 0, none⟩ = some (.bool nb) ∧ W.cell? ⟨w.heap.size + 1, 1, none⟩ = some (.string sb)) (first | with_reducible exact ⟨p0, p1, q0, q1⟩ | with_reducible exact HS.out _ BD.out | with_reducible exact HS.out _ hKA | with_reducible exact HS.out _ hKB | (with_reducible refine HS2.out _ ?_ _ ?_ ?_ _ _; (first | exact hKA | exact hKB); omega; omega) | (with_reducible refine HS3.out _ ?_ _ ?_ ?_ _ _ _ ?_ ?_ _ _; (first | exact hKA | exact hKB); omega; omega; omega; omega)) (first
    | (go_at_call 69; (with_reducible refine (HOA.out _).mono ?_); rintro e wA ⟨va, rfl, hra, hba⟩; obtain ⟨a1, a2, rfl⟩ := hra.form; (first | (have hKA : Below w5.heap.size w5 wA := hKB.trans (hba.mono hKB.size); have hZ := Lib.hid (And.intro hra (And.intro (hrb.below hba) hKA)); obtain ⟨r0, r1, f0, f1⟩ := (R0.out.below hKA).cells; obtain ⟨t0, t1, g0, g1⟩ := (R1.out.below hKA).cells) | (have hKA : Below w5.heap.size w5 wA := (Below.refl _ w5).drew.trans hba)))
    | (go_at_call 69; (with_reducible refine (HOB.out _).mono ?_); rintro e wB ⟨vb, rfl, hrb, hbb⟩; obtain ⟨b1, b2, rfl⟩ := hrb.form; (first | (have hKB : Below w5.heap.size w5 wB := hKA.trans (hbb.mono hKA.size); have hZ := Lib.hid (And.intro (hra.below hbb) (And.intro hrb hKB)); obtain ⟨r0, r1, f0, f1⟩ := (R0.out.below hKB).cells; obtain ⟨t0, t1, g0, g1⟩ := (R1.out.below hKB).cells) | (have hKB : Below w5.heap.size w5 wB := (Below.refl _ w5).drew.trans hbb))))
  all_goals
    obtain ⟨hz1, hz2, hz3⟩ := hZ.out
    have Q0 := R0.out.below hz3
    have Q1 := R1.out.below hz3
    have F0 := Lib.hid ((Q0.set (.slice a1 (Pl.wd U).length a2) (.bool na)).both (k := w.heap.size + 2) (j := w.heap.size + 3) (x := .slice b1 (Pl.wd V).length b2) (y := .bool nb) (by omega))
    have F1 := Lib.hid ((Q1.both (k := w.heap.size + 3) (j := w.heap.size + 2) (x := .slice a1 (Pl.wd U).length a2) (y := .bool na) (by omega)).set (.slice b1 (Pl.wd V).length b2) (.bool nb))
    have hq1 := Q1.both (k := w.heap.size + 3) (j := w.heap.size + 2) (x := .slice a1 (Pl.wd U).length a2) (y := .bool na) (by omega)
    have Z1 := Lib.hid ((hz1.clear2 (x := .slice a1 (Pl.wd U).length a2) (y := .bool na) Q0 (by simp) (by simp)).clear2 (x := .slice b1 (Pl.wd V).length b2) (y := .bool nb) hq1 (by simp) (by simp))
    have Z2 := Lib.hid ((hz2.clear2 (x := .slice a1 (Pl.wd U).length a2) (y := .bool na) Q0 (by simp) (by simp)).clear2 (x := .slice b1 (Pl.wd V).length b2) (y := .bool nb) hq1 (by simp) (by simp))
    have ZB := Lib.hid (below_set2 (below_set2 (HB5.out.trans (hz3.mono (by omega))) (show w.heap.size ≤ w.heap.size + 2 by omega) (.slice a1 (Pl.wd U).length a2) (.bool na)) (show w.heap.size ≤ w.heap.size + 3 by omega) (.slice b1 (Pl.wd V).length b2) (.bool nb))
    obtain ⟨k0, k1, _, _⟩ := F0.out.cells
    obtain ⟨l0, l1, _, _⟩ := F1.out.cells
    clear Q0 Q1 hq1 hz1 hz2 hz3
    go_wp2_with fail
    refine bodyPost_ret (v := .tuple #[.agg #[.slice a1 (Pl.wd U).length a2, .bool na], .agg #[.slice b1 (Pl.wd V).length b2, .bool nb], .int .i64 0]) (by simp [results, Tryz.results65, go_sem, k0, k1, l0, l1]) rfl ⟨_, _, rfl, Z1.out, Z2.out, ZB.out⟩
end Go.Proofs.YtlodbibagmblkaaGreatDoor
namespace Go.Proofs.YtlodbibagmblkaaGreatDoor
open Go.RowKit Go.Lib
theorem lof_sg {n : Int} {neg : Bool} {V : Nat} (h : sg neg V = n) : lv (neg && !decide (V = 0)) (Pl.dgs V) = lof n := by
  unfold sg at h
  have hV : V = n.natAbs := by split at h <;> omega
  unfold lof
  rw [← hV]
  congr 1
  cases neg
  · rw [if_neg (by simp)] at h
    rw [show decide (n < 0) = false from decide_eq_false (by omega)]; rfl
  · rw [if_pos rfl] at h
    by_cases h0 : V = 0
    · rw [decide_eq_true h0, decide_eq_false (by omega)]; rfl
    · rw [decide_eq_false h0, decide_eq_true (by omega)]; rfl
theorem sg_abs {n : Int} {neg : Bool} {V : Nat} (h : sg neg V = n) : V = n.natAbs := by unfold sg at h; split at h <;> omega
open Classical in
/-- A number as a large one with OK, or the error that it is too long. -/
noncomputable def toldv (n : Int) : Value := if Pl.Big n then .tuple #[lof n, .int .i64 0] else .tuple #[lv false [], .int .i64 92]
def ToldV (w : World) (n : Int) (e : Ending) (w' : World) : Prop := e = .returned (toldv n) ∧ Below w.heap.size w w'
theorem Pl.wd_len_pow {V k : Nat} (h : V < 4294967296 ^ k) : (Pl.wd V).length ≤ k := by
  by_cases h0 : Pl.wd V = []
  · rw [h0]; exact Nat.zero_le _
  · have h1 := Pl.tr_ge (Pl.wd_tr V) h0
    rw [Pl.wd_num] at h1
    have h2 : 4294967296 ^ ((Pl.wd V).length - 1) < 4294967296 ^ k := Nat.lt_of_le_of_lt h1 h
    have := (Nat.pow_lt_pow_iff_right (by decide : 1 < 4294967296)).1 h2
    omega
set_option maxRecDepth 4000 in
set_option maxHeartbeats 2000000 in
theorem ltold2_any (v : Value) (neg : Bool) (V : Nat) (n : Int) (w : World) (hn : sg neg V = n) (h : Rd w v (Pl.wd V)) (hl : (Pl.wd V).length ≤ 10000) :
    Calls Tryz.prog 66 #[.agg #[v, .bool neg]] w (ToldV w n) := by
  by_cases hB : Pl.Big n
  · have h1 := ltold_any v (Pl.wd V) neg w h hl (Pl.wd_ws V) (by rw [Pl.bytesOf_wd]; exact Pl.dgs_len (by rw [sg_abs hn]; exact hB))
    rw [show ToldOk w neg (Pl.wd V) = fun e w' => e = .returned (.tuple #[lv (neg && !(Pl.bytesOf (Pl.wd V)).isEmpty) (Pl.bytesOf (Pl.wd V)), .int .i64 0]) ∧ Below w.heap.size w w' from rfl, Pl.bytesOf_wd, Pl.dgs_empty, lof_sg hn] at h1
    unfold ToldV toldv
    rw [if_pos hB]
    exact h1
  · have HL : Hid (∀ W, Below w.heap.size w W → Calls Tryz.prog 71 #[v, .bool neg] W fun e w' => e = .returned (lof n) ∧ Below W.heap.size W w') := Lib.hid (fun W hW => by
      have h1 := large_any v (Pl.wd V) neg W (h.below hW) hl (Pl.wd_ws V)
      rw [show LargeOk W neg (Pl.wd V) = fun e w' => e = .returned (lv (neg && !(Pl.bytesOf (Pl.wd V)).isEmpty) (Pl.bytesOf (Pl.wd V))) ∧ Below W.heap.size W w' from rfl, Pl.bytesOf_wd, Pl.dgs_empty, lof_sg hn] at h1
      exact h1)
    have HV : Hid (toldv n = .tuple #[.agg #[.bool false, .string ⟨#[]⟩], .int .i64 92]) := Lib.hid (by unfold toldv; rw [if_neg hB]; rfl)
    have hlen : 4096 < (Pl.dgs n.natAbs).length := by
      rcases Nat.lt_or_ge 4096 (Pl.dgs n.natAbs).length with h1 | h1
      · exact h1
      · exfalso
        apply hB
        have h2 := Pl.le_lt (Pl.dgs n.natAbs)
        rw [Pl.le_dgs] at h2
        exact Pl.lt_p (b := 4096) h2 h1
    obtain ⟨S, hS⟩ : ∃ S, bs (Pl.dgs n.natAbs) = S := ⟨_, rfl⟩
    obtain ⟨g, hg⟩ : ∃ g, decide (n < 0) = g := ⟨_, rfl⟩
    have e1 : lof n = .agg #[.bool g, .string S] := by unfold lof lv; rw [hS, hg]
    have hSs : 4096 < S.size := by rw [← hS]; exact hlen
    have hsz : decide ((4096 : Int) < (S.size : Int)) = true := decide_eq_true (by omega)
    rw [e1] at HL
    obtain ⟨va, vc, rfl⟩ := h.form
    generalize (Pl.wd V).length = m at *
    clear h hB hn hlen hS hg e1
    unfold ToldV
    obtain ⟨W2, hW2⟩ : ∃ W2, (w.alloc (.cells #[.slice va m vc, .bool neg] 92)).alloc (.cells #[.bool false, .string ⟨#[]⟩] 43) = W2 := ⟨_, rfl⟩
    have hB2 : Below w.heap.size w W2 := by rw [← hW2]; exact ((Below.refl _ _).alloc (Nat.le_refl _) _).alloc (by simp) _
    have HR : Hid (P2 W2 (w.heap.size + 1) 43 (.bool false) (.string ⟨#[]⟩)) := Lib.hid (by
      rw [← hW2]
      have := P2.new (w.alloc (.cells #[.slice va m vc, .bool neg] 92)) 43 (.bool false) (.string ⟨#[]⟩)
      simpa using this)
    have HP : Hid (P2 W2 w.heap.size 92 (.slice va m vc) (.bool neg)) := Lib.hid (by
      rw [← hW2]; exact (P2.new _ _ _ _).alloc _)
    have hs2 : w.heap.size + 2 ≤ W2.heap.size := by rw [← hW2]; simp
    obtain ⟨p0, p1, _, _⟩ := HP.out.cells
    rw [HV.out]
    go_enter Tryz.func66, Tryz.ntmps66
    go_wp2_with fail
    refine (HL.out _ (by exact hB2)).mono ?_
    rintro e w3 ⟨rfl, hb3⟩
    have HB3 := Lib.hid (chain hB2 hb3 (by omega))
    have hs3 : w.heap.size + 2 ≤ w3.heap.size := Nat.le_trans hs2 hb3.size
    have HR3 := Lib.hid ((HR.out.below hb3).alloc (.cells #[.bool g, .string S] 43))
    obtain ⟨r0, r1, f0, f1⟩ := HR3.out.cells
    clear hb3 p0 p1 HP hW2 hB2 HR
    go_wp2_with fail
    have hfin := HR3.out.set (.bool false) (.string ⟨#[]⟩)
    obtain ⟨k0, k1, _, _⟩ := hfin.cells
    refine bodyPost_ret (v := .tuple #[.agg #[.bool false, .string ⟨#[]⟩], .int .i64 92]) (by simp [results, Tryz.results66, go_sem, k0, k1]) rfl ⟨rfl, below_set2 (HB3.out.alloc (by omega) _) (by omega) _ _⟩
end Go.Proofs.YtlodbibagmblkaaGreatDoor
namespace Go.Proofs.YtlodbibagmblkaaGreatDoor
open Go.RowKit Go.Lib
def DivW (w : World) (A B : Nat) (e : Ending) (w' : World) : Prop := ∃ vq vr, e = .returned (.tuple #[vq, vr]) ∧ Rd w' vq (Pl.wd (A / B)) ∧ Rd w' vr (Pl.wd (A % B)) ∧ Below w.heap.size w w'
theorem Pl.wd_zero : Pl.wd 0 = [] := by
  have := Pl.wd_len_pow (V := 0) (k := 0) (by decide)
  exact List.eq_nil_of_length_eq_zero (Nat.le_zero.1 this)
theorem rd_nil (w : World) : Rd w (.slice none 0 0) (Pl.wd 0) := .inl ⟨rfl, Pl.wd_zero⟩
set_option maxRecDepth 4000 in
set_option maxHeartbeats 2000000 in
theorem ndiv_less (vx vy : Value) (A B : Nat) (w : World) (hx : Rd w vx (Pl.wd A)) (hy : Rd w vy (Pl.wd B)) (la : (Pl.wd A).length ≤ 2500) (lb : (Pl.wd B).length ≤ 2500) (hlt : A < B) :
    Calls Tryz.prog 70 #[vx, vy] w (DivW w A B) := by
  have HC := Lib.hid (ncmp_any vx vy _ _ w hx hy (by omega) (by omega) (Pl.wd_ws A) (Pl.wd_ws B))
  rw [Pl.wd_num, Pl.wd_num, show Pl.ordn A B = -1 by unfold Pl.ordn; rw [if_pos hlt]] at HC
  have HX := Lib.hid hx
  have HQ := Lib.hid (Nat.div_eq_of_lt hlt)
  have HM := Lib.hid (Nat.mod_eq_of_lt hlt)
  obtain ⟨xa, xc, rfl⟩ := hx.form
  obtain ⟨ya, yc, rfl⟩ := hy.form
  generalize (Pl.wd A).length = n at *
  generalize (Pl.wd B).length = m at *
  clear hx hy hlt
  go_enter Tryz.func70, Tryz.ntmps70
  go_wp2_with fail
  refine HC.out.mono ?_
  rintro e w1 ⟨rfl, hb1⟩
  go_wp2_with fail
  go_ret2
  exact ⟨_, _, rfl, by rw [HQ.out]; exact rd_nil _, by rw [HM.out]; exact HX.out.below hb1, hb1⟩
set_option maxRecDepth 4000 in
set_option maxHeartbeats 2000000 in
theorem ndiv_one (vx vy : Value) (A B : Nat) (w : World) (hx : Rd w vx (Pl.wd A)) (hy : Rd w vy (Pl.wd B)) (la : (Pl.wd A).length ≤ 2500) (lb : (Pl.wd B).length = 1) (hge : B ≤ A) :
    Calls Tryz.prog 70 #[vx, vy] w (DivW w A B) := by
  have HC := Lib.hid (ncmp_any vx vy _ _ w hx hy (by omega) (by omega) (Pl.wd_ws A) (Pl.wd_ws B))
  rw [Pl.wd_num, Pl.wd_num] at HC
  have ho : decide (Pl.ordn A B < 0) = false := decide_eq_false (by unfold Pl.ordn; rw [if_neg (by omega)]; split <;> omega)
  obtain ⟨b, hb⟩ : ∃ b, Pl.wd B = [b] := by
    cases h : Pl.wd B with
    | nil => rw [h] at lb; simp at lb
    | cons c l => rw [h] at lb; simp at lb; exact ⟨c, by rw [lb]⟩
  have hbB : b = B := by have := Pl.wd_num B; rw [hb] at this; simpa [Pl.num] using this
  have hbl : b < 4294967296 := Pl.wd_ws B b (by rw [hb]; simp)
  have hb0 : 0 < b := by
    have := Pl.wd_tr B
    rw [hb] at this
    rcases this with h | ⟨l, c, h, hc⟩
    · cases h
    · cases l with
      | nil => simp at h; omega
      | cons d l => simp at h
  rw [hb] at hy
  subst hbB
  have HSH : Hid (∀ W, Below w.heap.size w W → Calls Tryz.prog 86 #[vx, .int .u32 b] W (ShortOk W A b)) := Lib.hid (fun W hW => by
    have := nshort_any vx _ b W (hx.below hW) (by omega) (Pl.wd_ws A) hb0 hbl
    rwa [Pl.wd_num] at this)
  have hrl : A % b < 4294967296 := Nat.lt_trans (Nat.mod_lt _ hb0) hbl
  obtain ⟨xa, xc, rfl⟩ := hx.form
  obtain ⟨ya, yc, rfl⟩ := hy.form
  change Rd w (.slice ya 1 yc) [b] at hy
  obtain ⟨bY, rfl, hbY, hcy⟩ := hy.at (k := 0) (by simp)
  rw [show ([b].getD 0 0) = b from rfl] at hcy
  obtain ⟨n, hn⟩ : ∃ n, (Pl.wd A).length = n := ⟨_, rfl⟩
  rw [hn] at HC HSH la
  rw [hn]
  change Calls Tryz.prog 70 #[.slice xa n xc, .slice (some ⟨bY, 0, none⟩) 1 yc] w (DivW w A b)
  change Hid (Calls Tryz.prog 134 #[.slice xa n xc, .slice (some ⟨bY, 0, none⟩) 1 yc] w fun e w' => e = .returned (.int .i64 (Pl.ordn A b)) ∧ Below w.heap.size w w') at HC
  clear hx hy hn lb hb
  go_enter Tryz.func70, Tryz.ntmps70
  go_wp2_with fail
  refine HC.out.mono ?_
  rintro e w1 ⟨rfl, hb1⟩
  have hcy1 : w1.cell? ⟨bY, 0, none⟩ = some (.int .u32 (b : Nat)) := by rw [hb1.cell (p := ⟨bY, 0, none⟩) hbY]; exact hcy
  have HS1 := Lib.hid (HSH.out w1 hb1)
  have HB1 := Lib.hid hb1
  have hs1 := hb1.size
  clear hb1 HSH HC
  go_wp2_with fail
  refine HS1.out.mono ?_
  rintro e w2 ⟨vq, rfl, hrq, hb2⟩
  obtain ⟨qa, qc, rfl⟩ := hrq.form
  have HB2 := Lib.hid (chain HB1.out hb2 (by omega))
  have HRQ := Lib.hid hrq
  have hs2 : w.heap.size ≤ w2.heap.size := Nat.le_trans hs1 hb2.size
  obtain ⟨r, hr⟩ : ∃ r, A % b = r := ⟨_, rfl⟩
  rw [hr] at hrl ⊢
  have HR := Lib.hid hr
  have HRW : Hid (Rd (w2.alloc (.cells #[.int .u32 (r : Nat)] 103)) (.slice (some ⟨w2.heap.size, 0, none⟩) 1 1) [r]) := Lib.hid (.inr ⟨w2.heap.size, 1, rfl, Nat.le_refl _, by simp, fun j x hj => by
    match j, hj with
    | 0, hj => simp at hj; subst hj; simp⟩)
  have HT := Lib.hid (trim_any _ _ _ HRW.out (by simp))
  have HTW := Lib.hid (Pl.trimW_wd (xs := [r]) (V := r) (fun x hx => by rw [List.mem_singleton.1 hx]; exact hrl) (by simp [Pl.num]))
  clear hrq hb2 hcy1 hcy hbY HS1 hr
  go_wp2_with fail
  refine HT.out.mono ?_
  rintro e w3 ⟨v3, rfl, hr3, rfl⟩
  rw [HTW.out] at hr3
  have HR3 := Lib.hid hr3
  obtain ⟨ra, rc, rfl⟩ := hr3.form
  clear hr3
  go_wp2_with fail
  go_ret2
  exact ⟨_, _, rfl, HRQ.out.below ((Below.refl _ _).alloc (Nat.le_refl _) _), by rw [HR.out]; exact HR3.out, HB2.out.alloc hs2 _⟩
end Go.Proofs.YtlodbibagmblkaaGreatDoor
