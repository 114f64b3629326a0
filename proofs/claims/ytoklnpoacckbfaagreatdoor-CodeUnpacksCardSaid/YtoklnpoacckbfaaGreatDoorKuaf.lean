/- roomLit, WholeLit: is the mark behind each list still there? Marks in rows and behind them: what the question "is each list its owner's alone?" writes and reads. Is each list of literals its owner's alone? (Printed by gen_own.py.) Trees.Lit: a literal's lists are noted, each ahead of those within. Is each list of instructions its owner's alone? (Printed by gen_own.py.) -/
import Derived.Test.YtoklnpoacckbfaaGreatDoorKuae
import Derived.Test.YtoklnpoacckbfaaGreatDoorKuab
import Derived.Test.YtoklnpoacckbfaaGreatDoorKaai
import Derived.Deep.RegionLaw
namespace Go.Proofs.YtoklnpoacckbfaaGreatDoor
open Go Go.RowKit Go.Lib
theorem LentOf.slice {Q : Nat → Prop} {w : World} {l : List Pl.Lit} {v : Value} (h : LentOf Q w l v) : ∃ g, v = .slice (some ⟨g, 0, none⟩) l.length (l.length + 1) := by
  cases h; exact ⟨_, rfl⟩
set_option maxRecDepth 100000 in
set_option maxHeartbeats 4000000 in
theorem roomLit_any {B : Nat} {w0 : World} {la : List Pl.Lit} {va : Value} (h : LentOf (fun k => k < B) w0 la va) : ∀ (x : Pl.Lit) (w : World), x.items = la → Below B w0 w → B ≤ w0.heap.size →
    Calls Tryz.prog 51 #[litV x va] w fun e w' => e = .returned (.bool true) ∧ Below w.heap.size w w' := by
  induction h with
  | mk l g V hQ hl hg room cells hw hr ih =>
    intro x w hx hbel hB0
    have hs0 := hbel.size
    unfold litV
    clear hx
    have HB1 := Lib.hid (show Below w.heap.size w (w.alloc (.cells #[.int .u8 x.kind, .int .i64 x.n, .int .u64 x.bits, .string x.text, .slice (some ⟨g, 0, none⟩) l.length (l.length + 1)] 37)) from (Below.refl _ _).alloc (Nat.le_refl _) _)
    have HC1 := Lib.hid (heap_alloc_new w (.cells #[.int .u8 x.kind, .int .i64 x.n, .int .u64 x.bits, .string x.text, .slice (some ⟨g, 0, none⟩) l.length (l.length + 1)] 37))
    have hz1 : w.heap.size < (w.alloc (.cells #[.int .u8 x.kind, .int .i64 x.n, .int .u64 x.bits, .string x.text, .slice (some ⟨g, 0, none⟩) l.length (l.length + 1)] 37)).heap.size := by simp
    have room1 : (w.alloc (.cells #[.int .u8 x.kind, .int .i64 x.n, .int .u64 x.bits, .string x.text, .slice (some ⟨g, 0, none⟩) l.length (l.length + 1)] 37)).cell? ⟨g, l.length * 5 + 1, none⟩ = some (.int .i64 (-771)) := ((hbel.trans (HB1.out.mono (by omega))).cell (p := ⟨g, l.length * 5 + 1, none⟩) hQ).trans room
    have hi1 : (l.length : Int) + 1 ≤ (l.length : Int) + 1 := by omega
    have hi2 : (l.length : Int) < (l.length : Int) + 1 := by omega
    have hi3 : (0 : Int) ≤ (l.length : Int) + 1 := by omega
    have hi4 : (0 : Int) ≤ (l.length : Int) := by omega
    go_enter Tryz.func51, Tryz.ntmps51
    go_wp2_with fail
    clear room1
    generalize w.alloc (.cells #[.int .u8 x.kind, .int .i64 x.n, .int .u64 x.bits, .string x.text, .slice (some ⟨g, 0, none⟩) l.length (l.length + 1)] 37) = w1 at HB1 HC1 hz1 ⊢
    go_loopw [4, 5] (fun okv iv wr => ∃ k : Nat, okv = .bool true ∧ iv = .int .i64 k ∧ k ≤ l.length ∧ Below w1.heap.size w1 wr) (fun _ iv _ => l.length - (RowKit.intOf iv).toNat)
    case atStart => exact ⟨0, rfl, rfl, Nat.zero_le _, Below.refl _ _⟩
    case round =>
      obtain ⟨k, rfl, rfl, hk, hb⟩ := hrel
      have hz := hb.size
      have hbw := HB1.out.trans (hb.mono HB1.out.size)
      have hB2 : Below B w0 wr := hbel.trans (hbw.mono (by omega))
      have HBW := Lib.hid hbw
      have HBX := Lib.hid hb
      have hc := (hb.block w.heap.size (by omega)).trans HC1.out
      have c4 : wr.cell? ⟨w.heap.size, 4, none⟩ = some (.slice (some ⟨g, 0, none⟩) l.length (l.length + 1)) := Lib.cell_of_heap hc 4
      have hcl : w.heap.size < wr.heap.size := by omega
      clear hb hbw hc
      by_cases hlt : k < l.length
      · obtain ⟨y, hy⟩ : ∃ y, l[k]? = some y := ⟨_, List.getElem?_eq_getElem hlt⟩
        have hltI : (k : Int) < (l.length : Int) := by omega
        have hk0 : (0 : Int) ≤ (k : Int) := by omega
        obtain ⟨g2, hVk⟩ := (hr k y hy).slice
        have IH := Lib.hid (ih k y hy y wr rfl hB2 hB0)
        have a0 : wr.cell? ⟨g, k * 5, none⟩ = some (.int .u8 y.kind) := (hB2.cell (p := ⟨g, k * 5 + 0, none⟩) hQ).trans (cells k y hy 0 _ rfl)
        have a1 : wr.cell? ⟨g, k * 5 + 1, none⟩ = some (.int .i64 y.n) := (hB2.cell (p := ⟨g, k * 5 + 1, none⟩) hQ).trans (cells k y hy 1 _ rfl)
        have a2 : wr.cell? ⟨g, k * 5 + 2, none⟩ = some (.int .u64 y.bits) := (hB2.cell (p := ⟨g, k * 5 + 2, none⟩) hQ).trans (cells k y hy 2 _ rfl)
        have a3 : wr.cell? ⟨g, k * 5 + 3, none⟩ = some (.string y.text) := (hB2.cell (p := ⟨g, k * 5 + 3, none⟩) hQ).trans (cells k y hy 3 _ rfl)
        have a4 : wr.cell? ⟨g, k * 5 + 4, none⟩ = some (V k) := (hB2.cell (p := ⟨g, k * 5 + 4, none⟩) hQ).trans (cells k y hy 4 _ rfl)
        rw [hVk] at a4 IH
        unfold litV at IH
        clear hVk hy
        go_wp2_with (go_at_call 51; refine IH.out.mono ?_; rintro e w2 ⟨rfl, hb2⟩; have HB2 := Lib.hid hb2; clear hb2)
        go_roundw
        case rel => exact ⟨k + 1, rfl, by go_num, by omega, HBX.out.trans (HB2.out.mono hz)⟩
        case measure => simp [RowKit.intOf]; omega
      · have hltI : (l.length : Int) ≤ (k : Int) := by omega
        go_wp2_with fail
        go_ret
        exact ⟨rfl, HBW.out⟩
set_option maxRecDepth 100000 in
theorem wholeLit_any {B : Nat} {w0 : World} {x y : Pl.Lit} {va vb : Value} (h : LentOf (fun k => k < B) w0 x.items va) (hy : LitsAt B w0 y.items vb) (hB0 : B ≤ w0.heap.size) (w : World) (hbel : Below B w0 w) (hxy : Pl.same x y = true) :
    Calls Tryz.prog 22 #[litV x va, litV y vb] w fun e w' => e = .returned (.bool true) ∧ Below w.heap.size w w' := by
  have SL := Lib.hid (fun (W : World) (hb : Below B w0 W) => sameLit_any h.lits hB0 x y vb W rfl hb hy)
  have RL := Lib.hid (fun (W : World) (hb : Below B w0 W) => roomLit_any h x W rfl hb hB0)
  have hs0 := hbel.size
  rw [hxy] at SL
  unfold litV at SL RL ⊢
  have HB0 := Lib.hid hbel
  have H1 := Lib.hid (show Below w.heap.size w ((w.alloc (.cells #[.int .u8 x.kind, .int .i64 x.n, .int .u64 x.bits, .string x.text, va] 37)).alloc (.cells #[.int .u8 y.kind, .int .i64 y.n, .int .u64 y.bits, .string y.text, vb] 37)) from ((Below.refl _ _).alloc (Nat.le_refl _) _).alloc (by simp) _)
  have HC := Lib.hid (show ((w.alloc (.cells #[.int .u8 x.kind, .int .i64 x.n, .int .u64 x.bits, .string x.text, va] 37)).alloc (.cells #[.int .u8 y.kind, .int .i64 y.n, .int .u64 y.bits, .string y.text, vb] 37)).heap[w.heap.size]? = some (.cells #[.int .u8 x.kind, .int .i64 x.n, .int .u64 x.bits, .string x.text, va] 37 (0, 0)) from by rw [heap_alloc_old _ _ (by simp)]; exact heap_alloc_new w _)
  have hz : w.heap.size < ((w.alloc (.cells #[.int .u8 x.kind, .int .i64 x.n, .int .u64 x.bits, .string x.text, va] 37)).alloc (.cells #[.int .u8 y.kind, .int .i64 y.n, .int .u64 y.bits, .string y.text, vb] 37)).heap.size := by simp; omega
  obtain ⟨g, rfl⟩ := h.slice
  obtain ⟨Ab, capb, rfl⟩ : ∃ A c, vb = .slice A y.items.length c := by cases hy; exact ⟨_, _, rfl⟩
  clear h hy hbel hxy
  go_enter Tryz.func22, Tryz.ntmps22
  go_wp2_with fail
  generalize (w.alloc (.cells #[.int .u8 x.kind, .int .i64 x.n, .int .u64 x.bits, .string x.text, .slice (some ⟨g, 0, none⟩) x.items.length (x.items.length + 1)] 37)).alloc (.cells #[.int .u8 y.kind, .int .i64 y.n, .int .u64 y.bits, .string y.text, .slice Ab y.items.length capb] 37) = w1 at H1 HC hz ⊢
  refine (SL.out w1 (HB0.out.trans (H1.out.mono (by omega)))).mono ?_
  rintro e w2 ⟨rfl, hb2⟩
  have hc := (hb2.block w.heap.size hz).trans HC.out
  have c0 : w2.cell? ⟨w.heap.size, 0, none⟩ = some (.int .u8 x.kind) := Lib.cell_of_heap hc 0
  have c1 : w2.cell? ⟨w.heap.size, 1, none⟩ = some (.int .i64 x.n) := Lib.cell_of_heap hc 1
  have c2 : w2.cell? ⟨w.heap.size, 2, none⟩ = some (.int .u64 x.bits) := Lib.cell_of_heap hc 2
  have c3 : w2.cell? ⟨w.heap.size, 3, none⟩ = some (.string x.text) := Lib.cell_of_heap hc 3
  have c4 : w2.cell? ⟨w.heap.size, 4, none⟩ = some (.slice (some ⟨g, 0, none⟩) x.items.length (x.items.length + 1)) := Lib.cell_of_heap hc 4
  have hz2 : w.heap.size < w2.heap.size := Nat.lt_of_lt_of_le hz hb2.size
  have HB2 := Lib.hid (H1.out.trans (hb2.mono H1.out.size))
  have R2 := Lib.hid (RL.out w2 (HB0.out.trans (HB2.out.mono (by omega))))
  clear hb2 hc
  go_wp2_with fail
  refine R2.out.mono ?_
  rintro e w3 ⟨rfl, hb3⟩
  have HB3 := Lib.hid (HB2.out.trans (hb3.mono HB2.out.size))
  clear hb3
  go_wp2_with fail
  go_ret
  exact ⟨rfl, HB3.out⟩
end Go.Proofs.YtoklnpoacckbfaaGreatDoor
namespace Go.Proofs.YtoklnpoacckbfaaGreatDoor
open Go Go.RowKit Go.Lib
/-- the first k things of row j bear their marks -/
def Spot (size off j k : Nat) (xs : List Value) : Prop := ∀ i, i < k → xs[i * size + off]? = some (.int .i64 ((j : Int) * 20000 + i))
/-- the first m things behind the n-th of row j bear theirs -/
def Behind (size off j n m : Nat) (xs : List Value) : Prop := ∀ i, i < m → xs[(n + i) * size + off]? = some (.int .i64 (-1 - (j : Int) * 20 - i))
theorem Spot.zero (size off j : Nat) (xs : List Value) : Spot size off j 0 xs := fun i hi => by omega
theorem Behind.zero (size off j n : Nat) (xs : List Value) : Behind size off j n 0 xs := fun i hi => by omega
theorem place_lt {size off n k : Nat} (ho : off < size) (hk : k < n) : k * size + off < n * size := by
  have := Nat.mul_le_mul_right size (show k + 1 ≤ n by omega)
  rw [Nat.add_mul] at this; omega
theorem place_ne {size off i k : Nat} (ho : off < size) (hk : i ≠ k) : i * size + off ≠ k * size + off := by
  intro e
  have : i * size = k * size := by omega
  exact hk (Nat.eq_of_mul_eq_mul_right (by omega) this)
theorem Spot.set {size off j k n : Nat} {xs : List Value} (h : Spot size off j k xs) (ho : off < size) (hl : xs.length = n * size) (hk : k < n) {u : Value} (hu : u = .int .i64 ((j : Int) * 20000 + k)) : Spot size off j (k + 1) (xs.set (k * size + off) u) := by
  intro i hi
  have hp := place_lt ho hk
  by_cases hik : i = k
  · subst hik
    rw [List.getElem?_set_self (by omega), hu]
  · rw [List.getElem?_set_ne (fun e => place_ne ho hik e.symm)]
    exact h i (by omega)
theorem Spot.append {size off j k : Nat} {xs ys : List Value} (h : Spot size off j k xs) : Spot size off j k (xs ++ ys) := fun i hi => by
  have := h i hi
  rw [List.getElem?_append_left (List.getElem?_eq_some_iff.1 this).1]; exact this
theorem Behind.append {size off j n m : Nat} {xs ys : List Value} (h : Behind size off j n m xs) : Behind size off j n m (xs ++ ys) := fun i hi => by
  have := h i hi
  rw [List.getElem?_append_left (List.getElem?_eq_some_iff.1 this).1]; exact this
theorem Behind.step {size off j n m : Nat} {xs ys : List Value} (h : Behind size off j n m xs) (hl : xs.length = (n + m) * size) {u : Value} (hy : ys[off]? = some u) (hu : u = .int .i64 (-1 - (j : Int) * 20 - m)) : Behind size off j n (m + 1) (xs ++ ys) := by
  intro i hi
  by_cases him : i = m
  · subst him
    rw [List.getElem?_append_right (by omega), hl, show (n + i) * size + off - (n + i) * size = off by omega, hy, hu]
  · exact h.append i (by omega)
/-- row r bears its marks, and so does what was put behind it (y) -/
structure Done (w : World) (B size off j : Nat) (r y : Value) : Prop where
  rd : ∃ xs, Reads w r xs ∧ Spot size off j (rlen r) xs
  ry : ∃ zs, Reads w y zs ∧ Spot size off j (rlen r) zs ∧ Behind size off j (rlen r) 8 zs
  form : ∃ g cap, y = .slice (some ⟨g, 0, none⟩) (rlen r + 8) cap ∧ g < w.heap.size ∧ (r.ownBlock = some g ∨ B ≤ g)
  lt : ∀ g, r.ownBlock = some g → g < w.heap.size
theorem Reads.save {S : Nat → Prop} {w w' : World} {v : Value} {xs : List Value} (h : Reads w v xs) (s : Save S w w') (hl : ∀ g, v.ownBlock = some g → g < w.heap.size ∧ ¬ S g) : Reads w' v xs :=
  h.block fun g hg => s.block g (hl g hg).1 (hl g hg).2
theorem Done.save {S : Nat → Prop} {w w' : World} {B size off j : Nat} {r y : Value} (h : Done w B size off j r y) (s : Save S w w') (hS : ∀ g, S g → r.ownBlock ≠ some g ∧ y.ownBlock ≠ some g) : Done w' B size off j r y := by
  obtain ⟨⟨xs, h1, h2⟩, ⟨zs, h3, h4, h5⟩, ⟨g, cap, rfl, hg, hb⟩, hlt⟩ := h
  refine ⟨⟨xs, h1.save s fun k hk => ⟨hlt k hk, fun hs => (hS k hs).1 hk⟩, h2⟩, ⟨zs, h3.save s fun k hk => ⟨?_, fun hs => (hS k hs).2 hk⟩, h4, h5⟩, ⟨g, cap, rfl, Nat.lt_of_lt_of_le hg s.size, hb⟩, fun k hk => Nat.lt_of_lt_of_le (hlt k hk) s.size⟩
  simp [Value.ownBlock] at hk
  subst hk
  exact hg
theorem Done.not {w : World} {B size off j : Nat} {r y : Value} (h : Done w B size off j r y) {k : Nat} (hr : r.ownBlock ≠ some k) (hk : k < B) : y.ownBlock ≠ some k := by
  obtain ⟨g, cap, rfl, _, hb⟩ := h.form
  intro e
  simp [Value.ownBlock] at e
  subst e
  rcases hb with hb | hb
  · exact hr hb
  · omega
theorem Done.ylt {w : World} {B size off j : Nat} {r y : Value} (h : Done w B size off j r y) : ∀ k, y.ownBlock = some k → k < w.heap.size := by
  obtain ⟨g, cap, rfl, hg, _⟩ := h.form
  intro k e
  simp [Value.ownBlock] at e
  subst e
  exact hg
theorem Done.cellR {w : World} {B size off j : Nat} {r y : Value} (h : Done w B size off j r y) {g n cap : Nat} (hr : r = .slice (some ⟨g, 0, none⟩) n cap) {k : Nat} (hk : k < n) : w.cell? ⟨g, k * size + off, none⟩ = some (.int .i64 ((j : Int) * 20000 + k)) := by
  obtain ⟨xs, h1, h2⟩ := h.rd
  subst hr
  exact h1 g n cap rfl _ _ (h2 k hk)
theorem Done.cellY {w : World} {B size off j : Nat} {r y : Value} (h : Done w B size off j r y) {g n cap : Nat} (hr : y = .slice (some ⟨g, 0, none⟩) n cap) {k : Nat} (hk : k < rlen r) : w.cell? ⟨g, k * size + off, none⟩ = some (.int .i64 ((j : Int) * 20000 + k)) := by
  obtain ⟨xs, h1, h2, _⟩ := h.ry
  subst hr
  exact h1 g n cap rfl _ _ (h2 k hk)
theorem Done.cellZ {w : World} {B size off j : Nat} {r y : Value} (h : Done w B size off j r y) {g n cap : Nat} (hr : y = .slice (some ⟨g, 0, none⟩) n cap) {k : Nat} (hk : k < 8) : w.cell? ⟨g, (rlen r + k) * size + off, none⟩ = some (.int .i64 (-1 - (j : Int) * 20 - k)) := by
  obtain ⟨xs, h1, _, h2⟩ := h.ry
  subst hr
  exact h1 g n cap rfl _ _ (h2 k hk)
theorem Owns.block_form {w : World} {base : Nat} {e : TypeId} {size : Nat} {v : Value} {n : Nat} {xs : List Value} (h : Owns w base e size v n xs) {g : Nat} (hg : v.ownBlock = some g) : ∃ cap, v = .slice (some ⟨g, 0, none⟩) n cap := by
  rcases h.2 with ⟨rfl, _⟩ | ⟨g', cap, cur, fz, rfl, _⟩
  · simp [Value.ownBlock] at hg
  · simp [Value.ownBlock] at hg
    subst hg
    exact ⟨cap, rfl⟩
theorem wpList_appMark {P : Program} {ops : Array Oper} {rest : List Oper} {o : Oper} {a : Act} {Q : Exit → Act → World → Prop} {w : World} (hgd : o.guard = none) (s x : Operand) (ts te : TypeId) (size by_ : Nat) {z : Value} (hu : P.underlying ts = some (.slice te))
    (hinf : (P.info? te).map (fun i => (i.zero, i.size, i.bytes)) = some (some z, size, by_)) (hzs : z.cells.size = size)
    (ho : o.op = .call { callee := .builtin .append, args := #[s, x], argTypes := #[ts, ts] }) (base : Nat) (v : Value) (n : Nat) (zs : List Value) (hs : a.eval s = v) (hown : Owns w base te size v n zs)
    (cs : Array Value) (hcs : cs.toList.length = 1 * size) (h1 : ∀ u ∈ cs.toList, u.oneCell' = true) (hx : a.eval x = .slice (some ⟨w.heap.size, 0, none⟩) 1 1) (hlen : n ≤ 1099511627796) (hbytes : (n + 1) * by_ ≤ 140737488355328) (hbase : base ≤ w.heap.size)
    (h : ∀ v' w', Owns w' base te size v' (n + 1) (zs ++ cs.toList) → Grow w v w' v' → Reads w' v zs → wpList P ops Q rest (a.put o.dst v') w') : wpList P ops Q (o :: rest) a (w.alloc (.cells cs te)) := by
  obtain ⟨i0, hi, hz0, hz1, hz2⟩ := info_parts hinf
  refine wpList_append_owns_reads hgd s x ts ho base te i0 z size by_ hu hi hz0 hz1 hz2 hzs v n zs hs (hown.alloc _) ⟨w.heap.size, 0, none⟩ 1 1 cs.toList hx hcs (new_cells w cs te) h1 (by unfold maxLen; omega) hbytes (by simp; omega) ?_
  intro v' w' ho' hg' hr'
  exact h v' w' ho' ((Grow.alloc w v _).trans hg') hr'
theorem spot_any (w : World) (i k : Nat) (hi : i ≤ 1099511627776) (hk : k ≤ 1099511627776) : Calls Tryz.prog 79 #[.int .i64 i, .int .i64 k] w fun e w' => e = .returned (.int .i64 ((i : Int) * 20000 + k)) ∧ w = w' := by
  go_enter Tryz.func79, Tryz.ntmps79
  go_wp2_with fail
  go_ret
  exact ⟨rfl, rfl⟩
theorem behind_any (w : World) (i k : Nat) (hi : i ≤ 1099511627776) (hk : k ≤ 1099511627776) : Calls Tryz.prog 80 #[.int .i64 i, .int .i64 k] w fun e w' => e = .returned (.int .i64 (-1 - (i : Int) * 20 - k)) ∧ w = w' := by
  go_enter Tryz.func80, Tryz.ntmps80
  go_wp2_with fail
  go_ret
  exact ⟨rfl, rfl⟩
theorem spot_q (i k : Nat) (hi : i ≤ 1099511627776) (hk : k ≤ 1099511627776) (w : World) (m : Nat) : Calls Tryz.prog 79 #[.int .i64 i, .int .i64 k] (w.drewN m) fun e w' => e = .returned (.int .i64 ((i : Int) * 20000 + k)) ∧ ∃ m, w' = w.drewN m :=
  (spot_any (w.drewN m) i k hi hk).mono fun _ _ ⟨h1, h2⟩ => ⟨h1, m, h2.symm⟩
theorem behind_q (i k : Nat) (hi : i ≤ 1099511627776) (hk : k ≤ 1099511627776) (w : World) (m : Nat) : Calls Tryz.prog 80 #[.int .i64 i, .int .i64 k] (w.drewN m) fun e w' => e = .returned (.int .i64 (-1 - (i : Int) * 20 - k)) ∧ ∃ m, w' = w.drewN m :=
  (behind_any (w.drewN m) i k hi hk).mono fun _ _ ⟨h1, h2⟩ => ⟨h1, m, h2.symm⟩
end Go.Proofs.YtoklnpoacckbfaaGreatDoor
namespace Go.Proofs.YtoklnpoacckbfaaGreatDoor
open Go Go.RowKit Go.Lib
theorem info_rowm : (Tryz.prog.info? 22).map (fun i => (i.zero, i.size, i.bytes)) = some (some (.slice none 0 0), 1, 24) := by kernel_rfl
set_option maxRecDepth 100000 in
set_option maxHeartbeats 8000000 in
theorem ownm_any (w : World) (v : Value) (rs : List Value) (hv : Owns w 0 22 1 v rs.length rs) (hm : Mine w 37 5 rs) (ha : Apart (v :: rs)) (hlen : rs.length ≤ 1099511627776) (hsm : ∀ r ∈ rs, rlen r ≤ 1099511627776) :
    Calls Tryz.prog 82 #[v] w fun e w' => e = .returned (.bool true) ∧ Save (fun q => In rs q) w w' := by
  have HV := Lib.hid hv
  have HM := Lib.hid hm
  have HA := Lib.hid ha
  have HSM := Lib.hid hsm
  obtain ⟨Av, cv, rfl⟩ := hv.form
  have HVN := Lib.hid (show ∀ q, (Value.slice Av rs.length cv).ownBlock = some q → ¬ In rs q from fun q e h => (HA.out.of_cons).2 q e h)
  clear hv hm ha hsm
  go_enter Tryz.func82, Tryz.ntmps82
  go_wp2_with fail
  go_loopw [4] (fun iv wr => ∃ i : Nat, iv = .int .i64 i ∧ i ≤ rs.length ∧ Save (fun q => In rs q) w wr ∧ ∀ (j : Nat) (r : Value), rs[j]? = some r → ∃ xs, Owns wr 0 37 5 r (rlen r) xs ∧ (j < i → Spot 5 1 j (rlen r) xs)) (fun iv _ => rs.length - (RowKit.intOf iv).toNat)
  case atStart => exact ⟨0, rfl, Nat.zero_le _, Save.refl _ _, fun j r hr => by obtain ⟨xs, hx⟩ := HM.out r (List.mem_of_getElem? hr); exact ⟨xs, hx, fun h => by omega⟩⟩
  case round =>
    obtain ⟨i, rfl, hi, hS, hR⟩ := hrel
    have HS := Lib.hid hS
    have HR := Lib.hid hR
    clear hS hR
    by_cases hlt : i < rs.length
    · have hltI : (i : Int) < (rs.length : Int) := by omega
      have hi0 : (0 : Int) ≤ (i : Int) := by omega
      obtain ⟨r, hr⟩ : ∃ r, rs[i]? = some r := ⟨_, List.getElem?_eq_getElem hlt⟩
      obtain ⟨gv, cv', hve, _, hgv, _⟩ := HV.out.some_of (by omega)
      cases hve
      have hcr : wr.cell? ⟨gv, i, none⟩ = some r := (HS.out.cell i hgv (HVN.out gv rfl)).trans (HV.out.cellAt hr)
      have hvl : gv < wr.heap.size := Nat.lt_of_lt_of_le hgv HS.out.size
      obtain ⟨xs0, ho0, _⟩ := HR.out i r hr
      have HO0 := Lib.hid ho0
      have HRI := Lib.hid hr
      have hsr := HSM.out r (List.mem_of_getElem? hr)
      have HGN := Lib.hid (show r.ownBlock ≠ some gv from fun e => HVN.out gv rfl ⟨r, List.mem_of_getElem? hr, e⟩)
      obtain ⟨Ar, cr, hre⟩ := ho0.form
      obtain ⟨n, hn⟩ : ∃ n, rlen r = n := ⟨_, rfl⟩
      rw [hn] at hre hsr HO0
      have HRE := Lib.hid hre
      have HN := Lib.hid hn
      rw [hre] at hcr
      clear hr ho0 hre hn
      obtain ⟨wk0, hwk0⟩ : ∃ z, z = wr := ⟨wr, rfl⟩
      subst hwk0
      go_wp2_with fail
      go_loopw [5] (fun kv wr => ∃ k : Nat, kv = .int .i64 k ∧ k ≤ n ∧ Save (fun q => r.ownBlock = some q) wk0 wr ∧ ∃ xs, Owns wr 0 37 5 r n xs ∧ Spot 5 1 i k xs) (fun kv _ => n - (RowKit.intOf kv).toNat)
      case atStart => exact ⟨0, rfl, Nat.zero_le _, Save.refl _ _, xs0, HO0.out, Spot.zero _ _ _ _⟩
      case round =>
        obtain ⟨k, rfl, hk, hS2, xs, hO, hSp⟩ := hrel
        have HS2 := Lib.hid hS2
        have HO := Lib.hid hO
        have HSP := Lib.hid hSp
        have hcr2 : wr.cell? ⟨gv, i, none⟩ = some (.slice Ar n cr) := (HS2.out.cell i hvl HGN.out).trans hcr
        have hvl2 : gv < wr.heap.size := Nat.lt_of_lt_of_le hvl HS2.out.size
        clear hS2 hO hSp
        by_cases hkn : k < n
        · have hkI : (k : Int) < (n : Int) := by omega
          have hk0 : (0 : Int) ≤ (k : Int) := by omega
          obtain ⟨gr, cr', hrr, _, hgr, hnc⟩ := HO.out.some_of (by omega)
          have e := HRE.out.symm.trans hrr
          cases e
          have hlx := HO.out.1
          have hpl := place_lt (size := 5) (off := 1) (by omega) hkn
          obtain ⟨z, hz⟩ : ∃ z, xs[k * 5 + 1]? = some z := ⟨_, List.getElem?_eq_getElem (by omega)⟩
          have hO' := HO.out
          rw [HRE.out] at hO'
          have y0 : wr.cell? ⟨gr, k * 5 + 1, none⟩ = some z := hO'.cellAt hz
          have yf : wr.frozen? ⟨gr, k * 5 + 1, none⟩ = false := hO'.free (by have := Nat.mul_le_mul_right 5 hnc; omega)
          have HST := Lib.hid (hO'.stored (j := k * 5 + 1) (.int .i64 ((i : Int) * 20000 + k)))
          have hx1 : (xs.set (k * 5 + 1) (.int .i64 ((i : Int) * 20000 + k))).length = n * 5 := by rw [List.length_set]; exact hlx
          have HST2 := Lib.hid (hO'.drew.stored (j := k * 5 + 1) (.int .i64 ((i : Int) * 20000 + k)))
          clear hO' hz
          go_wp2_with fail
          go_region_with (go_at_call 79; refine (spot_any _ i k (by omega) (by omega)).mono ?_; rintro e w9 ⟨rfl, rfl⟩)
          all_goals
            go_wp2_with fail
            go_roundw
            case rel =>
              refine ⟨k + 1, by go_num, by omega, by first | exact HS2.out.set ⟨gr, k * 5 + 1, none⟩ _ (fun _ => by rw [HRE.out]; rfl) | exact HS2.out.drew.set ⟨gr, k * 5 + 1, none⟩ _ (fun _ => by rw [HRE.out]; rfl), _, by rw [HRE.out]; first | exact HST.out | exact HST2.out, HSP.out.set (by omega) hlx hkn rfl⟩
            case measure => simp [RowKit.intOf]; omega
        · have hkI : (n : Int) ≤ (k : Int) := by omega
          have hke : k = n := by omega
          subst hke
          go_wp2_with fail
          go_roundw
          case rel =>
            refine ⟨i + 1, by go_num, by omega, HS.out.trans HS2.out (fun q _ e => ⟨r, List.mem_of_getElem? HRI.out, e⟩), ?_⟩
            intro j q hq
            by_cases hj : j = i
            · subst hj
              have : q = r := by rw [HRI.out] at hq; cases hq; rfl
              subst this
              exact ⟨xs, by rw [HN.out]; exact HO.out, fun _ => by rw [HN.out]; exact HSP.out⟩
            · obtain ⟨ys, h1, h2⟩ := HR.out j q hq
              exact ⟨ys, h1.save HS2.out (fun g hg e => (HA.out.of_cons).1.two hq HRI.out hj g hg e), fun h => h2 (by omega)⟩
          case measure => simp [RowKit.intOf]; omega
    · have hltI : (rs.length : Int) ≤ (i : Int) := by omega
      have hie : i = rs.length := by omega
      obtain ⟨w1, hw1⟩ : ∃ z, z = wr := ⟨wr, rfl⟩
      subst hw1
      subst hie
      clear hi hlt
      have HRL := Lib.hid (show ∀ q, In rs q → q < w1.heap.size from fun q h => Nat.lt_of_lt_of_le (HM.out.lt q h) HS.out.size)
      have HR1 := Lib.hid (show ∀ (j : Nat) (r : Value), rs[j]? = some r → ∃ xs, Owns w1 0 37 5 r (rlen r) xs ∧ Spot 5 1 j (rlen r) xs from fun j r hr => by
        obtain ⟨xs, h1, h2⟩ := HR.out j r hr
        exact ⟨xs, h1, h2 (List.getElem?_eq_some_iff.1 hr).1⟩)
      clear HR
      go_wp2_with fail
      have HN1 := Lib.hid (Owns.nil w1 w1.heap.size 22 1)
      generalize hq0 : Value.slice none 0 0 = q0 at HN1
      have hq0' := hq0.symm
      clear hq0
      go_loopw [3, 6] (fun qv iv wr => ∃ (i : Nat) (ys : List Value), iv = .int .i64 i ∧ i ≤ rs.length ∧ ys.length = i ∧ Save (fun q => In rs q) w1 wr ∧ Owns wr w1.heap.size 22 1 qv ys.length ys ∧
          (∀ (j : Nat) (r y : Value), rs[j]? = some r → ys[j]? = some y → Done wr w1.heap.size 5 1 j r y ∧ (∀ q, qv.ownBlock = some q → y.ownBlock ≠ some q)) ∧
          (∀ (j : Nat) (r : Value), i ≤ j → rs[j]? = some r → ∃ xs, Owns wr 0 37 5 r (rlen r) xs ∧ Spot 5 1 j (rlen r) xs)) (fun _ iv _ => rs.length - (RowKit.intOf iv).toNat)
      case atStart => exact ⟨0, [], rfl, Nat.zero_le _, rfl, Save.refl _ _, HN1.out, fun j r y _ hy => by simp at hy, fun j r _ hr => HR1.out j r hr⟩
      case round =>
        obtain ⟨i, ys, rfl, hi, hyl, hS1, hOL, hD, hR⟩ := hrel
        have HS1 := Lib.hid hS1
        have HOL := Lib.hid hOL
        have HD := Lib.hid hD
        have HR := Lib.hid hR
        have hz1 := hS1.size
        clear hS1 hOL hD hR
        by_cases hlt : i < rs.length
        · have hltI : (i : Int) < (rs.length : Int) := by omega
          have hi0 : (0 : Int) ≤ (i : Int) := by omega
          obtain ⟨r, hr⟩ : ∃ r, rs[i]? = some r := ⟨_, List.getElem?_eq_getElem hlt⟩
          obtain ⟨gv, cv', hve, _, hgv, _⟩ := HV.out.some_of (by omega)
          cases hve
          have hvn := HVN.out gv rfl
          have hv1 : gv < w1.heap.size := Nat.lt_of_lt_of_le hgv HS.out.size
          have hcr : wr.cell? ⟨gv, i, none⟩ = some r := (HS1.out.cell i hv1 hvn).trans ((HS.out.cell i hgv hvn).trans (HV.out.cellAt hr))
          obtain ⟨xs0, ho0, hsp0⟩ := HR.out i r (Nat.le_refl _) hr
          have HO0 := Lib.hid ho0
          have HSP0 := Lib.hid hsp0
          have HRI := Lib.hid hr
          have hsr := HSM.out r (List.mem_of_getElem? hr)
          have HRB := Lib.hid (show ∀ q, r.ownBlock = some q → q < w1.heap.size from fun q e => HRL.out q ⟨r, List.mem_of_getElem? hr, e⟩)
          obtain ⟨Ar, cr, hre⟩ := ho0.form
          obtain ⟨n, hn⟩ : ∃ n, rlen r = n := ⟨_, rfl⟩
          rw [hn] at hre hsr HO0 HSP0
          have HRE := Lib.hid hre
          have HN := Lib.hid hn
          rw [hre] at hcr
          clear hr ho0 hre hn hsp0
          obtain ⟨wk0, hwk0⟩ : ∃ z, z = wr := ⟨wr, rfl⟩
          subst hwk0
          go_wp2_with fail
          obtain ⟨x0, hx0⟩ : ∃ x, Value.slice Ar n cr = x := ⟨_, rfl⟩
          have HX0 := Lib.hid hx0
          rw [hx0]
          clear hx0
          go_loopw [7, 8] (fun xv kv wr => ∃ (k : Nat) (zs : List Value), kv = .int .i64 k ∧ k ≤ 8 ∧ Save (fun q => r.ownBlock = some q) wk0 wr ∧ Owns wr 0 37 5 xv (n + k) zs ∧ Spot 5 1 i n zs ∧ Behind 5 1 i n k zs ∧
              (∃ xs, Reads wr r xs ∧ Spot 5 1 i n xs) ∧ (∀ q, xv.ownBlock = some q → r.ownBlock = some q ∨ wk0.heap.size ≤ q)) (fun _ kv _ => 8 - (RowKit.intOf kv).toNat)
          case atStart => exact ⟨0, xs0, rfl, by omega, Save.refl _ _, by rw [← HX0.out, ← HRE.out]; exact HO0.out, HSP0.out, Behind.zero _ _ _ _ _, ⟨xs0, HO0.out.reads, HSP0.out⟩, fun q e => .inl (by rw [HRE.out, HX0.out]; exact e)⟩
          case round =>
            obtain ⟨k, zs, rfl, hk, hS2, hO, hSp, hBe, hRx, hNe⟩ := hrel
            have HS2 := Lib.hid hS2
            have HO := Lib.hid hO
            have HSP := Lib.hid hSp
            have HBE := Lib.hid hBe
            have HRX := Lib.hid hRx
            have HNE := Lib.hid hNe
            have hz2 := hS2.size
            clear hS2 hO hSp hBe hRx hNe
            by_cases hkn : k < 8
            · have hkI : (k : Int) < 8 := by omega
              go_wp2_with (first
                | (go_at_call 80; refine (behind_any _ i k (by omega) (by omega)).mono ?_; rintro e w9 ⟨rfl, rfl⟩)
                | (at_builtin; go_loud (refine wpList_appMark rfl (.tmp 52) (.tmp 57) 22 37 5 64 Tryz.underlying22 info_lit rfl rfl 0 _ (n + k) zs rfl HO.out _ rfl ?h1 rfl (by omega) (by omega) (by omega) ?_)))
              case h1 =>
                first | exact ⟨rfl, rfl, rfl⟩ | exact ⟨rfl, rfl, rfl, rfl, rfl⟩ | rfl
              intro v' w' ho' hg' hrd'
              have SG := Lib.hid (show Save (fun q => u7.ownBlock = some q) _ w' from (Save.refl _ _).grow hg' (fun q e _ => e))
              go_wp2_with fail
              go_roundw
              case rel =>
                have hxl := HO.out.lt
                have hl := HO.out.1
                refine ⟨k + 1, _, by go_num, by omega, HS2.out.trans SG.out (fun q hq e => ?_), ho', HSP.out.append, HBE.out.step hl (u := _) rfl rfl, ?_, ?_⟩
                · rcases HNE.out q e with e' | e'
                  · exact e'
                  · omega
                · by_cases hsame : ∃ q, u7.ownBlock = some q ∧ r.ownBlock = some q
                  · obtain ⟨q, hq1, hq2⟩ := hsame
                    refine ⟨zs, hrd'.of_same ?_ (fun _ _ h => h), HSP.out⟩
                    intro g hg
                    rw [hq2] at hg
                    cases hg
                    obtain ⟨cu, hu⟩ := HO.out.block_form hq1
                    exact ⟨_, _, hu⟩
                  · obtain ⟨xs, hx1, hx2⟩ := HRX.out
                    refine ⟨xs, hx1.save SG.out (fun g hg => ⟨?_, fun e => hsame ⟨g, e, hg⟩⟩), hx2⟩
                    have := HRB.out g hg
                    omega
                · intro q hq
                  rcases hg'.2 with e | e
                  · exact HNE.out q (e ▸ hq)
                  · exact .inr (by have := e q hq; omega)
              case measure => simp [RowKit.intOf]; omega
            · have hkI : (8 : Int) ≤ (k : Int) := by omega
              have hke : k = 8 := by omega
              subst hke
              obtain ⟨Ax, cx, hxv⟩ := HO.out.form
              have hul := HOL.out.lt
              have HUL := Lib.hid hul
              have HOL2 := Lib.hid (HOL.out.save HS2.out (fun q hq e => by have := HRB.out q e; have := (hul q hq).1; omega))
              subst hxv
              clear hul
              go_wp2_with (at_builtin; go_loud (refine wpList_appRow rfl (.tmp 59) (.tmp 61) 43 22 Tryz.underlying43 info_rowm rfl w1.heap.size _ ys rfl HOL2.out (.slice Ax (n + 8) cx) rfl rfl (by omega) (by omega) ?_))
              intro v' w' ho' hg'
              have SG := Lib.hid (show Save (fun q => u3.ownBlock = some q) _ w' from (Save.refl _ _).grow hg' (fun q e _ => e))
              have HG' := Lib.hid hg'.2
              have HO' := Lib.hid ho'
              clear ho' hg'
              go_wp2_with fail
              go_roundw
              case rel =>
                have SA : Save (fun q => r.ownBlock = some q ∨ u3.ownBlock = some q) wk0 w' := (HS2.out.mono (fun _ _ e => .inl e)).trans SG.out (fun _ _ e => .inr e)
                have hxl : ∀ q, (Value.slice Ax (n + 8) cx).ownBlock = some q → u3.ownBlock ≠ some q := fun q e e' => by
                  rcases HNE.out q e with h | h
                  · have := HRB.out q h; have := (HUL.out q e').1; omega
                  · have := (HUL.out q e').2; omega
                have hx7 := HO.out.lt
                refine ⟨i + 1, ys ++ [(Value.slice Ax (n + 8) cx)], by go_num, by omega, by simp [hyl], HS1.out.trans SA (fun q hq e => ?_), by rw [List.length_append]; first | exact HO'.out | (rw [hyl]; exact HO'.out), ?_, ?_⟩
                · rcases e with e | e
                  · exact ⟨r, List.mem_of_getElem? HRI.out, e⟩
                  · have := (HUL.out q e).1; omega
                · intro j r' y hr' hy
                  by_cases hj : j < ys.length
                  · rw [List.getElem?_append_left hj] at hy
                    obtain ⟨d, hd⟩ := HD.out j r' y hr' hy
                    have hr'B := fun q e => HRL.out q ⟨r', List.mem_of_getElem? hr', e⟩
                    refine ⟨d.save SA (fun g e => ?_), fun q e => ?_⟩
                    · rcases e with e | e
                      · have hne : r'.ownBlock ≠ some g := fun e' => (HA.out.of_cons).1.two hr' HRI.out (by omega) g e' e
                        exact ⟨hne, d.not hne (HRB.out g e)⟩
                      · exact ⟨fun e' => by have := hr'B g e'; have := (HUL.out g e).1; omega, hd g e⟩
                    · rcases HG'.out with h | h
                      · exact hd q (h ▸ e)
                      · intro e'
                        have := d.ylt q e'
                        have := h q e
                        omega
                  · rw [List.getElem?_append_right (by omega)] at hy
                    have hj2 : j < rs.length := (List.getElem?_eq_some_iff.1 hr').1
                    have hji : j = i := by
                      cases hii : j - ys.length with
                      | zero => omega
                      | succ m => rw [hii] at hy; simp at hy
                    subst hji
                    have hyy : y = (Value.slice Ax (n + 8) cx) := by rw [hyl, Nat.sub_self] at hy; simpa using hy.symm
                    have hrr : r' = r := by rw [HRI.out] at hr'; cases hr'; rfl
                    rw [hyy]
                    subst hrr
                    obtain ⟨xs, hx1, hx2⟩ := HRX.out
                    obtain ⟨g, cap, hgf, _, hgl, _⟩ := HO.out.some_of (by omega)
                    refine ⟨⟨⟨xs, hx1.save SG.out (fun q e => ⟨by have := HRB.out q e; omega, fun e' => by have := HRB.out q e; have := (HUL.out q e').1; omega⟩), by rw [HN.out]; exact hx2⟩, ⟨zs, HO.out.reads.save SG.out (fun q e => ⟨(hx7 q e).2, fun e' => hxl q e e'⟩), by rw [HN.out]; exact HSP.out, by rw [HN.out]; exact HBE.out⟩, ⟨g, cap, by rw [HN.out]; exact hgf, Nat.lt_of_lt_of_le hgl SG.out.size, ?_⟩, fun q e => by have := HRB.out q e; have := SG.out.size; omega⟩, fun q e => ?_⟩
                    · have he : (Value.slice Ax (n + 8) cx).ownBlock = some g := by rw [hgf]; rfl
                      rcases HNE.out g he with h | h
                      · exact .inl h
                      · exact .inr (by omega)
                    · rcases HG'.out with h | h
                      · exact fun e' => hxl q e' (h ▸ e)
                      · intro e'
                        have := (hx7 q e').2
                        have := h q e
                        omega
                · intro j r' hj hr'
                  obtain ⟨xs, hx1, hx2⟩ := HR.out j r' (by omega) hr'
                  refine ⟨xs, hx1.save SA (fun g e' e => ?_), hx2⟩
                  rcases e with e | e
                  · exact (HA.out.of_cons).1.two hr' HRI.out (by omega) g e' e
                  · have := HRL.out g ⟨r', List.mem_of_getElem? hr', e'⟩
                    have := (HUL.out g e).1
                    omega
              case measure => simp [RowKit.intOf]; omega
        · have hltI : (rs.length : Int) ≤ (i : Int) := by omega
          have hie : i = rs.length := by omega
          obtain ⟨wE, hwE⟩ : ∃ z, z = wr := ⟨wr, rfl⟩
          subst hwE
          subst hie
          clear hi hlt
          go_wp2_with fail
          go_loopw [9] (fun iv wr => ∃ i : Nat, iv = .int .i64 i ∧ i ≤ rs.length ∧ Save (fun _ => False) wE wr) (fun iv _ => rs.length - (RowKit.intOf iv).toNat)
          case atStart => exact ⟨0, rfl, Nat.zero_le _, Save.refl _ _⟩
          case round =>
            obtain ⟨i, rfl, hi, hSE⟩ := hrel
            have HSE := Lib.hid hSE
            clear hSE
            by_cases hlt : i < rs.length
            · have hltI : (i : Int) < (rs.length : Int) := by omega
              have hltY : (i : Int) < (ys.length : Int) := by omega
              have hi0 : (0 : Int) ≤ (i : Int) := by omega
              obtain ⟨r, hr⟩ : ∃ r, rs[i]? = some r := ⟨_, List.getElem?_eq_getElem hlt⟩
              obtain ⟨y, hy⟩ : ∃ y, ys[i]? = some y := ⟨_, List.getElem?_eq_getElem (by omega)⟩
              obtain ⟨gv, cv', hve, _, hgv, _⟩ := HV.out.some_of (by omega)
              cases hve
              have hvn := HVN.out gv rfl
              have hv1 : gv < w1.heap.size := Nat.lt_of_lt_of_le hgv HS.out.size
              have hvE : gv < wE.heap.size := Nat.lt_of_lt_of_le hv1 HS1.out.size
              have hcr : wr.cell? ⟨gv, i, none⟩ = some r := (HSE.out.cell i hvE (fun f => f)).trans ((HS1.out.cell i hv1 hvn).trans ((HS.out.cell i hgv hvn).trans (HV.out.cellAt hr)))
              obtain ⟨gl, cl, hle, _, hgl, _⟩ := HOL.out.some_of (by omega)
              cases hle
              have hcy : wr.cell? ⟨gl, i, none⟩ = some y := (HSE.out.cell i hgl (fun f => f)).trans (HOL.out.cellAt hy)
              have HDD := Lib.hid (((HD.out i r y hr hy).1).save HSE.out (fun _ f => f.elim))
              have hsr := HSM.out r (List.mem_of_getElem? hr)
              obtain ⟨xs0, ho0⟩ := HM.out r (List.mem_of_getElem? hr)
              obtain ⟨Ar, cr, hre⟩ := ho0.form
              obtain ⟨gy, cy, hye, _, _⟩ := HDD.out.form
              obtain ⟨n, hn⟩ : ∃ n, rlen r = n := ⟨_, rfl⟩
              rw [hn] at hre hye hsr ho0
              have HO0 := Lib.hid ho0
              have HRE := Lib.hid hre
              have HYE := Lib.hid hye
              have HN := Lib.hid hn
              rw [hre] at hcr
              rw [hye] at hcy
              clear hr hy ho0 hre hye hn
              obtain ⟨wk0, hwk0⟩ : ∃ z, z = wr := ⟨wr, rfl⟩
              subst hwk0
              go_wp2_with fail
              go_loopw [11] (fun kv wr => ∃ k : Nat, kv = .int .i64 k ∧ k ≤ n ∧ Save (fun _ => False) wk0 wr) (fun kv _ => n - (RowKit.intOf kv).toNat)
              case atStart => exact ⟨0, rfl, Nat.zero_le _, Save.refl _ _⟩
              case round =>
                obtain ⟨k, rfl, hk, hS2⟩ := hrel
                have HS2 := Lib.hid hS2
                have hz2 := hS2.size
                have hvk : gv < wk0.heap.size := Nat.lt_of_lt_of_le hvE HSE.out.size
                have hlk : gl < wk0.heap.size := Nat.lt_of_lt_of_le hgl HSE.out.size
                have hcr2 := (hS2.cell i hvk (fun f => f)).trans hcr
                have hcy2 := (hS2.cell i hlk (fun f => f)).trans hcy
                have HD2 := Lib.hid (HDD.out.save hS2 (fun _ f => f.elim))
                clear hS2
                by_cases hkn : k < n
                · have hkI : (k : Int) < (n : Int) := by omega
                  have hkI8 : (k : Int) < (n : Int) + 8 := by omega
                  have hk0 : (0 : Int) ≤ (k : Int) := by omega
                  obtain ⟨gr, cr', hrr, _, _, _⟩ := HO0.out.some_of (by omega)
                  have e := HRE.out.symm.trans hrr
                  cases e
                  have x1 : wr.cell? ⟨gr, k * 5 + 1, none⟩ = some (.int .i64 ((i : Int) * 20000 + k)) := HD2.out.cellR HRE.out hkn
                  have x2 : wr.cell? ⟨gy, k * 5 + 1, none⟩ = some (.int .i64 ((i : Int) * 20000 + k)) := HD2.out.cellY HYE.out (by rw [HN.out]; exact hkn)
                  go_wp2_with fail
                  go_quiet (first | (go_at_call 79; exact spot_q i k (by omega) (by omega) _ _))
                  go_wp2_with fail
                  go_roundw
                  case rel => exact ⟨k + 1, by go_num, by omega, ⟨HS2.out.os, HS2.out.tape, HS2.out.output, HS2.out.size, HS2.out.block⟩⟩
                  case measure => simp [RowKit.intOf]; omega
                · have hkI : (n : Int) ≤ (k : Int) := by omega
                  have hke : k = n := by omega
                  subst hke
                  obtain ⟨wm0, hwm0⟩ : ∃ z, z = wr := ⟨wr, rfl⟩
                  subst hwm0
                  go_wp2_with fail
                  go_loopw [12] (fun kv wr => ∃ k : Nat, kv = .int .i64 k ∧ k ≤ 8 ∧ Save (fun _ => False) wm0 wr) (fun kv _ => 8 - (RowKit.intOf kv).toNat)
                  case atStart => exact ⟨0, rfl, by omega, Save.refl _ _⟩
                  case round =>
                    obtain ⟨m, rfl, hm, hS3⟩ := hrel
                    have HS3 := Lib.hid hS3
                    have hcy3 := (hS3.cell i (Nat.lt_of_lt_of_le hlk hz2) (fun f => f)).trans hcy2
                    have HD3 := Lib.hid (HD2.out.save hS3 (fun _ f => f.elim))
                    clear hS3
                    by_cases hm8 : m < 8
                    · have hmI : (m : Int) < 8 := by omega
                      have hkI8 : (k : Int) + (m : Int) < (k : Int) + 8 := by omega
                      have hk0 : (0 : Int) ≤ (k : Int) + (m : Int) := by omega
                      have hto : ((k : Int) + (m : Int)).toNat = k + m := by omega
                      have x1 : wr.cell? ⟨gy, (k + m) * 5 + 1, none⟩ = some (.int .i64 (-1 - (i : Int) * 20 - m)) := by
                        have := HD3.out.cellZ HYE.out hm8
                        rw [HN.out] at this
                        exact this
                      go_wp2_with fail
                      go_quiet (first | (go_at_call 80; exact behind_q i m (by omega) (by omega) _ _))
                      go_wp2_with fail
                      go_roundw
                      case rel => exact ⟨m + 1, by go_num, by omega, ⟨HS3.out.os, HS3.out.tape, HS3.out.output, HS3.out.size, HS3.out.block⟩⟩
                      case measure => simp [RowKit.intOf]; omega
                    · have hmI : (8 : Int) ≤ (m : Int) := by omega
                      go_wp2_with fail
                      go_roundw
                      case rel => exact ⟨i + 1, by go_num, by omega, (HSE.out.trans HS2.out (fun _ _ f => f)).trans HS3.out (fun _ _ f => f)⟩
                      case measure => simp [RowKit.intOf]; omega
            · have hltI : (rs.length : Int) ≤ (i : Int) := by omega
              go_wp2_with fail
              go_ret
              exact ⟨rfl, HS.out.trans (HS1.out.trans HSE.out (fun _ _ f => f.elim)) (fun _ _ e => e)⟩
end Go.Proofs.YtoklnpoacckbfaaGreatDoor
namespace Go.Proofs.YtoklnpoacckbfaaGreatDoor
open Go Go.RowKit Go.Lib
set_option maxRecDepth 100000 in
set_option maxHeartbeats 4000000 in
theorem treesLit_any {w0 : World} {la : List Pl.Lit} {va : Value} {rs0 : List Value} (h : LitsOwn w0 37 la va rs0) : ∀ (x : Pl.Lit) (w : World) (G : Nat) (Q : Value) (rows : List Value), x.items = la → Save (fun k => ¬ In rs0 k) w0 w → ListAt w G 3 22 Q rows →
    ¬ In rs0 G → (∀ k, Q.ownBlock = some k → ¬ In rs0 k) → rows.length + rs0.length ≤ 1099511627776 →
    Calls Tryz.prog 50 #[.pointer (some ⟨G, 2, none⟩), litV x va] w fun e w' => e = .returned (.tuple #[]) ∧
      ∃ Q', ListAt w' G 3 22 Q' (rows ++ rs0) ∧ Save (fun k => k = G ∨ Q.ownBlock = some k) w w' ∧ (∀ k, Q'.ownBlock = some k → Q.ownBlock = some k ∨ w.heap.size ≤ k) ∧ Keeps G 3 w w' := by
  induction h with
  | mk v ps rs h hl hw hrl hr ih =>
    intro x w G Q rows hx hS hL hG hQ hlen
    obtain ⟨Av, cv, rfl⟩ := h.form
    have hs0 := hS.size
    have HRM := Lib.hid (show ∀ (i : Nat) (r : List Value), rs[i]? = some r → ∀ k, In r k → In (Value.slice Av ps.length cv :: rs.flatten) k from fun i r hr k hk => In.cons.2 (.inr (mem_flat_at hr hk)))
    have HO := Lib.hid (h.save hS (fun k hk e => e (In.cons.2 (.inl hk))))
    have hvG : (Value.slice Av ps.length cv).ownBlock ≠ some G := fun e => hG (In.cons.2 (.inl e))
    have HVG := Lib.hid hvG
    have HVQ := Lib.hid (show ∀ k, (Value.slice Av ps.length cv).ownBlock = some k → ¬ (k = G ∨ Q.ownBlock = some k) from fun k e h => h.elim (fun h => hvG (h ▸ e)) (fun h => hQ k h (In.cons.2 (.inl e))))
    have hQw := hL.o.lt
    have HQW := Lib.hid hQw
    have HSW := Lib.hid hS
    have HG := Lib.hid hG
    have HQ := Lib.hid hQ
    have HL0 := Lib.hid hL
    simp only [List.length_cons] at hlen
    unfold litV
    clear hx h hw hS hG hQ hvG hQw
    have S1 := Save.none_alloc w (.cells #[.int .u8 x.kind, .int .i64 x.n, .int .u64 x.bits, .string x.text, .slice Av ps.length cv] 37)
    have HL1 := Lib.hid (hL.save S1 (fun f => f) (fun _ _ f => f))
    have HS1 := Lib.hid S1
    have hGw := hL.lt
    have HC1 := Lib.hid (heap_alloc_new w (.cells #[.int .u8 x.kind, .int .i64 x.n, .int .u64 x.bits, .string x.text, .slice Av ps.length cv] 37))
    have hz1 : (w.alloc (.cells #[.int .u8 x.kind, .int .i64 x.n, .int .u64 x.bits, .string x.text, .slice Av ps.length cv] 37)).heap.size = w.heap.size + 1 := by simp
    clear hL S1
    go_enter Tryz.func50, Tryz.ntmps50
    go_wp2_with fail
    generalize w.alloc (.cells #[.int .u8 x.kind, .int .i64 x.n, .int .u64 x.bits, .string x.text, .slice Av ps.length cv] 37) = w1 at HL1 HS1 HC1 hz1 ⊢
    have HZ1 := Lib.hid hz1
    have hXl : w.heap.size < w1.heap.size := by omega
    clear hz1
    obtain ⟨l3, lf, ll, _, _⟩ := HL1.out
    have c4 : w1.cell? ⟨w.heap.size, 4, none⟩ = some (.slice Av ps.length cv) := Lib.cell_of_heap HC1.out 4
    first
      | go_region_law (
          refine step_appRow rfl (.tmp 9) (.tmp 12) 43 22 Tryz.underlying43 info_rowm rfl 0 _ rows rfl (Owns.drew HL1.out.o) (.slice Av ps.length cv) rfl (by exact rfl) (by omega) (by omega) ?_
          intro v' w14 ho hg
          obtain ⟨qa, qc, rfl⟩ := ho.form
          have SG : Save (fun g => Q.ownBlock = some g) w1 w14 := ((Save.refl (fun g => Q.ownBlock = some g) w1).drew).grow hg (fun g hg _ => hg)
          have HL14 := Lib.hid (show w14.cell? ⟨G, 3, none⟩ = some Q ∧ w14.frozen? ⟨G, 3, none⟩ = false ∧ G < w14.heap.size from ⟨(SG.cell 3 HL1.out.lt (fun e => HL1.out.ne e)).trans HL1.out.c, (SG.frozen 3 HL1.out.lt (fun e => HL1.out.ne e)).trans HL1.out.f, Nat.lt_of_lt_of_le HL1.out.lt SG.size⟩)
          have v3 := HL14.out.1
          have vf := HL14.out.2.1
          have vl := HL14.out.2.2
          have HV := Lib.hid ho
          have HGR := Lib.hid hg
          have SGH := Lib.hid SG
          clear ho hg SG)
      | fail
    all_goals
      have HNE := Lib.hid (show ∀ g, (Value.slice qa (rows.length + 1) qc).ownBlock = some g → Q.ownBlock = some g ∨ w1.heap.size ≤ g from fun g hg => by
        rcases HGR.out.2 with e | e
        · exact .inl (e ▸ hg)
        · exact .inr (e g hg))
      have HL2 := Lib.hid (HL1.out.put (v' := .slice qa (rows.length + 1) qc) (rs' := rows ++ [.slice Av ps.length cv]) (SGH.out : Save (fun g => Q.ownBlock = some g) w1 w14) (by rw [List.length_append]; exact HV.out) HNE.out)
      have HS2 := Lib.hid (show Save (fun k => k = G ∨ Q.ownBlock = some k) w1 (w14.setCell ⟨G, 3, none⟩ (.slice qa (rows.length + 1) qc)) from ((show Save (fun g => Q.ownBlock = some g) w1 w14 from SGH.out).mono (fun _ _ e => .inr e)).trans ((Save.refl (fun k => k = G) w14).set ⟨G, 3, none⟩ (.slice qa (rows.length + 1) qc) (fun _ => rfl)) (fun _ _ e => .inl e))
      have HK2 := Lib.hid (show Keeps G 3 w1 (w14.setCell ⟨G, 3, none⟩ (.slice qa (rows.length + 1) qc)) from (Keeps.of_save SGH.out HL1.out.lt (fun e => HL1.out.ne e)).trans (Keeps.set G 3 w14 _))
      clear v3 vf vl
      go_wp2_with fail
      generalize w14.setCell ⟨G, 3, none⟩ (.slice qa (rows.length + 1) qc) = w2 at HL2 HS2 HK2 ⊢
      have hz2 := HS2.out.size
      go_loopw [4] (fun iv wr => ∃ (i : Nat) (Q2 : Value), iv = .int .i64 i ∧ i ≤ ps.length ∧ ListAt wr G 3 22 Q2 (rows ++ .slice Av ps.length cv :: (rs.take i).flatten) ∧ Save (fun k => k = G ∨ Q.ownBlock = some k) w1 wr ∧ (∀ k, Q2.ownBlock = some k → Q.ownBlock = some k ∨ w1.heap.size ≤ k) ∧ Keeps G 3 w1 wr) (fun iv _ => ps.length - (RowKit.intOf iv).toNat)
      case atStart => exact ⟨0, _, rfl, Nat.zero_le _, HL2.out, HS2.out, HNE.out, HK2.out⟩
      case round =>
        obtain ⟨i, Q2, rfl, hi, hL, hS, hQ, hKp⟩ := hrel
        have HKP := Lib.hid hKp
        clear hKp
        have HL := Lib.hid hL
        have HS := Lib.hid hS
        have HQ2 := Lib.hid hQ
        have hzr := hS.size
        have hc := (hS.block w.heap.size hXl (fun e => by
          rcases e with e | e
          · omega
          · have := (HQW.out _ e).2; omega)).trans HC1.out
        have c4r : wr.cell? ⟨w.heap.size, 4, none⟩ = some (.slice Av ps.length cv) := Lib.cell_of_heap hc 4
        have hXr : w.heap.size < wr.heap.size := by omega
        clear hL hS hQ hc
        by_cases hlt : i < ps.length
        · have hltI : (i : Int) < (ps.length : Int) := by omega
          have hi0 : (0 : Int) ≤ (i : Int) := by omega
          obtain ⟨p, hp⟩ : ∃ p, ps[i]? = some p := ⟨_, List.getElem?_eq_getElem hlt⟩
          obtain ⟨r, hrr⟩ : ∃ r, rs[i]? = some r := ⟨_, List.getElem?_eq_getElem (by omega)⟩
          have HSR := Lib.hid (show Save (fun k => k = G ∨ Q.ownBlock = some k) w wr from (HS1.out.mono (T := fun k => k = G ∨ Q.ownBlock = some k) (fun _ _ f => f.elim)).trans HS.out (fun _ _ e => e))
          have hOr := HO.out.save HSR.out HVQ.out
          obtain ⟨g, cap, hve, _, hgl, _⟩ := hOr.some_of (by omega)
          cases hve
          obtain ⟨a0, a1, a2, a3, a4⟩ := hOr.lit5 hp
          obtain ⟨Ai, capi, hV⟩ := (hr i p r hp hrr).slice
          have hin := HRM.out i r hrr
          have hlr := (hr i p r hp hrr).mine.lt
          have hrl2 : (rs.take i).flatten.length + r.length ≤ rs.flatten.length := flat_len hrr
          have IH := Lib.hid (ih i p r hp hrr p.1 wr G Q2 (rows ++ .slice (some ⟨g, 0, none⟩) ps.length cv :: (rs.take i).flatten) rfl
            ((HSW.out.mono (T := fun k => ¬ In r k) (fun k _ h e => h (hin k e))).trans HSR.out (fun k _ h e => h.elim (fun h => HG.out (h ▸ hin k e)) (fun h => HQ.out k h (hin k e)))) HL.out (fun e => HG.out (hin G e))
            (fun k e hk => by
              rcases HQ2.out k e with h | h
              · exact HQ.out k h (hin k hk)
              · have := hlr k hk; omega) (by simp only [List.length_append, List.length_cons]; omega))
          rw [hV] at a4 IH
          unfold litV at IH
          have HRR := Lib.hid hrr
          clear hV hp hrr hOr hin hlr
          go_wp2_with (go_at_call 50; refine IH.out.mono ?_; rintro e w5 ⟨rfl, Q3, h3, s3, q3, kp3⟩; have HK3 := Lib.hid kp3; have HL3 := Lib.hid h3; have HS3 := Lib.hid s3; have HQ3 := Lib.hid q3; clear h3 s3 q3 kp3)
          go_roundw
          case rel =>
            refine ⟨i + 1, Q3, by go_num, by omega, ?_, HS.out.trans HS3.out (fun k hk e => ?_), fun k e => ?_, HKP.out.trans HK3.out⟩
            · have : rows ++ Value.slice (some ⟨g, 0, none⟩) ps.length cv :: (rs.take (i + 1)).flatten = (rows ++ Value.slice (some ⟨g, 0, none⟩) ps.length cv :: (rs.take i).flatten) ++ r := by
                rw [List.take_add_one, HRR.out]
                simp
              rw [this]
              exact HL3.out
            · rcases e with e | e
              · exact .inl e
              · rcases HQ2.out k e with h | h
                · exact .inr h
                · omega
            · rcases HQ3.out k e with h | h
              · exact HQ2.out k h
              · exact .inr (by omega)
          case measure => simp [RowKit.intOf]; omega
        · have hltI : (ps.length : Int) ≤ (i : Int) := by omega
          have hie : i = ps.length := by omega
          go_wp2_with fail
          go_end0
          refine ⟨rfl, Q2, ?_, (HS1.out.mono (T := fun k => k = G ∨ Q.ownBlock = some k) (fun _ _ f => f.elim)).trans HS.out (fun _ _ e => e), fun k e => (HQ2.out k e).imp id (fun h => by have := HS1.out.size; omega), (Keeps.of_save HS1.out hGw (fun f => f)).trans HKP.out⟩
          have := HL.out
          rw [List.take_of_length_le (by omega)] at this
          exact this
end Go.Proofs.YtoklnpoacckbfaaGreatDoor
namespace Go.Proofs.YtoklnpoacckbfaaGreatDoor
open Go Go.RowKit Go.Lib
theorem info_rowi : (Tryz.prog.info? 56).map (fun i => (i.zero, i.size, i.bytes)) = some (some (.slice none 0 0), 1, 24) := by kernel_rfl
set_option maxRecDepth 100000 in
set_option maxHeartbeats 8000000 in
theorem owni_any (w : World) (v : Value) (rs : List Value) (hv : Owns w 0 56 1 v rs.length rs) (hm : Mine w 61 3 rs) (ha : Apart (v :: rs)) (hlen : rs.length ≤ 1099511627776) (hsm : ∀ r ∈ rs, rlen r ≤ 1099511627776) :
    Calls Tryz.prog 52 #[v] w fun e w' => e = .returned (.bool true) ∧ Save (fun q => In rs q) w w' := by
  have HV := Lib.hid hv
  have HM := Lib.hid hm
  have HA := Lib.hid ha
  have HSM := Lib.hid hsm
  obtain ⟨Av, cv, rfl⟩ := hv.form
  have HVN := Lib.hid (show ∀ q, (Value.slice Av rs.length cv).ownBlock = some q → ¬ In rs q from fun q e h => (HA.out.of_cons).2 q e h)
  clear hv hm ha hsm
  go_enter Tryz.func52, Tryz.ntmps52
  go_wp2_with fail
  go_loopw [4] (fun iv wr => ∃ i : Nat, iv = .int .i64 i ∧ i ≤ rs.length ∧ Save (fun q => In rs q) w wr ∧ ∀ (j : Nat) (r : Value), rs[j]? = some r → ∃ xs, Owns wr 0 61 3 r (rlen r) xs ∧ (j < i → Spot 3 2 j (rlen r) xs)) (fun iv _ => rs.length - (RowKit.intOf iv).toNat)
  case atStart => exact ⟨0, rfl, Nat.zero_le _, Save.refl _ _, fun j r hr => by obtain ⟨xs, hx⟩ := HM.out r (List.mem_of_getElem? hr); exact ⟨xs, hx, fun h => by omega⟩⟩
  case round =>
    obtain ⟨i, rfl, hi, hS, hR⟩ := hrel
    have HS := Lib.hid hS
    have HR := Lib.hid hR
    clear hS hR
    by_cases hlt : i < rs.length
    · have hltI : (i : Int) < (rs.length : Int) := by omega
      have hi0 : (0 : Int) ≤ (i : Int) := by omega
      obtain ⟨r, hr⟩ : ∃ r, rs[i]? = some r := ⟨_, List.getElem?_eq_getElem hlt⟩
      obtain ⟨gv, cv', hve, _, hgv, _⟩ := HV.out.some_of (by omega)
      cases hve
      have hcr : wr.cell? ⟨gv, i, none⟩ = some r := (HS.out.cell i hgv (HVN.out gv rfl)).trans (HV.out.cellAt hr)
      have hvl : gv < wr.heap.size := Nat.lt_of_lt_of_le hgv HS.out.size
      obtain ⟨xs0, ho0, _⟩ := HR.out i r hr
      have HO0 := Lib.hid ho0
      have HRI := Lib.hid hr
      have hsr := HSM.out r (List.mem_of_getElem? hr)
      have HGN := Lib.hid (show r.ownBlock ≠ some gv from fun e => HVN.out gv rfl ⟨r, List.mem_of_getElem? hr, e⟩)
      obtain ⟨Ar, cr, hre⟩ := ho0.form
      obtain ⟨n, hn⟩ : ∃ n, rlen r = n := ⟨_, rfl⟩
      rw [hn] at hre hsr HO0
      have HRE := Lib.hid hre
      have HN := Lib.hid hn
      rw [hre] at hcr
      clear hr ho0 hre hn
      obtain ⟨wk0, hwk0⟩ : ∃ z, z = wr := ⟨wr, rfl⟩
      subst hwk0
      go_wp2_with fail
      go_loopw [5] (fun kv wr => ∃ k : Nat, kv = .int .i64 k ∧ k ≤ n ∧ Save (fun q => r.ownBlock = some q) wk0 wr ∧ ∃ xs, Owns wr 0 61 3 r n xs ∧ Spot 3 2 i k xs) (fun kv _ => n - (RowKit.intOf kv).toNat)
      case atStart => exact ⟨0, rfl, Nat.zero_le _, Save.refl _ _, xs0, HO0.out, Spot.zero _ _ _ _⟩
      case round =>
        obtain ⟨k, rfl, hk, hS2, xs, hO, hSp⟩ := hrel
        have HS2 := Lib.hid hS2
        have HO := Lib.hid hO
        have HSP := Lib.hid hSp
        have hcr2 : wr.cell? ⟨gv, i, none⟩ = some (.slice Ar n cr) := (HS2.out.cell i hvl HGN.out).trans hcr
        have hvl2 : gv < wr.heap.size := Nat.lt_of_lt_of_le hvl HS2.out.size
        clear hS2 hO hSp
        by_cases hkn : k < n
        · have hkI : (k : Int) < (n : Int) := by omega
          have hk0 : (0 : Int) ≤ (k : Int) := by omega
          obtain ⟨gr, cr', hrr, _, hgr, hnc⟩ := HO.out.some_of (by omega)
          have e := HRE.out.symm.trans hrr
          cases e
          have hlx := HO.out.1
          have hpl := place_lt (size := 3) (off := 2) (by omega) hkn
          obtain ⟨z, hz⟩ : ∃ z, xs[k * 3 + 2]? = some z := ⟨_, List.getElem?_eq_getElem (by omega)⟩
          have hO' := HO.out
          rw [HRE.out] at hO'
          have y0 : wr.cell? ⟨gr, k * 3 + 2, none⟩ = some z := hO'.cellAt hz
          have yf : wr.frozen? ⟨gr, k * 3 + 2, none⟩ = false := hO'.free (by have := Nat.mul_le_mul_right 3 hnc; omega)
          have HST := Lib.hid (hO'.stored (j := k * 3 + 2) (.int .i64 ((i : Int) * 20000 + k)))
          have hx1 : (xs.set (k * 3 + 2) (.int .i64 ((i : Int) * 20000 + k))).length = n * 3 := by rw [List.length_set]; exact hlx
          have HST2 := Lib.hid (hO'.drew.stored (j := k * 3 + 2) (.int .i64 ((i : Int) * 20000 + k)))
          clear hO' hz
          go_wp2_with fail
          go_region_with (go_at_call 79; refine (spot_any _ i k (by omega) (by omega)).mono ?_; rintro e w9 ⟨rfl, rfl⟩)
          all_goals
            go_wp2_with fail
            go_roundw
            case rel =>
              refine ⟨k + 1, by go_num, by omega, by first | exact HS2.out.set ⟨gr, k * 3 + 2, none⟩ _ (fun _ => by rw [HRE.out]; rfl) | exact HS2.out.drew.set ⟨gr, k * 3 + 2, none⟩ _ (fun _ => by rw [HRE.out]; rfl), _, by rw [HRE.out]; first | exact HST.out | exact HST2.out, HSP.out.set (by omega) hlx hkn rfl⟩
            case measure => simp [RowKit.intOf]; omega
        · have hkI : (n : Int) ≤ (k : Int) := by omega
          have hke : k = n := by omega
          subst hke
          go_wp2_with fail
          go_roundw
          case rel =>
            refine ⟨i + 1, by go_num, by omega, HS.out.trans HS2.out (fun q _ e => ⟨r, List.mem_of_getElem? HRI.out, e⟩), ?_⟩
            intro j q hq
            by_cases hj : j = i
            · subst hj
              have : q = r := by rw [HRI.out] at hq; cases hq; rfl
              subst this
              exact ⟨xs, by rw [HN.out]; exact HO.out, fun _ => by rw [HN.out]; exact HSP.out⟩
            · obtain ⟨ys, h1, h2⟩ := HR.out j q hq
              exact ⟨ys, h1.save HS2.out (fun g hg e => (HA.out.of_cons).1.two hq HRI.out hj g hg e), fun h => h2 (by omega)⟩
          case measure => simp [RowKit.intOf]; omega
    · have hltI : (rs.length : Int) ≤ (i : Int) := by omega
      have hie : i = rs.length := by omega
      obtain ⟨w1, hw1⟩ : ∃ z, z = wr := ⟨wr, rfl⟩
      subst hw1
      subst hie
      clear hi hlt
      have HRL := Lib.hid (show ∀ q, In rs q → q < w1.heap.size from fun q h => Nat.lt_of_lt_of_le (HM.out.lt q h) HS.out.size)
      have HR1 := Lib.hid (show ∀ (j : Nat) (r : Value), rs[j]? = some r → ∃ xs, Owns w1 0 61 3 r (rlen r) xs ∧ Spot 3 2 j (rlen r) xs from fun j r hr => by
        obtain ⟨xs, h1, h2⟩ := HR.out j r hr
        exact ⟨xs, h1, h2 (List.getElem?_eq_some_iff.1 hr).1⟩)
      clear HR
      go_wp2_with fail
      have HN1 := Lib.hid (Owns.nil w1 w1.heap.size 56 1)
      generalize hq0 : Value.slice none 0 0 = q0 at HN1
      have hq0' := hq0.symm
      clear hq0
      go_loopw [3, 6] (fun qv iv wr => ∃ (i : Nat) (ys : List Value), iv = .int .i64 i ∧ i ≤ rs.length ∧ ys.length = i ∧ Save (fun q => In rs q) w1 wr ∧ Owns wr w1.heap.size 56 1 qv ys.length ys ∧
          (∀ (j : Nat) (r y : Value), rs[j]? = some r → ys[j]? = some y → Done wr w1.heap.size 3 2 j r y ∧ (∀ q, qv.ownBlock = some q → y.ownBlock ≠ some q)) ∧
          (∀ (j : Nat) (r : Value), i ≤ j → rs[j]? = some r → ∃ xs, Owns wr 0 61 3 r (rlen r) xs ∧ Spot 3 2 j (rlen r) xs)) (fun _ iv _ => rs.length - (RowKit.intOf iv).toNat)
      case atStart => exact ⟨0, [], rfl, Nat.zero_le _, rfl, Save.refl _ _, HN1.out, fun j r y _ hy => by simp at hy, fun j r _ hr => HR1.out j r hr⟩
      case round =>
        obtain ⟨i, ys, rfl, hi, hyl, hS1, hOL, hD, hR⟩ := hrel
        have HS1 := Lib.hid hS1
        have HOL := Lib.hid hOL
        have HD := Lib.hid hD
        have HR := Lib.hid hR
        have hz1 := hS1.size
        clear hS1 hOL hD hR
        by_cases hlt : i < rs.length
        · have hltI : (i : Int) < (rs.length : Int) := by omega
          have hi0 : (0 : Int) ≤ (i : Int) := by omega
          obtain ⟨r, hr⟩ : ∃ r, rs[i]? = some r := ⟨_, List.getElem?_eq_getElem hlt⟩
          obtain ⟨gv, cv', hve, _, hgv, _⟩ := HV.out.some_of (by omega)
          cases hve
          have hvn := HVN.out gv rfl
          have hv1 : gv < w1.heap.size := Nat.lt_of_lt_of_le hgv HS.out.size
          have hcr : wr.cell? ⟨gv, i, none⟩ = some r := (HS1.out.cell i hv1 hvn).trans ((HS.out.cell i hgv hvn).trans (HV.out.cellAt hr))
          obtain ⟨xs0, ho0, hsp0⟩ := HR.out i r (Nat.le_refl _) hr
          have HO0 := Lib.hid ho0
          have HSP0 := Lib.hid hsp0
          have HRI := Lib.hid hr
          have hsr := HSM.out r (List.mem_of_getElem? hr)
          have HRB := Lib.hid (show ∀ q, r.ownBlock = some q → q < w1.heap.size from fun q e => HRL.out q ⟨r, List.mem_of_getElem? hr, e⟩)
          obtain ⟨Ar, cr, hre⟩ := ho0.form
          obtain ⟨n, hn⟩ : ∃ n, rlen r = n := ⟨_, rfl⟩
          rw [hn] at hre hsr HO0 HSP0
          have HRE := Lib.hid hre
          have HN := Lib.hid hn
          rw [hre] at hcr
          clear hr ho0 hre hn hsp0
          obtain ⟨wk0, hwk0⟩ : ∃ z, z = wr := ⟨wr, rfl⟩
          subst hwk0
          go_wp2_with fail
          obtain ⟨x0, hx0⟩ : ∃ x, Value.slice Ar n cr = x := ⟨_, rfl⟩
          have HX0 := Lib.hid hx0
          rw [hx0]
          clear hx0
          go_loopw [7, 8] (fun xv kv wr => ∃ (k : Nat) (zs : List Value), kv = .int .i64 k ∧ k ≤ 8 ∧ Save (fun q => r.ownBlock = some q) wk0 wr ∧ Owns wr 0 61 3 xv (n + k) zs ∧ Spot 3 2 i n zs ∧ Behind 3 2 i n k zs ∧
              (∃ xs, Reads wr r xs ∧ Spot 3 2 i n xs) ∧ (∀ q, xv.ownBlock = some q → r.ownBlock = some q ∨ wk0.heap.size ≤ q)) (fun _ kv _ => 8 - (RowKit.intOf kv).toNat)
          case atStart => exact ⟨0, xs0, rfl, by omega, Save.refl _ _, by rw [← HX0.out, ← HRE.out]; exact HO0.out, HSP0.out, Behind.zero _ _ _ _ _, ⟨xs0, HO0.out.reads, HSP0.out⟩, fun q e => .inl (by rw [HRE.out, HX0.out]; exact e)⟩
          case round =>
            obtain ⟨k, zs, rfl, hk, hS2, hO, hSp, hBe, hRx, hNe⟩ := hrel
            have HS2 := Lib.hid hS2
            have HO := Lib.hid hO
            have HSP := Lib.hid hSp
            have HBE := Lib.hid hBe
            have HRX := Lib.hid hRx
            have HNE := Lib.hid hNe
            have hz2 := hS2.size
            clear hS2 hO hSp hBe hRx hNe
            by_cases hkn : k < 8
            · have hkI : (k : Int) < 8 := by omega
              go_wp2_with (first
                | (go_at_call 80; refine (behind_any _ i k (by omega) (by omega)).mono ?_; rintro e w9 ⟨rfl, rfl⟩)
                | (at_builtin; go_loud (refine wpList_appMark rfl (.tmp 52) (.tmp 57) 56 61 3 24 Tryz.underlying56 info_ins rfl rfl 0 _ (n + k) zs rfl HO.out _ rfl ?h1 rfl (by omega) (by omega) (by omega) ?_)))
              case h1 =>
                first | exact ⟨rfl, rfl, rfl⟩ | exact ⟨rfl, rfl, rfl, rfl, rfl⟩ | rfl
              intro v' w' ho' hg' hrd'
              have SG := Lib.hid (show Save (fun q => u7.ownBlock = some q) _ w' from (Save.refl _ _).grow hg' (fun q e _ => e))
              go_wp2_with fail
              go_roundw
              case rel =>
                have hxl := HO.out.lt
                have hl := HO.out.1
                refine ⟨k + 1, _, by go_num, by omega, HS2.out.trans SG.out (fun q hq e => ?_), ho', HSP.out.append, HBE.out.step hl (u := _) rfl rfl, ?_, ?_⟩
                · rcases HNE.out q e with e' | e'
                  · exact e'
                  · omega
                · by_cases hsame : ∃ q, u7.ownBlock = some q ∧ r.ownBlock = some q
                  · obtain ⟨q, hq1, hq2⟩ := hsame
                    refine ⟨zs, hrd'.of_same ?_ (fun _ _ h => h), HSP.out⟩
                    intro g hg
                    rw [hq2] at hg
                    cases hg
                    obtain ⟨cu, hu⟩ := HO.out.block_form hq1
                    exact ⟨_, _, hu⟩
                  · obtain ⟨xs, hx1, hx2⟩ := HRX.out
                    refine ⟨xs, hx1.save SG.out (fun g hg => ⟨?_, fun e => hsame ⟨g, e, hg⟩⟩), hx2⟩
                    have := HRB.out g hg
                    omega
                · intro q hq
                  rcases hg'.2 with e | e
                  · exact HNE.out q (e ▸ hq)
                  · exact .inr (by have := e q hq; omega)
              case measure => simp [RowKit.intOf]; omega
            · have hkI : (8 : Int) ≤ (k : Int) := by omega
              have hke : k = 8 := by omega
              subst hke
              obtain ⟨Ax, cx, hxv⟩ := HO.out.form
              have hul := HOL.out.lt
              have HUL := Lib.hid hul
              have HOL2 := Lib.hid (HOL.out.save HS2.out (fun q hq e => by have := HRB.out q e; have := (hul q hq).1; omega))
              subst hxv
              clear hul
              go_wp2_with (at_builtin; go_loud (refine wpList_appRow rfl (.tmp 59) (.tmp 61) 40 56 Tryz.underlying40 info_rowi rfl w1.heap.size _ ys rfl HOL2.out (.slice Ax (n + 8) cx) rfl rfl (by omega) (by omega) ?_))
              intro v' w' ho' hg'
              have SG := Lib.hid (show Save (fun q => u3.ownBlock = some q) _ w' from (Save.refl _ _).grow hg' (fun q e _ => e))
              have HG' := Lib.hid hg'.2
              have HO' := Lib.hid ho'
              clear ho' hg'
              go_wp2_with fail
              go_roundw
              case rel =>
                have SA : Save (fun q => r.ownBlock = some q ∨ u3.ownBlock = some q) wk0 w' := (HS2.out.mono (fun _ _ e => .inl e)).trans SG.out (fun _ _ e => .inr e)
                have hxl : ∀ q, (Value.slice Ax (n + 8) cx).ownBlock = some q → u3.ownBlock ≠ some q := fun q e e' => by
                  rcases HNE.out q e with h | h
                  · have := HRB.out q h; have := (HUL.out q e').1; omega
                  · have := (HUL.out q e').2; omega
                have hx7 := HO.out.lt
                refine ⟨i + 1, ys ++ [(Value.slice Ax (n + 8) cx)], by go_num, by omega, by simp [hyl], HS1.out.trans SA (fun q hq e => ?_), by rw [List.length_append]; first | exact HO'.out | (rw [hyl]; exact HO'.out), ?_, ?_⟩
                · rcases e with e | e
                  · exact ⟨r, List.mem_of_getElem? HRI.out, e⟩
                  · have := (HUL.out q e).1; omega
                · intro j r' y hr' hy
                  by_cases hj : j < ys.length
                  · rw [List.getElem?_append_left hj] at hy
                    obtain ⟨d, hd⟩ := HD.out j r' y hr' hy
                    have hr'B := fun q e => HRL.out q ⟨r', List.mem_of_getElem? hr', e⟩
                    refine ⟨d.save SA (fun g e => ?_), fun q e => ?_⟩
                    · rcases e with e | e
                      · have hne : r'.ownBlock ≠ some g := fun e' => (HA.out.of_cons).1.two hr' HRI.out (by omega) g e' e
                        exact ⟨hne, d.not hne (HRB.out g e)⟩
                      · exact ⟨fun e' => by have := hr'B g e'; have := (HUL.out g e).1; omega, hd g e⟩
                    · rcases HG'.out with h | h
                      · exact hd q (h ▸ e)
                      · intro e'
                        have := d.ylt q e'
                        have := h q e
                        omega
                  · rw [List.getElem?_append_right (by omega)] at hy
                    have hj2 : j < rs.length := (List.getElem?_eq_some_iff.1 hr').1
                    have hji : j = i := by
                      cases hii : j - ys.length with
                      | zero => omega
                      | succ m => rw [hii] at hy; simp at hy
                    subst hji
                    have hyy : y = (Value.slice Ax (n + 8) cx) := by rw [hyl, Nat.sub_self] at hy; simpa using hy.symm
                    have hrr : r' = r := by rw [HRI.out] at hr'; cases hr'; rfl
                    rw [hyy]
                    subst hrr
                    obtain ⟨xs, hx1, hx2⟩ := HRX.out
                    obtain ⟨g, cap, hgf, _, hgl, _⟩ := HO.out.some_of (by omega)
                    refine ⟨⟨⟨xs, hx1.save SG.out (fun q e => ⟨by have := HRB.out q e; omega, fun e' => by have := HRB.out q e; have := (HUL.out q e').1; omega⟩), by rw [HN.out]; exact hx2⟩, ⟨zs, HO.out.reads.save SG.out (fun q e => ⟨(hx7 q e).2, fun e' => hxl q e e'⟩), by rw [HN.out]; exact HSP.out, by rw [HN.out]; exact HBE.out⟩, ⟨g, cap, by rw [HN.out]; exact hgf, Nat.lt_of_lt_of_le hgl SG.out.size, ?_⟩, fun q e => by have := HRB.out q e; have := SG.out.size; omega⟩, fun q e => ?_⟩
                    · have he : (Value.slice Ax (n + 8) cx).ownBlock = some g := by rw [hgf]; rfl
                      rcases HNE.out g he with h | h
                      · exact .inl h
                      · exact .inr (by omega)
                    · rcases HG'.out with h | h
                      · exact fun e' => hxl q e' (h ▸ e)
                      · intro e'
                        have := (hx7 q e').2
                        have := h q e
                        omega
                · intro j r' hj hr'
                  obtain ⟨xs, hx1, hx2⟩ := HR.out j r' (by omega) hr'
                  refine ⟨xs, hx1.save SA (fun g e' e => ?_), hx2⟩
                  rcases e with e | e
                  · exact (HA.out.of_cons).1.two hr' HRI.out (by omega) g e' e
                  · have := HRL.out g ⟨r', List.mem_of_getElem? hr', e'⟩
                    have := (HUL.out g e).1
                    omega
              case measure => simp [RowKit.intOf]; omega
        · have hltI : (rs.length : Int) ≤ (i : Int) := by omega
          have hie : i = rs.length := by omega
          obtain ⟨wE, hwE⟩ : ∃ z, z = wr := ⟨wr, rfl⟩
          subst hwE
          subst hie
          clear hi hlt
          go_wp2_with fail
          go_loopw [9] (fun iv wr => ∃ i : Nat, iv = .int .i64 i ∧ i ≤ rs.length ∧ Save (fun _ => False) wE wr) (fun iv _ => rs.length - (RowKit.intOf iv).toNat)
          case atStart => exact ⟨0, rfl, Nat.zero_le _, Save.refl _ _⟩
          case round =>
            obtain ⟨i, rfl, hi, hSE⟩ := hrel
            have HSE := Lib.hid hSE
            clear hSE
            by_cases hlt : i < rs.length
            · have hltI : (i : Int) < (rs.length : Int) := by omega
              have hltY : (i : Int) < (ys.length : Int) := by omega
              have hi0 : (0 : Int) ≤ (i : Int) := by omega
              obtain ⟨r, hr⟩ : ∃ r, rs[i]? = some r := ⟨_, List.getElem?_eq_getElem hlt⟩
              obtain ⟨y, hy⟩ : ∃ y, ys[i]? = some y := ⟨_, List.getElem?_eq_getElem (by omega)⟩
              obtain ⟨gv, cv', hve, _, hgv, _⟩ := HV.out.some_of (by omega)
              cases hve
              have hvn := HVN.out gv rfl
              have hv1 : gv < w1.heap.size := Nat.lt_of_lt_of_le hgv HS.out.size
              have hvE : gv < wE.heap.size := Nat.lt_of_lt_of_le hv1 HS1.out.size
              have hcr : wr.cell? ⟨gv, i, none⟩ = some r := (HSE.out.cell i hvE (fun f => f)).trans ((HS1.out.cell i hv1 hvn).trans ((HS.out.cell i hgv hvn).trans (HV.out.cellAt hr)))
              obtain ⟨gl, cl, hle, _, hgl, _⟩ := HOL.out.some_of (by omega)
              cases hle
              have hcy : wr.cell? ⟨gl, i, none⟩ = some y := (HSE.out.cell i hgl (fun f => f)).trans (HOL.out.cellAt hy)
              have HDD := Lib.hid (((HD.out i r y hr hy).1).save HSE.out (fun _ f => f.elim))
              have hsr := HSM.out r (List.mem_of_getElem? hr)
              obtain ⟨xs0, ho0⟩ := HM.out r (List.mem_of_getElem? hr)
              obtain ⟨Ar, cr, hre⟩ := ho0.form
              obtain ⟨gy, cy, hye, _, _⟩ := HDD.out.form
              obtain ⟨n, hn⟩ : ∃ n, rlen r = n := ⟨_, rfl⟩
              rw [hn] at hre hye hsr ho0
              have HO0 := Lib.hid ho0
              have HRE := Lib.hid hre
              have HYE := Lib.hid hye
              have HN := Lib.hid hn
              rw [hre] at hcr
              rw [hye] at hcy
              clear hr hy ho0 hre hye hn
              obtain ⟨wk0, hwk0⟩ : ∃ z, z = wr := ⟨wr, rfl⟩
              subst hwk0
              go_wp2_with fail
              go_loopw [11] (fun kv wr => ∃ k : Nat, kv = .int .i64 k ∧ k ≤ n ∧ Save (fun _ => False) wk0 wr) (fun kv _ => n - (RowKit.intOf kv).toNat)
              case atStart => exact ⟨0, rfl, Nat.zero_le _, Save.refl _ _⟩
              case round =>
                obtain ⟨k, rfl, hk, hS2⟩ := hrel
                have HS2 := Lib.hid hS2
                have hz2 := hS2.size
                have hvk : gv < wk0.heap.size := Nat.lt_of_lt_of_le hvE HSE.out.size
                have hlk : gl < wk0.heap.size := Nat.lt_of_lt_of_le hgl HSE.out.size
                have hcr2 := (hS2.cell i hvk (fun f => f)).trans hcr
                have hcy2 := (hS2.cell i hlk (fun f => f)).trans hcy
                have HD2 := Lib.hid (HDD.out.save hS2 (fun _ f => f.elim))
                clear hS2
                by_cases hkn : k < n
                · have hkI : (k : Int) < (n : Int) := by omega
                  have hkI8 : (k : Int) < (n : Int) + 8 := by omega
                  have hk0 : (0 : Int) ≤ (k : Int) := by omega
                  obtain ⟨gr, cr', hrr, _, _, _⟩ := HO0.out.some_of (by omega)
                  have e := HRE.out.symm.trans hrr
                  cases e
                  have x1 : wr.cell? ⟨gr, k * 3 + 2, none⟩ = some (.int .i64 ((i : Int) * 20000 + k)) := HD2.out.cellR HRE.out hkn
                  have x2 : wr.cell? ⟨gy, k * 3 + 2, none⟩ = some (.int .i64 ((i : Int) * 20000 + k)) := HD2.out.cellY HYE.out (by rw [HN.out]; exact hkn)
                  go_wp2_with fail
                  go_quiet (first | (go_at_call 79; exact spot_q i k (by omega) (by omega) _ _))
                  go_wp2_with fail
                  go_roundw
                  case rel => exact ⟨k + 1, by go_num, by omega, ⟨HS2.out.os, HS2.out.tape, HS2.out.output, HS2.out.size, HS2.out.block⟩⟩
                  case measure => simp [RowKit.intOf]; omega
                · have hkI : (n : Int) ≤ (k : Int) := by omega
                  have hke : k = n := by omega
                  subst hke
                  obtain ⟨wm0, hwm0⟩ : ∃ z, z = wr := ⟨wr, rfl⟩
                  subst hwm0
                  go_wp2_with fail
                  go_loopw [12] (fun kv wr => ∃ k : Nat, kv = .int .i64 k ∧ k ≤ 8 ∧ Save (fun _ => False) wm0 wr) (fun kv _ => 8 - (RowKit.intOf kv).toNat)
                  case atStart => exact ⟨0, rfl, by omega, Save.refl _ _⟩
                  case round =>
                    obtain ⟨m, rfl, hm, hS3⟩ := hrel
                    have HS3 := Lib.hid hS3
                    have hcy3 := (hS3.cell i (Nat.lt_of_lt_of_le hlk hz2) (fun f => f)).trans hcy2
                    have HD3 := Lib.hid (HD2.out.save hS3 (fun _ f => f.elim))
                    clear hS3
                    by_cases hm8 : m < 8
                    · have hmI : (m : Int) < 8 := by omega
                      have hkI8 : (k : Int) + (m : Int) < (k : Int) + 8 := by omega
                      have hk0 : (0 : Int) ≤ (k : Int) + (m : Int) := by omega
                      have hto : ((k : Int) + (m : Int)).toNat = k + m := by omega
                      have x1 : wr.cell? ⟨gy, (k + m) * 3 + 2, none⟩ = some (.int .i64 (-1 - (i : Int) * 20 - m)) := by
                        have := HD3.out.cellZ HYE.out hm8
                        rw [HN.out] at this
                        exact this
                      go_wp2_with fail
                      go_quiet (first | (go_at_call 80; exact behind_q i m (by omega) (by omega) _ _))
                      go_wp2_with fail
                      go_roundw
                      case rel => exact ⟨m + 1, by go_num, by omega, ⟨HS3.out.os, HS3.out.tape, HS3.out.output, HS3.out.size, HS3.out.block⟩⟩
                      case measure => simp [RowKit.intOf]; omega
                    · have hmI : (8 : Int) ≤ (m : Int) := by omega
                      go_wp2_with fail
                      go_roundw
                      case rel => exact ⟨i + 1, by go_num, by omega, (HSE.out.trans HS2.out (fun _ _ f => f)).trans HS3.out (fun _ _ f => f)⟩
                      case measure => simp [RowKit.intOf]; omega
            · have hltI : (rs.length : Int) ≤ (i : Int) := by omega
              go_wp2_with fail
              go_ret
              exact ⟨rfl, HS.out.trans (HS1.out.trans HSE.out (fun _ _ f => f.elim)) (fun _ _ e => e)⟩
end Go.Proofs.YtoklnpoacckbfaaGreatDoor
