/- The reading of a float's digits: the contract of readFloat. A large number as words: the contract of of. Words shifted to the left: the contract of left. Words shifted to the left: the contract of left. Rows of words: plain. Plain: the rounds of sums, differences, products and quotients of words. Rows of words that are written in place: in memory. Plain: the borrow of a difference of words. Sums and differences of words: the contracts of bits.Add32, bits.Sub32, add, sub. -/
import Derived.Test.YtlodbibagmblkaaGreatDoorTaah
import Derived.WalkMore
import Derived.Deep.LoopGhost
import Derived.RegionTactic
import Derived.ChangeAlike
import Derived.WalkKit
namespace Go.Proofs.YtlodbibagmblkaaGreatDoor
open Go.RowKit Go.Lib
/-- The bytes of a text at a place. -/
def At (s : ByteArray) (i : Nat) (l : List UInt8) : Prop := ∀ (k : Nat) (h : k < l.length) (h2 : i + k < s.size), s[i + k] = l[k]
theorem At.get {s : ByteArray} {i : Nat} {l : List UInt8} (h : At s i l) {k p : Nat} (hk : k < l.length) (hq : p < s.size) (hp : p = i + k) : s[p]'hq = l[k] := by
  subst hp; exact h k hk hq
def MantOk (M : List UInt8) : Prop := (∀ c ∈ M, c = 46 ∨ Pl.digit c) ∧ ∀ k (h : k < M.length), M[k] = 46 → (Pl.run (M.take k)).dot = false
def Pl.expOf (s : Pl.St) (e : Int) : Int := if s.m = 0 then 0 else s.dp + e - s.nm
/-- What a text of digits with a point, and a power, is read as. -/
def rfOk (s : Pl.St) (e : Int) (neg : Bool) (n : Nat) (w : World) (en : Ending) (w' : World) : Prop :=
  en = .returned (.tuple #[.int .u64 s.m, .int .i64 (Pl.expOf s e), .bool neg, .bool s.tr, .bool false, .int .i64 n, .bool true]) ∧ w' = w
theorem int_eq {k : IntKind} {a b : Int} (h : a = b) : Value.int k a = Value.int k b := by rw [h]
theorem Pl.step_zero {c : UInt8} {m nd nm : Nat} {dp : Int} {dot dig tr : Bool} (h1 : c.toNat = 48) (h2 : nd = 0) : Pl.step ⟨m, nd, nm, dp, dot, dig, tr⟩ c = ⟨m, nd, nm, dp - 1, dot, true, tr⟩ := by
  have hc : c = 48 := UInt8.toNat_inj.1 h1
  subst hc h2
  rfl
theorem Pl.step_in {c : UInt8} {m nd nm : Nat} {dp : Int} {dot dig tr : Bool} (h0 : 48 ≤ c.toNat) (h1 : ¬ (c.toNat = 48 ∧ nd = 0)) (h2 : nm < 19) : Pl.step ⟨m, nd, nm, dp, dot, dig, tr⟩ c = ⟨m * 10 + (c.toNat - 48), nd + 1, nm + 1, dp, dot, true, tr⟩ := by
  unfold Pl.step
  rw [if_neg (by intro e; subst e; revert h0; decide), if_neg (by rintro ⟨rfl, h⟩; exact h1 ⟨rfl, h⟩), if_pos h2]
theorem Pl.step_out {c : UInt8} {m nd nm : Nat} {dp : Int} {dot dig tr : Bool} (h0 : 48 ≤ c.toNat) (h1 : ¬ (c.toNat = 48 ∧ nd = 0)) (h2 : ¬ nm < 19) : Pl.step ⟨m, nd, nm, dp, dot, dig, tr⟩ c = ⟨m, nd + 1, nm, dp, dot, true, if c.toNat = 48 then tr else true⟩ := by
  unfold Pl.step
  rw [if_neg (by intro e; subst e; revert h0; decide), if_neg (by rintro ⟨rfl, h⟩; exact h1 ⟨rfl, h⟩), if_neg h2]
  congr 1
  by_cases h : c.toNat = 48
  · have hc : c = 48 := UInt8.toNat_inj.1 h
    subst hc; simp
  · rw [if_neg h, decide_eq_true (by intro e; subst e; exact h rfl)]; simp
theorem low_x_fin : ∀ n : Fin 58, (n.val = 46 ∨ 48 ≤ n.val) → (bits .or .u8 (n.val : Int) 32 == 120) = false := by decide +kernel
theorem low_x {c : UInt8} (h : c = 46 ∨ Pl.digit c) : (bits .or .u8 (c.toNat : Int) 32 == 120) = false := by
  have hn : c.toNat = 46 ∨ (48 ≤ c.toNat ∧ c.toNat ≤ 57) := by
    rcases h with e | e
    · left; rw [e]; rfl
    · right; exact e
  exact low_x_fin ⟨c.toNat, by omega⟩ (by simp only; omega)
end Go.Proofs.YtlodbibagmblkaaGreatDoor
namespace Go.Proofs.YtlodbibagmblkaaGreatDoor
open Go.RowKit Go.Lib
namespace Pl
def le : List UInt8 → Nat
  | [] => 0
  | c :: l => c.toNat + 256 * le l
theorem le_snoc : ∀ (l : List UInt8) (c : UInt8), le (l ++ [c]) = le l + 256 ^ l.length * c.toNat
  | [], c => by simp [le]
  | a :: l, c => by rw [List.cons_append, le, le_snoc l c, le, List.length_cons, Nat.pow_succ, Nat.mul_add, ← Nat.mul_assoc, Nat.mul_comm 256 (256 ^ l.length)]; omega
theorem le_lt : ∀ l : List UInt8, le l < 256 ^ l.length
  | [] => by simp [le]
  | a :: l => by rw [le, List.length_cons, Nat.pow_succ]; have := le_lt l; have := a.toNat_lt; omega
/-- The word at a place. -/
def word (l : List UInt8) (j : Nat) : Nat := le ((l.drop (4 * j)).take 4)
def words (n : Nat) (l : List UInt8) : List Nat := (List.range n).map (word l)
theorem words_len (n : Nat) (l : List UInt8) : (words n l).length = n := by simp [words]
theorem word_lt (l : List UInt8) (j : Nat) : word l j < 4294967296 := by
  have h := le_lt ((l.drop (4 * j)).take 4)
  have hl : ((l.drop (4 * j)).take 4).length ≤ 4 := List.length_take_le _ _
  have : 256 ^ ((l.drop (4 * j)).take 4).length ≤ 256 ^ 4 := Nat.pow_le_pow_right (by decide) hl
  unfold word
  exact Nat.lt_of_lt_of_le h (Nat.le_trans this (by decide))
theorem word_step {l : List UInt8} {i : Nat} (h : i < l.length) (j : Nat) : word (l.take (i + 1)) j = if j = i / 4 then word (l.take i) j + 256 ^ (i % 4) * l[i].toNat else word (l.take i) j := by
  unfold word
  rw [List.take_succ_eq_append_getElem h]
  by_cases hj : j = i / 4
  · subst hj
    rw [if_pos rfl, List.drop_append_of_le_length (by simp; omega)]
    have hl : ((l.take i).drop (4 * (i / 4))).length = i % 4 := by simp; omega
    generalize (l.take i).drop (4 * (i / 4)) = X at hl ⊢
    rw [List.take_of_length_le (show (X ++ [l[i]]).length ≤ 4 by simp; omega), List.take_of_length_le (show X.length ≤ 4 by omega), le_snoc, hl]
  · rw [if_neg hj]
    rcases Nat.lt_or_gt_of_ne hj with hj | hj
    · rw [List.drop_append_of_le_length (by simp; omega), List.take_append_of_le_length (by simp; omega)]
    · rw [List.drop_eq_nil_of_le (by simp; omega), List.drop_eq_nil_of_le (by simp; omega)]
theorem word_small {l : List UInt8} {i : Nat} (h : i ≤ l.length) : word (l.take i) (i / 4) < 256 ^ (i % 4) := by
  have := le_lt ((((l.take i).drop (4 * (i / 4)))).take 4)
  have hl : ((((l.take i).drop (4 * (i / 4)))).take 4).length = i % 4 := by simp; omega
  rw [hl] at this
  exact this
end Pl
theorem bits_or32 {a b : Nat} (k : Nat) (ha : a < 2 ^ k) (hb : b < 256) (hk : k ≤ 24) : bits .or .u32 (a : Int) (IntKind.u32.wrap ((b : Int) * 2 ^ k)) = ((a + 2 ^ k * b : Nat) : Int) := by
  have hp : 2 ^ k ≤ 2 ^ 24 := Nat.pow_le_pow_right (by decide) hk
  have hpb : 2 ^ k * b < 4294967296 := by
    have : 2 ^ k * b ≤ 2 ^ 24 * 255 := Nat.mul_le_mul hp (by omega)
    exact Nat.lt_of_le_of_lt this (by decide)
  have hw : ∀ n : Nat, n < 4294967296 → IntKind.u32.wrap (n : Int) = n := fun n hn => by rw [IntKind.wrap_u32]; omega
  have e1 : (b : Int) * 2 ^ k = ((2 ^ k * b : Nat) : Int) := by rw [Nat.mul_comm]; simp
  rw [e1, hw _ hpb]
  have h32 : (2 : Nat) ^ IntKind.u32.bits = 4294967296 := rfl
  simp only [bits, BitVec.ofInt_natCast, BitVec.toNat_or, BitVec.toNat_ofNat, h32]
  have hor : a ||| 2 ^ k * b = a + 2 ^ k * b := by
    have := Nat.two_pow_add_eq_or_of_lt (i := k) (b := a) ha b
    rw [Nat.or_comm, ← this, Nat.add_comm]
  have hlt : a + 2 ^ k * b < 4294967296 := by
    have : 2 ^ k * b + 2 ^ k ≤ 2 ^ 24 * 256 := by rw [← Nat.mul_succ]; exact Nat.mul_le_mul hp (by omega)
    have h3 : (2 : Nat) ^ 24 * 256 = 4294967296 := by decide
    omega
  rw [Nat.mod_eq_of_lt (by omega), Nat.mod_eq_of_lt hpb, hor, hw _ hlt]
theorem at_bs (l : List UInt8) : At (bs l) 0 l := fun k h h2 => by simp only [Nat.zero_add]; rfl
theorem info74 : (Tryz.prog.info? 103).map (fun i => (i.zero, i.size, i.bytes)) = some (some (.int .u32 0), 1, 4) := by kernel_rfl
def wcells (xs : List Nat) : Array Value := (xs.map fun x => Value.int .u32 (x : Nat)).toArray
theorem row_full {w : World} {base g n : Nat} {e : TypeId} {xs : List Value} (h : w.ownsRow base e 1 (.slice (some ⟨g, 0, none⟩) n n) n xs) : w.heap[g]? = some (.cells xs.toArray e (0, 0)) := by
  rcases h.2 with ⟨h1, _⟩ | ⟨g', cap, cur, h1, _, h3, _, _, h6, h7⟩
  · cases h1
  · injection h1 with e1 e2 e3
    injection e1 with e1
    injection e1 with e1
    subst e1
    rw [h3]
    have hc : cur = xs.toArray := by
      rw [Nat.mul_one, List.take_of_length_le (by rw [Array.length_toList, h6, ← e3]; omega)] at h7
      rw [← h7]
    rw [hc]
theorem made_words (n : Nat) : (madeCells #[Value.int .u32 0] n).toList.toArray = wcells (Pl.words n []) := by
  have h : Pl.words n [] = List.replicate n 0 := by
    apply List.ext_getElem
    · simp [Pl.words]
    · intro i h1 h2; simp [Pl.words, Pl.word, Pl.le]
  rw [h]
  unfold wcells
  congr 1
  apply List.ext_getElem
  · simp [madeCells]
  · intro i h1 h2; simp [madeCells, Nat.mod_one]
def OfOk (w : World) (neg : Bool) (l : List UInt8) (e : Ending) (w' : World) : Prop :=
  ∃ v, e = .returned (.agg #[v, .bool neg]) ∧ Rd w' v (Pl.words ((l.length + 3) / 4) l) ∧ Below w.heap.size w w'
set_option maxHeartbeats 2000000 in
theorem lof_any (neg : Bool) (l : List UInt8) (w : World) (hl : l.length ≤ 4096) :
    Calls Tryz.prog 69 #[lv neg l] w (OfOk w neg l) := by
  unfold lv
  obtain ⟨i0, hi, hz0, hz1, hz2⟩ := info_parts info74
  have hsz : (bs l).size = l.length := rfl
  have HAT := Lib.hid (at_bs l)
  obtain ⟨N, hN⟩ : ∃ N, l.length = N := ⟨_, rfl⟩
  rw [hN] at hsz hl
  have HN := Lib.hid hN
  clear hN
  generalize bs l = s at *
  obtain ⟨n, hn⟩ : ∃ n, (N + 3) / 4 = n := ⟨_, rfl⟩
  have hn1 : ((N : Int) + 3) / 4 = (n : Int) := by omega
  have hn2 : n ≤ 1024 := by omega
  have hn3 : N ≤ 4 * n := by omega
  have HNN := Lib.hid hn
  clear hn
  go_enter Tryz.func69, Tryz.ntmps69
  go_wp2_with (at_make; refine wpList_make_full _ rfl _ _ 90 rfl (w.heap.size + 2) 103 i0 (.int .u32 0) 1 Tryz.underlying90 hi hz0 hz1 .i64 .i64 _ _ n rfl rfl ?c9 ?c0 ?c1 ?c2 ?c3 ?_)
  case c9 => exact hn1
  case c0 => exact hn1
  case c1 => rw [hz2]; omega
  case c2 => unfold maxLen; omega
  case c3 => simp
  intro w1 ho1 hg1
  obtain ⟨W0, hW0⟩ : ∃ W0, (w.alloc (.cells #[.bool neg, .string s] 43)).alloc (.cells #[.slice none 0 0, .bool false] 92) = W0 := ⟨_, rfl⟩
  have hW1 : W0.heap.size = w.heap.size + 2 := by rw [← hW0]; simp
  have hW2 : W0.heap[w.heap.size]? = some (.cells #[.bool neg, .string s] 43) := by rw [← hW0, Below.heap_alloc _ _ _ (by simp)]; exact heap_alloc_at _ _
  have hW4 : W0.heap[w.heap.size + 1]? = some (.cells #[.slice none 0 0, .bool false] 92) := by
    rw [← hW0, show w.heap.size + 1 = (w.alloc (.cells #[.bool neg, .string s] 43)).heap.size by simp]; exact heap_alloc_at _ _
  have hW3 : Below w.heap.size w W0 := by rw [← hW0]; exact ((Below.refl _ _).alloc (Nat.le_refl _) _).alloc (by simp) _
  rw [hW0] at hg1
  obtain ⟨g, hgd⟩ : ∃ g, w.heap.size + 2 = g := ⟨_, rfl⟩
  rw [hgd] at ho1 hW1 ⊢
  have hrow : w1.heap[g]? = some (.cells (wcells (Pl.words n (l.take 0))) 103) := by
    have := row_full ho1
    rw [made_words] at this
    exact this
  have HB1 := Lib.hid (show Below g W0 w1 from (Below.refl _ _).grown hg1 (by omega) (fun k hk => by cases hk))
  have HW2 := Lib.hid hW2
  have HW3 := Lib.hid hW3
  have HW4 := Lib.hid hW4
  have HROW := Lib.hid hrow
  have hg0 : w.heap.size + 2 ≤ g := by omega
  have HGD := Lib.hid hgd
  clear ho1 hg1 hW2 hW3 hW4 hW1 hW0 hi hz0 hz1 hz2 hrow hgd
  have c1 : w1.cell? ⟨w.heap.size, 1, none⟩ = some (.string s) := by
    rw [HB1.out.cell (p := ⟨w.heap.size, 1, none⟩) (by show w.heap.size < g; omega)]; simp [World.cell?, HW2.out]
  go_wp2_with fail
  go_loopw [14] (fun i wr => ∃ k : Nat, k ≤ N ∧ i = .int .i64 k ∧ wr.heap[g]? = some (.cells (wcells (Pl.words n (l.take k))) 103) ∧ Below g W0 wr ∧ g < wr.heap.size) (fun i _ => N - (RowKit.intOf i).toNat)
  case atStart => exact ⟨0, Nat.zero_le _, rfl, HROW.out, HB1.out, (Array.getElem?_eq_some_iff.1 HROW.out).1⟩
  case round =>
    obtain ⟨k, hk, rfl, hrow, hb, hsz2⟩ := hrel
    have HROW := Lib.hid hrow
    have HB := Lib.hid hb
    have c1 : wr.cell? ⟨w.heap.size, 1, none⟩ = some (.string s) := by
      rw [hb.cell (p := ⟨w.heap.size, 1, none⟩) (by show w.heap.size < g; omega)]; simp [World.cell?, HW2.out]
    clear hrow hb
    by_cases hlt : k < N
    · have hkl : k < l.length := by rw [HN.out]; exact hlt
      have q : k < s.size := by omega
      have ak : s[k]'q = l[k] := HAT.out.get hkl q (by omega)
      obtain ⟨c, hc⟩ : ∃ c, l[k] = c := ⟨_, rfl⟩
      rw [hc] at ak
      obtain ⟨x, hx⟩ : ∃ x, Pl.word (l.take k) (k / 4) = x := ⟨_, rfl⟩
      have hk4 : k / 4 < n := by omega
      have cx : wr.cell? ⟨g, k / 4, none⟩ = some (.int .u32 (x : Nat)) := by
        simp [World.cell?, HROW.out, wcells, Pl.words, hk4, hx]
      have fx : wr.frozen? ⟨g, k / 4, none⟩ = false := by simp [World.frozen?, HROW.out]
      have hxs := Pl.word_small (l := l) (i := k) (by omega)
      rw [hx] at hxs
      have hcb := c.toNat_lt
      obtain ⟨x', hx'⟩ : ∃ x', x + 2 ^ (8 * (k % 4)) * c.toNat = x' := ⟨_, rfl⟩
      have HOR := Lib.hid (show bits .or .u32 (x : Int) ((c.toNat : Int) * 2 ^ (8 * (k % 4)) % 4294967296) = ((x' : Nat) : Int) by
        have := bits_or32 (a := x) (b := c.toNat) (8 * (k % 4)) (by rw [Nat.pow_mul]; exact hxs) (by omega) (by omega)
        rw [IntKind.wrap_u32] at this
        rw [this, hx'])
      have HNEW := Lib.hid (show wcells (Pl.words n (l.take (k + 1))) = (wcells (Pl.words n (l.take k))).setIfInBounds (k / 4) (.int .u32 (x' : Nat)) by
        unfold wcells
        apply Array.toList_inj.1
        apply List.ext_getElem
        · simp [Pl.words]
        · intro i h1 h2
          simp only [Array.toList_setIfInBounds, List.getElem_set, List.getElem_map, Pl.words, List.getElem_range]
          rw [Pl.word_step hkl]
          by_cases e : k / 4 = i
          · subst e
            rw [if_pos rfl, if_pos rfl, hx, hc, ← hx', Nat.pow_mul]
          · rw [if_neg (fun h => e h.symm), if_neg e])
      clear hx' hx hc hxs
      go_wp2_with fail
      go_region
      rw [HOR.out]
      have hrow2 : (wr.setCell ⟨g, k / 4, none⟩ (.int .u32 (x' : Nat))).drew.heap[g]? = some (.cells (wcells (Pl.words n (l.take (k + 1)))) 103) := by
        rw [HNEW.out]
        show (wr.setCell ⟨g, k / 4, none⟩ (.int .u32 (x' : Nat))).heap[g]? = _
        simp only [World.setCell, Array.getElem?_modify, if_pos, HROW.out]
        rfl
      have HROW2 := Lib.hid hrow2
      have HB2 := Lib.hid (show Below g W0 (wr.setCell ⟨g, k / 4, none⟩ (.int .u32 (x' : Nat))).drew from (HB.out.setCell (p := ⟨g, k / 4, none⟩) (Nat.le_refl g) _).drew)
      have hz2 : g < (wr.setCell ⟨g, k / 4, none⟩ (.int .u32 (x' : Nat))).drew.heap.size := by rw [show (wr.setCell ⟨g, k / 4, none⟩ (.int .u32 (x' : Nat))).drew.heap.size = wr.heap.size by simp [World.setCell]]; exact hsz2
      clear hrow2
      generalize (wr.setCell ⟨g, k / 4, none⟩ (.int .u32 (x' : Nat))).drew = w2 at HROW2 HB2 hz2 ⊢
      go_wp2_with fail
      go_roundw
      case rel => exact ⟨k + 1, by omega, by go_num, HROW2.out, HB2.out, hz2⟩
      case measure => simp [RowKit.intOf]; omega
    · obtain rfl : k = N := by omega
      have hR : wr.heap[w.heap.size + 1]? = some (.cells #[.slice none 0 0, .bool false] 92) := by rw [HB.out.block _ (by omega)]; exact HW4.out
      have hP : wr.heap[w.heap.size]? = some (.cells #[.bool neg, .string s] 43) := by rw [HB.out.block _ (by omega)]; exact HW2.out
      obtain ⟨B, hBd⟩ : ∃ B, w.heap.size + 1 = B := ⟨_, rfl⟩
      rw [hBd] at hR ⊢
      have c0 : wr.cell? ⟨w.heap.size, 0, none⟩ = some (.bool neg) := by simp [World.cell?, hP]
      have r0 : wr.cell? ⟨B, 0, none⟩ = some (.slice none 0 0) := by simp [World.cell?, hR]
      have r1 : wr.cell? ⟨B, 1, none⟩ = some (.bool false) := by simp [World.cell?, hR]
      have f0 : wr.frozen? ⟨B, 0, none⟩ = false := by simp [World.frozen?, hR]
      have f1 : wr.frozen? ⟨B, 1, none⟩ = false := by simp [World.frozen?, hR]
      have HBW := Lib.hid (show Below w.heap.size w wr from HW3.out.trans (HB.out.mono (by omega)))
      have HBd := Lib.hid hBd
      clear hR hP hlt hBd
      go_wp2_with fail
      obtain ⟨k0, k1, kB⟩ := two_set wr B (.slice (some ⟨g, 0, none⟩) n n) (.bool neg) r0 r1
      have kB' := HBW.out.trans (kB.mono (by have := HBd.out; omega))
      have hgB : B < g := by have := HBd.out; omega
      refine bodyPost_ret (v := .agg #[.slice (some ⟨g, 0, none⟩) n n, .bool neg]) (by simp [results, Tryz.results69, go_sem, k0, k1]) rfl ⟨_, rfl, ?_, kB'⟩
      rw [HN.out, HNN.out]
      refine .inr ⟨g, n, by rw [Pl.words_len], by rw [Pl.words_len]; exact Nat.le_refl _, by simp [World.setCell]; exact hsz2, fun j y hy => ?_⟩
      have n1 : (⟨B, 1, none⟩ : Addr) ≠ ⟨g, j, none⟩ := by intro e; injection e with e; omega
      have n0 : (⟨B, 0, none⟩ : Addr) ≠ ⟨g, j, none⟩ := by intro e; injection e with e; omega
      rw [World.cell?_setCell_other _ _ _ _ n1, World.cell?_setCell_other _ _ _ _ n0]
      have hrow := HROW.out
      rw [List.take_of_length_le (by rw [HN.out]; exact Nat.le_refl _)] at hrow
      simp only [World.cell?, hrow, wcells]
      simp [hy]
end Go.Proofs.YtlodbibagmblkaaGreatDoor
namespace Go.Proofs.YtlodbibagmblkaaGreatDoor
open Go.RowKit Go.Lib
namespace Pl
/-- A number as so many words. -/
def dn (n V : Nat) : List Nat := (List.range n).map fun j => V / 4294967296 ^ j % 4294967296
theorem dn_lt {n V x : Nat} (h : x ∈ dn n V) : x < 4294967296 := by
  obtain ⟨j, _, rfl⟩ := List.mem_map.1 h; exact Nat.mod_lt _ (by decide)
theorem map_div_succ (B V n : Nat) : ((List.range (n + 1)).map fun j => V / B ^ j % B) = V % B :: ((List.range n).map fun j => V / B / B ^ j % B) := by
  rw [List.range_succ_eq_map, List.map_cons, List.map_map, Nat.pow_zero, Nat.div_one, List.cons.injEq]
  refine ⟨rfl, ?_⟩
  apply List.map_congr_left
  intro j _
  simp only [Function.comp]
  rw [Nat.pow_succ, Nat.mul_comm, Nat.div_div_eq_div_mul]
theorem dn_succ (n V : Nat) : dn (n + 1) V = V % 4294967296 :: dn n (V / 4294967296) := map_div_succ 4294967296 V n
theorem num_dn (n : Nat) : ∀ V : Nat, V < 4294967296 ^ n → num (dn n V) = V := by
  induction n with
  | zero => intro V h; rw [Nat.pow_zero] at h; have : V = 0 := by omega
            subst this; rfl
  | succ n ih =>
    intro V h
    rw [dn_succ, num, ih (V / 4294967296) (by
      rw [Nat.pow_succ, Nat.mul_comm] at h
      exact Nat.div_lt_of_lt_mul h)]
    omega
theorem num_lt : ∀ (xs : List Nat), (∀ x ∈ xs, x < 4294967296) → num xs < 4294967296 ^ xs.length
  | [], _ => by simp [num]
  | x :: xs, h => by
    rw [num, List.length_cons, Nat.pow_succ]
    have h1 := num_lt xs (fun y hy => h y (by simp [hy]))
    have h2 := h x (by simp)
    omega
end Pl
end Go.Proofs.YtlodbibagmblkaaGreatDoor
namespace Go.Proofs.YtlodbibagmblkaaGreatDoor
open Go.RowKit Go.Lib
namespace Pl
theorem num_snoc (l : List Nat) (x : Nat) : num (l ++ [x]) = num l + 4294967296 ^ l.length * x := by rw [num_append]; simp [num]
end Pl
end Go.Proofs.YtlodbibagmblkaaGreatDoor
namespace Go.Proofs.YtlodbibagmblkaaGreatDoor

namespace Pl
/-- each a word -/
def Ws (xs : List Nat) : Prop := ∀ x ∈ xs, x < 4294967296
theorem Ws.take {xs : List Nat} (h : Ws xs) (k : Nat) : Ws (xs.take k) := fun x hx => h x (List.mem_of_mem_take hx)
theorem Ws.drop {xs : List Nat} (h : Ws xs) (k : Nat) : Ws (xs.drop k) := fun x hx => h x (List.mem_of_mem_drop hx)
theorem Ws.set {xs : List Nat} (h : Ws xs) (k : Nat) {v : Nat} (hv : v < 4294967296) : Ws (xs.set k v) := fun x hx => by
  rcases List.mem_or_eq_of_mem_set hx with h1 | h1
  · exact h x h1
  · rw [h1]; exact hv
theorem ws_replicate (n : Nat) : Ws (List.replicate n 0) := fun x hx => by rw [(List.mem_replicate.1 hx).2]; decide
theorem num_replicate (n : Nat) : num (List.replicate n 0) = 0 := by
  induction n with
  | zero => rfl
  | succ n ih => rw [List.replicate_succ, num, ih]
theorem num_ws {xs : List Nat} (h : Ws xs) : num xs < 4294967296 ^ xs.length := num_lt xs h
/-- a word that is written: what was there is taken away, what is new is added -/
theorem num_set : ∀ (xs : List Nat) (k v : Nat), k < xs.length → num (xs.set k v) + 4294967296 ^ k * xs.getD k 0 = num xs + 4294967296 ^ k * v
  | [], k, v, h => by simp at h
  | x :: xs, 0, v, _ => by simp [num]; omega
  | x :: xs, k + 1, v, h => by
    have ih := num_set xs k v (by simpa using h)
    rw [List.set_cons_succ, num, num, List.getD_cons_succ, Nat.pow_succ]
    have e1 : 4294967296 ^ k * 4294967296 * xs.getD k 0 = 4294967296 * (4294967296 ^ k * xs.getD k 0) := by ac_rfl
    have e2 : 4294967296 ^ k * 4294967296 * v = 4294967296 * (4294967296 ^ k * v) := by ac_rfl
    rw [e1, e2]
    omega
theorem num_take_succ (xs : List Nat) (k : Nat) : num (xs.take (k + 1)) = num (xs.take k) + 4294967296 ^ k * xs.getD k 0 := by
  by_cases h : k < xs.length
  · rw [List.take_succ_eq_append_getElem h, num_snoc, List.length_take, Nat.min_eq_left (by omega), List.getD_eq_getElem?_getD, List.getElem?_eq_getElem h]; rfl
  · rw [List.take_of_length_le (by omega), List.take_of_length_le (by omega), List.getD_eq_getElem?_getD, List.getElem?_eq_none (by omega)]; simp
theorem getD_ws {xs : List Nat} (h : Ws xs) (k : Nat) : xs.getD k 0 < 4294967296 := by
  rw [List.getD_eq_getElem?_getD]
  by_cases hk : k < xs.length
  · rw [List.getElem?_eq_getElem hk]; exact h _ (List.getElem_mem hk)
  · rw [List.getElem?_eq_none (by omega)]; decide
/-- without noughts at the end -/
def Tr (xs : List Nat) : Prop := xs = [] ∨ ∃ l c, xs = l ++ [c] ∧ c ≠ 0
theorem tr_trimW (xs : List Nat) : Tr (trimW xs) := by
  have key : ∀ l : List Nat, Tr (l.dropWhile (· == 0)).reverse := by
    intro l
    induction l with
    | nil => exact .inl rfl
    | cons a l ih =>
      by_cases h : a = 0
      · subst h; simpa using ih
      · have : (a :: l).dropWhile (· == 0) = a :: l := by simp [h]
        rw [this]
        exact .inr ⟨l.reverse, a, by simp, h⟩
  exact key xs.reverse
theorem ws_trimW {xs : List Nat} (h : Ws xs) : Ws (trimW xs) := by
  intro x hx
  unfold trimW at hx
  rw [List.mem_reverse] at hx
  exact h x (by have := (List.dropWhile_suffix _).mem hx; simpa using this)
/-- words without noughts at the end are told by their number -/
theorem num_inj : ∀ {a b : List Nat}, Ws a → Ws b → Tr a → Tr b → num a = num b → a = b := by
  have pos : ∀ {a : List Nat}, Tr a → a ≠ [] → 0 < num a := by
    intro a h h0
    rcases h with h | ⟨l, c, rfl, hc⟩
    · exact absurd h h0
    · rw [num_snoc]
      have := Nat.mul_pos (Nat.pow_pos (n := l.length) (show 0 < 4294967296 by decide)) (Nat.pos_iff_ne_zero.2 hc)
      omega
  have tl : ∀ {x : Nat} {a : List Nat}, Tr (x :: a) → Tr a := by
    intro x a h
    rcases h with h | ⟨l, c, h, hc⟩
    · cases h
    · cases l with
      | nil => simp at h; exact .inl h.2
      | cons y l => simp at h; exact .inr ⟨l, c, h.2, hc⟩
  intro a
  induction a with
  | nil =>
    intro b _ _ _ hb e
    by_cases h : b = []
    · exact h.symm
    · have := pos hb h; rw [← e] at this; simp [num] at this
  | cons x a ih =>
    intro b ha hb ta tb e
    cases b with
    | nil => have := pos ta (by simp); rw [e] at this; simp [num] at this
    | cons y b =>
      have hx := ha x (by simp)
      have hy := hb y (by simp)
      simp only [num] at e
      have e1 : x = y := by omega
      have e2 : num a = num b := by omega
      rw [e1, ih (fun z hz => ha z (by simp [hz])) (fun z hz => hb z (by simp [hz])) (tl ta) (tl tb) e2]
/-- the words of a number -/
theorem wordsOf_exists (V : Nat) : ∃ xs, Ws xs ∧ Tr xs ∧ num xs = V := by
  induction V using Nat.strongRecOn with
  | _ V ih =>
    by_cases h0 : V = 0
    · exact ⟨[], fun x hx => by simp at hx, .inl rfl, h0.symm⟩
    · obtain ⟨xs, h1, h2, h3⟩ := ih (V / 4294967296) (by omega)
      refine ⟨V % 4294967296 :: xs, ?_, ?_, ?_⟩
      · intro x hx
        rcases List.mem_cons.1 hx with hx | hx
        · rw [hx]; exact Nat.mod_lt _ (by decide)
        · exact h1 x hx
      · rcases h2 with h2 | ⟨l, c, h2, hc⟩
        · subst h2
          simp [num] at h3
          exact .inr ⟨[], V % 4294967296, by simp, by omega⟩
        · exact .inr ⟨V % 4294967296 :: l, c, by rw [h2]; rfl, hc⟩
      · rw [num, h3]; omega
noncomputable def wd (V : Nat) : List Nat := Classical.choose (wordsOf_exists V)
theorem wd_ws (V : Nat) : Ws (wd V) := (Classical.choose_spec (wordsOf_exists V)).1
theorem wd_tr (V : Nat) : Tr (wd V) := (Classical.choose_spec (wordsOf_exists V)).2.1
theorem wd_num (V : Nat) : num (wd V) = V := (Classical.choose_spec (wordsOf_exists V)).2.2
theorem trimW_wd {xs : List Nat} {V : Nat} (h : Ws xs) (e : num xs = V) : trimW xs = wd V := num_inj (ws_trimW h) (wd_ws V) (tr_trimW xs) (wd_tr V) (by rw [num_trimW, e, wd_num])
theorem wd_eq {xs : List Nat} {V : Nat} (h : Ws xs) (t : Tr xs) (e : num xs = V) : xs = wd V := num_inj h (wd_ws V) t (wd_tr V) (by rw [e, wd_num])
end Pl
end Go.Proofs.YtlodbibagmblkaaGreatDoor
namespace Go.Proofs.YtlodbibagmblkaaGreatDoor.Pl
/-- what is kept and what is carried of a word's sum -/
theorem carry_split (P s : Nat) : P * (s % 4294967296) + P * 4294967296 * (s / 4294967296) = P * s := by
  rw [Nat.mul_assoc, ← Nat.mul_add]
  congr 1
  omega
theorem add_round {xs ys zs : List Nat} {k c : Nat} (hk : k < zs.length) (h0 : zs.getD k 0 = 0) (h : num zs + 4294967296 ^ k * c = num (xs.take k) + num (ys.take k)) :
    num (zs.set k ((xs.getD k 0 + ys.getD k 0 + c) % 4294967296)) + 4294967296 ^ (k + 1) * ((xs.getD k 0 + ys.getD k 0 + c) / 4294967296) = num (xs.take (k + 1)) + num (ys.take (k + 1)) := by
  have h1 := num_set zs k ((xs.getD k 0 + ys.getD k 0 + c) % 4294967296) hk
  rw [h0, Nat.mul_zero, Nat.add_zero] at h1
  have h2 := carry_split (4294967296 ^ k) (xs.getD k 0 + ys.getD k 0 + c)
  rw [num_take_succ, num_take_succ, h1, Nat.pow_succ]
  rw [Nat.mul_add, Nat.mul_add] at h2
  omega
theorem sub_round {xs ys zs : List Nat} {k b d b' : Nat} (hk : k < zs.length) (h0 : zs.getD k 0 = 0) (h : num zs + num (ys.take k) = num (xs.take k) + 4294967296 ^ k * b) (hd : xs.getD k 0 + 4294967296 * b' = d + ys.getD k 0 + b) :
    num (zs.set k d) + num (ys.take (k + 1)) = num (xs.take (k + 1)) + 4294967296 ^ (k + 1) * b' := by
  have h1 := num_set zs k d hk
  rw [h0, Nat.mul_zero, Nat.add_zero] at h1
  have h2 := congrArg (4294967296 ^ k * ·) hd
  simp only [Nat.mul_add] at h2
  rw [num_take_succ, num_take_succ, h1, Nat.pow_succ, Nat.mul_assoc]
  omega
/-- a word more of a quotient by a word, from the top -/
theorem num_dropw (xs : List Nat) (k : Nat) (h : k < xs.length) : num (xs.drop k) = xs.getD k 0 + 4294967296 * num (xs.drop (k + 1)) := by
  rw [List.drop_eq_getElem_cons h, num, List.getD_eq_getElem?_getD, List.getElem?_eq_getElem h]; rfl
theorem short_step {q r x y Q X : Nat} (h : X = Q * y + r) : (x + 4294967296 * X) = ((r * 4294967296 + x) / y + 4294967296 * Q) * y + (r * 4294967296 + x) % y ∧ q = q := by
  refine ⟨?_, rfl⟩
  have e := Nat.div_add_mod (r * 4294967296 + x) y
  rw [h, Nat.add_mul, Nat.mul_add]
  have e2 : 4294967296 * (Q * y) = 4294967296 * Q * y := by rw [Nat.mul_assoc]
  rw [Nat.mul_comm y] at e
  omega
/-- the order of rows without noughts at the end -/
theorem num_lt_of_len {a b : List Nat} (ha : Ws a) (tb : Tr b) (h : a.length < b.length) : num a < num b := by
  rcases tb with rfl | ⟨l, c, rfl, hc⟩
  · simp at h
  · have h1 := num_ws ha
    rw [num_snoc]
    rw [List.length_append, List.length_singleton] at h
    have h2 : 4294967296 ^ a.length ≤ 4294967296 ^ l.length := Nat.pow_le_pow_right (by decide) (by omega)
    have h3 : 4294967296 ^ l.length * 1 ≤ 4294967296 ^ l.length * c := Nat.mul_le_mul_left _ (by omega)
    omega
theorem num_drop_lt {a b : List Nat} (ha : Ws a) {k : Nat} (hl : a.length = b.length) (hk : k < a.length) (he : a.drop (k + 1) = b.drop (k + 1)) (h : a.getD k 0 < b.getD k 0) : num a < num b := by
  have key : ∀ xs : List Nat, k ≤ xs.length → num xs = num (xs.take k) + 4294967296 ^ k * num (xs.drop k) := by
    intro xs hx
    have := num_append (xs.take k) (xs.drop k)
    rw [List.take_append_drop, List.length_take, Nat.min_eq_left hx] at this
    exact this
  rw [key a (by omega), key b (by omega), num_dropw a k hk, num_dropw b k (by omega), he]
  have h1 := num_ws (ha.take k)
  rw [List.length_take, Nat.min_eq_left (by omega)] at h1
  have h2 : 4294967296 ^ k * (a.getD k 0 + 1) ≤ 4294967296 ^ k * b.getD k 0 := Nat.mul_le_mul_left _ h
  rw [Nat.mul_add, Nat.mul_one] at h2
  rw [Nat.mul_add, Nat.mul_add]
  omega
end Go.Proofs.YtlodbibagmblkaaGreatDoor.Pl
namespace Go.Proofs.YtlodbibagmblkaaGreatDoor
open Go.RowKit Go.Lib
/-- a row of words in a block of its own -/
def Wrow (w : World) (g : Nat) (zs : List Nat) : Prop := w.heap[g]? = some (.cells (wcells zs) 103 (0, 0))
theorem Wrow.cell {w : World} {g : Nat} {zs : List Nat} (h : Wrow w g zs) {k : Nat} (hk : k < zs.length) : w.cell? ⟨g, k, none⟩ = some (.int .u32 (zs.getD k 0 : Nat)) := by
  unfold World.cell?
  rw [show w.heap[g]? = _ from h]
  simp [wcells, List.getD_eq_getElem?_getD, List.getElem?_eq_getElem hk]
theorem Wrow.free {w : World} {g : Nat} {zs : List Nat} (h : Wrow w g zs) (k : Nat) : w.frozen? ⟨g, k, none⟩ = false := by
  unfold World.frozen?
  rw [show w.heap[g]? = _ from h]
  simp
theorem Wrow.lt {w : World} {g : Nat} {zs : List Nat} (h : Wrow w g zs) : g < w.heap.size := (Array.getElem?_eq_some_iff.1 h).1
theorem Wrow.set {w : World} {g : Nat} {zs : List Nat} (h : Wrow w g zs) (k v : Nat) : Wrow (w.setCell ⟨g, k, none⟩ (.int .u32 (v : Nat))) g (zs.set k v) := by
  unfold Wrow
  simp only [World.setCell, Array.getElem?_modify, if_pos, show w.heap[g]? = some (.cells (wcells zs) 103 (0, 0)) from h]
  have e : (wcells zs).setIfInBounds k (.int .u32 (v : Nat)) = wcells (zs.set k v) := by
    unfold wcells
    apply Array.toList_inj.1
    rw [Array.toList_setIfInBounds]
    simp [List.map_set]
  rw [← e]
  rfl
theorem Wrow.other {w : World} {g b k : Nat} {zs : List Nat} {v : Value} (h : Wrow w g zs) (hne : b ≠ g) : Wrow (w.setCell ⟨b, k, none⟩ v) g zs := by
  unfold Wrow
  simp only [World.setCell, Array.getElem?_modify, if_neg hne]
  exact h
theorem Wrow.rd {w : World} {g cap : Nat} {zs : List Nat} (h : Wrow w g zs) (hc : zs.length ≤ cap) : Rd w (.slice (some ⟨g, 0, none⟩) zs.length cap) zs :=
  .inr ⟨g, cap, rfl, hc, h.lt, fun j x hx => by
    obtain ⟨hj, e⟩ := List.getElem?_eq_some_iff.1 hx
    rw [h.cell hj, List.getD_eq_getElem?_getD, hx]; rfl⟩
theorem Rd.len {w : World} {v : Value} {xs : List Nat} (h : Rd w v xs) : ∃ a c, v = .slice a xs.length c := by
  rcases h with ⟨h1, h2⟩ | ⟨b, cap, h1, _⟩
  · exact ⟨none, 0, by rw [h1, h2]; rfl⟩
  · exact ⟨_, _, h1⟩
theorem Rd.at {w : World} {a : Option Addr} {n c : Nat} {xs : List Nat} (h : Rd w (.slice a n c) xs) {k : Nat} (hk : k < xs.length) : ∃ b, a = some ⟨b, 0, none⟩ ∧ b < w.heap.size ∧ w.cell? ⟨b, k, none⟩ = some (.int .u32 (xs.getD k 0 : Nat)) := by
  rcases h with ⟨h1, h2⟩ | ⟨b, cap, h1, h2, h3, h4⟩
  · rw [h2] at hk; simp at hk
  · injection h1 with e1 _ _
    refine ⟨b, e1, h3, ?_⟩
    have := h4 k _ (List.getElem?_eq_getElem hk)
    rw [this, List.getD_eq_getElem?_getD, List.getElem?_eq_getElem hk]; rfl
end Go.Proofs.YtlodbibagmblkaaGreatDoor
namespace Go.Proofs.YtlodbibagmblkaaGreatDoor.Pl
theorem shr31_and (a b : Nat) : (a &&& b) / 2147483648 = (a / 2147483648) &&& (b / 2147483648) := by
  have := Nat.shiftRight_and_distrib (a := a) (b := b) (i := 31)
  simpa [Nat.shiftRight_eq_div_pow] using this
theorem shr31_or (a b : Nat) : (a ||| b) / 2147483648 = (a / 2147483648) ||| (b / 2147483648) := by
  have := Nat.shiftRight_or_distrib (a := a) (b := b) (i := 31)
  simpa [Nat.shiftRight_eq_div_pow] using this
theorem shr31_xor (a b : Nat) : (a ^^^ b) / 2147483648 = (a / 2147483648) ^^^ (b / 2147483648) := by
  have := Nat.shiftRight_xor_distrib (a := a) (b := b) (i := 31)
  simpa [Nat.shiftRight_eq_div_pow] using this
theorem sub_borrow {x y b d : Nat} (hx : x < 4294967296) (hy : y < 4294967296) (hb : b ≤ 1) (hd : d = (x + 8589934592 - y - b) % 4294967296) :
    (((4294967295 - x) &&& y) ||| ((4294967295 - (x ^^^ y)) &&& d)) / 2147483648 = if x < y + b then 1 else 0 := by
  have hxy : x ^^^ y < 4294967296 := Nat.xor_lt_two_pow (n := 32) hx hy
  have h31 := shr31_xor x y
  rw [shr31_or, shr31_and, shr31_and]
  have e1 : (4294967295 - x) / 2147483648 = 1 - x / 2147483648 := by omega
  have e2 : (4294967295 - (x ^^^ y)) / 2147483648 = 1 - (x / 2147483648 ^^^ y / 2147483648) := by rw [← h31]; omega
  rw [e1, e2]
  have hX : x / 2147483648 = 0 ∨ x / 2147483648 = 1 := by omega
  have hY : y / 2147483648 = 0 ∨ y / 2147483648 = 1 := by omega
  have hD : d / 2147483648 = 0 ∨ d / 2147483648 = 1 := by omega
  rcases hX with X | X <;> rcases hY with Y | Y <;> rcases hD with D | D <;> rw [X, Y, D] <;> simp <;> omega
theorem sub_word {x y b d : Nat} (hx : x < 4294967296) (hy : y < 4294967296) (hb : b ≤ 1) (hd : d = (x + 8589934592 - y - b) % 4294967296) :
    x + 4294967296 * (if x < y + b then 1 else 0) = d + y + b := by
  split <;> omega
end Go.Proofs.YtlodbibagmblkaaGreatDoor.Pl
namespace Go.Proofs.YtlodbibagmblkaaGreatDoor
open Go.RowKit Go.Lib
set_option maxHeartbeats 1000000 in
theorem add32_any (x y c d c' : Nat) (w : World) (hx : x < 4294967296) (hy : y < 4294967296) (hc : c ≤ 1) (hd : (x + y + c) % 4294967296 = d) (hc' : (x + y + c) / 4294967296 = c') :
    Calls Tryz.prog 143 #[.int .u32 x, .int .u32 y, .int .u32 c] w fun e w' => e = .returned (.tuple #[.int .u32 d, .int .u32 c']) ∧ w = w' := by
  go_enter Tryz.func143, Tryz.ntmps143
  go_wp2_with fail
  go_ret2
  refine ⟨?_, rfl⟩
  have e1 : ((x : Int) + (y : Int) + (c : Int)) % 4294967296 = (d : Int) := by omega
  have e2 : ((x : Int) + (y : Int) + (c : Int)) / 4294967296 = (c' : Int) := by omega
  rw [e1, e2]
  rfl
/-- What comes out is the words of a number. -/
def NatOk (w : World) (V : Nat) (e : Ending) (w' : World) : Prop := ∃ v, e = .returned v ∧ Rd w' v (Pl.wd V) ∧ Below w.heap.size w w'
theorem Rd.form {w : World} {v : Value} {xs : List Nat} (h : Rd w v xs) : ∃ a c, v = .slice a xs.length c := h.len
theorem made_row {w w1 : World} {g n : Nat} (ho : w1.ownsRow w.heap.size 103 1 (.slice (some ⟨g, 0, none⟩) n n) n (madeCells #[Value.int .u32 0] n).toList) : Wrow w1 g (List.replicate n 0) := by
  have h := row_full ho
  rw [made_words] at h
  have e : Pl.words n [] = List.replicate n 0 := by
    apply List.ext_getElem
    · simp [Pl.words]
    · intro i h1 h2; simp [Pl.words, Pl.word, Pl.le]
  rw [e] at h
  exact h
set_option maxRecDepth 4000 in
set_option maxHeartbeats 2000000 in
theorem nadd_any (vx vy : Value) (xs ys : List Nat) (w : World) (hx : Rd w vx xs) (hy : Rd w vy ys) (lx : xs.length ≤ 3000) (ly : ys.length ≤ 3000) (wx : Pl.Ws xs) (wy : Pl.Ws ys) :
    Calls Tryz.prog 85 #[vx, vy] w (NatOk w (Pl.num xs + Pl.num ys)) := by
  obtain ⟨i0, hi, hz0, hz1, hz2⟩ := info_parts info74
  obtain ⟨xa, xc, rfl⟩ := hx.form
  obtain ⟨ya, yc, rfl⟩ := hy.form
  rcases Nat.lt_or_ge xs.length ys.length with hle | hle
  case' inl =>
    obtain ⟨Ys, rfl⟩ : ∃ l, l = xs := ⟨_, rfl⟩
    obtain ⟨Xs, rfl⟩ : ∃ l, l = ys := ⟨_, rfl⟩
    obtain ⟨Ya, rfl⟩ : ∃ l, l = xa := ⟨_, rfl⟩
    obtain ⟨Xa, rfl⟩ : ∃ l, l = ya := ⟨_, rfl⟩
    obtain ⟨Yc, rfl⟩ : ∃ l, l = xc := ⟨_, rfl⟩
    obtain ⟨Xc, rfl⟩ : ∃ l, l = yc := ⟨_, rfl⟩
    have HX := Lib.hid hy
    have HY := Lib.hid hx
    have HWX := Lib.hid wy
    have HWY := Lib.hid wx
    have hlX := ly
    have hlY := lx
    clear hx hy wx wy lx ly
    obtain ⟨V, hV⟩ : ∃ V, Pl.num Xs + Pl.num Ys = V := ⟨_, rfl⟩
    rw [Nat.add_comm, hV]
    obtain ⟨n, hn⟩ : ∃ n, Xs.length = n := ⟨_, rfl⟩
    obtain ⟨m, hm⟩ : ∃ m, Ys.length = m := ⟨_, rfl⟩
    rw [hn] at hlX HX
    rw [hm] at hlY HY
    rw [hn, hm] at hle
    rw [hn, hm]
    have hmn : m ≤ n := by omega
  case' inr =>
    obtain ⟨Xs, rfl⟩ : ∃ l, l = xs := ⟨_, rfl⟩
    obtain ⟨Ys, rfl⟩ : ∃ l, l = ys := ⟨_, rfl⟩
    obtain ⟨Xa, rfl⟩ : ∃ l, l = xa := ⟨_, rfl⟩
    obtain ⟨Ya, rfl⟩ : ∃ l, l = ya := ⟨_, rfl⟩
    obtain ⟨Xc, rfl⟩ : ∃ l, l = xc := ⟨_, rfl⟩
    obtain ⟨Yc, rfl⟩ : ∃ l, l = yc := ⟨_, rfl⟩
    have HX := Lib.hid hx
    have HY := Lib.hid hy
    have HWX := Lib.hid wx
    have HWY := Lib.hid wy
    have hlX := lx
    have hlY := ly
    clear hx hy wx wy lx ly
    obtain ⟨V, hV⟩ : ∃ V, Pl.num Xs + Pl.num Ys = V := ⟨_, rfl⟩
    rw [hV]
    obtain ⟨n, hn⟩ : ∃ n, Xs.length = n := ⟨_, rfl⟩
    obtain ⟨m, hm⟩ : ∃ m, Ys.length = m := ⟨_, rfl⟩
    rw [hn] at hlX HX
    rw [hm] at hlY HY
    rw [hn, hm] at hle
    rw [hn, hm]
    have hmn : m ≤ n := by omega
  all_goals
    have HN := Lib.hid hn
    have HM := Lib.hid hm
    have HV := Lib.hid hV
    clear hn hm hV
    go_enter Tryz.func85, Tryz.ntmps85
    go_wp2_with (at_make; refine wpList_make_full _ rfl _ _ 90 rfl w.heap.size 103 i0 (.int .u32 0) 1 Tryz.underlying90 hi hz0 hz1 .i64 .i64 _ _ (n + 1) rfl rfl (by omega) (by omega) (by rw [hz2]; omega) (by unfold maxLen; omega) (by simp) ?_)
    intro w1 ho1 hg1
    obtain ⟨g, hgd⟩ : ∃ g, w.heap.size = g := ⟨_, rfl⟩
    have hrow := made_row ho1
    rw [hgd] at hrow ⊢
    have HB1 := Lib.hid (show Below g w w1 from (Below.refl _ _).grown hg1 (by omega) (fun k hk => by cases hk))
    have HROW := Lib.hid hrow
    have HGD := Lib.hid hgd
    clear ho1 hg1 hi hz0 hz1 hz2 hrow hgd
    go_wp2_with fail
    go_loopw [6, 22] (fun c i wr => ∃ (k cc : Nat) (zs : List Nat), k ≤ n ∧ cc ≤ 1 ∧ c = .int .u32 cc ∧ i = .int .i64 k ∧ Wrow wr g zs ∧ zs.length = n + 1 ∧ Pl.Ws zs ∧ (∀ j, k ≤ j → zs.getD j 0 = 0) ∧ Hid (Pl.num zs + 4294967296 ^ k * cc = Pl.num (Xs.take k) + Pl.num (Ys.take k)) ∧ Below g w wr) (fun _ i _ => n - (RowKit.intOf i).toNat)
    case atStart => exact ⟨0, 0, List.replicate (n + 1) 0, Nat.zero_le _, by omega, rfl, rfl, HROW.out, by simp, Pl.ws_replicate _, fun j _ => by simp [List.getD_eq_getElem?_getD, List.getElem?_replicate]; split <;> rfl, Lib.hid (by rw [Pl.num_replicate]; simp [Pl.num]), HB1.out⟩
    case round =>
      obtain ⟨k, cc, zs, hk, hcc, rfl, rfl, hrow, hzl, hws, hz0, hnum, hb⟩ := hrel
      have HB := Lib.hid hb
      have HZL := Lib.hid hzl
      have HWS := Lib.hid hws
      have HZ0 := Lib.hid hz0
      have HROW2 := Lib.hid hrow
      by_cases hlt : k < n
      · have hkz : k < zs.length := by rw [hzl]; omega
        have hcell := hrow.cell hkz
        have hfree := hrow.free k
        obtain ⟨bx, hxa, hbx, hcx⟩ := HX.out.at (k := k) (by rw [HN.out]; exact hlt)
        have hcx2 : wr.cell? ⟨bx, k, none⟩ = some (.int .u32 (Xs.getD k 0 : Nat)) := by
          rw [HB.out.cell (p := ⟨bx, k, none⟩) (by have := HGD.out; show bx < _; omega)]; exact hcx
        subst hxa
        clear hrow hzl hws hz0 hb hcx hbx
        have hxl := Pl.getD_ws HWX.out k
        have HRND := Lib.hid (fun (h0 : zs.getD k 0 = 0) => Pl.add_round (xs := Xs) (ys := Ys) (zs := zs) (k := k) (c := cc) hkz h0 hnum.out)
        obtain ⟨x, hx⟩ : ∃ x, Xs.getD k 0 = x := ⟨_, rfl⟩
        rw [hx] at hcx2 hxl HRND
        obtain ⟨y, hy⟩ : ∃ y, Ys.getD k 0 = y := ⟨_, rfl⟩
        have hyl : y < 4294967296 := by rw [← hy]; exact Pl.getD_ws HWY.out k
        rw [hy] at HRND
        obtain ⟨d, hd⟩ : ∃ d, (x + y + cc) % 4294967296 = d := ⟨_, rfl⟩
        obtain ⟨c', hc'⟩ : ∃ c', (x + y + cc) / 4294967296 = c' := ⟨_, rfl⟩
        rw [hd, hc'] at HRND
        have HAD := Lib.hid (fun W => add32_any x y cc d c' W hxl hyl hcc hd hc')
        have hdl : d < 4294967296 := by omega
        have hcl : c' ≤ 1 := by omega
        have hrow' := HROW2.out.set k d
        have hb' := HB.out.setCell (p := ⟨g, k, none⟩) (Nat.le_refl g) (.int .u32 (d : Nat))
        have HROW3 := Lib.hid hrow'
        have HB3 := Lib.hid hb'
        have HX2 := Lib.hid hx
        have HY2 := Lib.hid hy
        have HKZ := Lib.hid hkz
        clear hrow' hb' hx hy hkz hnum hd hc' hxl
        by_cases hm : k < m
        case' pos =>
          obtain ⟨bY, hya, hbY, hcy⟩ := HY.out.at (k := k) (by rw [HM.out]; exact hm)
          have hcy2 : wr.cell? ⟨bY, k, none⟩ = some (.int .u32 (y : Nat)) := by
            rw [HB.out.cell (p := ⟨bY, k, none⟩) (by have := HGD.out; show bY < _; omega), ← HY2.out]; exact hcy
          subst hya
          clear hcy hbY
          go_wp2_with fail
        case' neg =>
          have hy0 : y = 0 := by rw [← HY2.out, List.getD_eq_getElem?_getD, List.getElem?_eq_none (by rw [HM.out]; omega)]; rfl
          subst hy0
          go_wp2_with fail
        all_goals
          refine (HAD.out _).mono ?_
          rintro e w' ⟨rfl, rfl⟩
          go_wp2_with fail
          go_roundw
          case rel =>
            refine ⟨k + 1, c', zs.set k d, by omega, hcl, rfl, by go_num, HROW3.out, by rw [List.length_set]; exact HZL.out, HWS.out.set k hdl, fun j hj => ?_, Lib.hid (HRND.out (HZ0.out k (Nat.le_refl _))), HB3.out⟩
            rw [List.getD_eq_getElem?_getD, List.getElem?_set_ne (by omega), ← List.getD_eq_getElem?_getD]
            exact HZ0.out j (by omega)
          case measure => simp [RowKit.intOf]; omega
      · obtain rfl : k = n := by omega
        have hkz : k < zs.length := by rw [hzl]; omega
        have hcell := hrow.cell hkz
        have hfree := hrow.free k
        have hrow' := hrow.set k cc
        have hb' := hb.setCell (p := ⟨g, k, none⟩) (Nat.le_refl g) (.int .u32 (cc : Nat))
        have hws' : Pl.Ws (zs.set k cc) := hws.set k (by omega)
        have hlen' : (zs.set k cc).length = k + 1 := by rw [List.length_set]; exact hzl
        have hres : Pl.num (zs.set k cc) = V := by
          have h1 := Pl.num_set zs k cc hkz
          rw [hz0 k (Nat.le_refl _), Nat.mul_zero, Nat.add_zero] at h1
          rw [h1, hnum.out, List.take_of_length_le (by rw [HN.out]; exact Nat.le_refl _), List.take_of_length_le (by rw [HM.out]; exact hmn)]
          exact HV.out
        have hrd := hrow'.rd (cap := k + 1) (by rw [hlen']; exact Nat.le_refl _)
        rw [hlen'] at hrd
        have HT := Lib.hid (trim_any _ _ _ hrd (by rw [hlen']; omega))
        have HTW := Lib.hid (Pl.trimW_wd hws' hres)
        have HB3 := Lib.hid hb'
        clear hrow hrow' hb hb' hws hws' hnum hrd hres hz0 hlt hlen'
        go_wp2_with fail
        refine HT.out.mono ?_
        rintro e w' ⟨v', rfl, hr, rfl⟩
        rw [HTW.out] at hr
        have HR := Lib.hid hr
        obtain ⟨a, c, rfl⟩ := hr.form
        clear hr
        go_wp2_with fail
        go_ret
        exact ⟨_, rfl, HR.out, by rw [HGD.out]; exact HB3.out⟩
end Go.Proofs.YtlodbibagmblkaaGreatDoor
