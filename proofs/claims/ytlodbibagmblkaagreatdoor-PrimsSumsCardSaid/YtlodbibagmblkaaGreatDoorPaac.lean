/- The contracts of Check and told. A large number as words: the contract of of. Words shifted to the left: the contract of left. Words shifted to the left: the contract of left. Rows of words: plain. Plain: the rounds of sums, differences, products and quotients of words. Rows of words that are written in place: in memory. Plain: the borrow of a difference of words. -/
import Derived.Test.YtlodbibagmblkaaGreatDoorPaab
import Derived.RegionTactic
import Derived.ChangeAlike
import Derived.WalkKit
namespace Go.Proofs.YtlodbibagmblkaaGreatDoor
open Go.RowKit Go.Lib
def Pl.chk (neg : Bool) (l : List UInt8) : Int :=
  if 4096 < l.length then 92 else if l.length = 0 then (if neg then 1 else 0) else if l[l.length - 1]? = some 0 then 1 else 0
set_option maxHeartbeats 1000000 in
theorem check_any (neg : Bool) (l : List UInt8) (w : World) (hl : l.length ≤ 100000000) :
    Calls Tryz.prog 82 #[lv neg l] w fun e w' => e = .returned (.int .i64 (Pl.chk neg l)) ∧ Below w.heap.size w w' := by
  unfold lv
  have hsz : (bs l).size = l.length := rfl
  obtain ⟨r, hr⟩ : ∃ r, Pl.chk neg l = r := ⟨_, rfl⟩
  rw [hr]
  have hlast : ∀ (h : l.length - 1 < (bs l).size), l[l.length - 1]? = some ((bs l)[l.length - 1]'h) := by
    intro h; rw [bs_size] at h
    rw [List.getElem?_eq_getElem h]; rfl
  have HLa := Lib.hid hlast
  clear hlast
  obtain ⟨n, hn⟩ : ∃ n, l.length = n := ⟨_, rfl⟩
  unfold Pl.chk at hr
  rw [hn] at hsz hl hr HLa
  have HR := Lib.hid hr
  clear hr hn
  generalize bs l = s at *
  by_cases c1 : 4096 < n
  · have HQ := Lib.hid (show r = 92 by rw [← HR.out, if_pos c1])
    go_enter Tryz.func82, Tryz.ntmps82
    go_wp2_with fail
    go_ret
    exact ⟨ret_int (by rw [HQ.out]), (Below.refl _ _).alloc (Nat.le_refl _) _⟩
  by_cases c2 : n = 0
  · have b2 : ((n : Int) == 0) = true := by rw [beq_iff_eq]; omega
    have HQ := Lib.hid (show r = if neg then 1 else 0 by rw [← HR.out, if_neg c1, if_pos c2])
    clear c2 HLa
    cases neg
    · go_enter Tryz.func82, Tryz.ntmps82
      go_wp2_with fail
      go_ret
      exact ⟨ret_int (by rw [HQ.out]; rfl), (Below.refl _ _).alloc (Nat.le_refl _) _⟩
    · go_enter Tryz.func82, Tryz.ntmps82
      go_wp2_with fail
      go_ret
      exact ⟨ret_int (by rw [HQ.out]; rfl), (Below.refl _ _).alloc (Nat.le_refl _) _⟩
  · have b2 : ((n : Int) == 0) = false := by rw [beq_eq_false_iff_ne]; omega
    have q : n - 1 < s.size := by omega
    have hlq := HLa.out q
    obtain ⟨c, hc⟩ : ∃ c, s[n - 1]'q = c := ⟨_, rfl⟩
    rw [hc] at hlq
    have hn1 : 1 ≤ n := by omega
    by_cases c3 : c = 0
    · have b3 : ((c.toNat : Int) == 0) = true := by rw [c3]; rfl
      have HQ := Lib.hid (show r = 1 by rw [← HR.out, if_neg c1, if_neg c2, if_pos (by rw [hlq, c3])])
      clear c3 hlq HLa HR
      go_enter Tryz.func82, Tryz.ntmps82
      go_wp2_with fail
      go_ret
      exact ⟨ret_int (by rw [HQ.out]), (Below.refl _ _).alloc (Nat.le_refl _) _⟩
    · have b3 : ((c.toNat : Int) == 0) = false := by
        rw [beq_eq_false_iff_ne]; intro h; apply c3; apply UInt8.toNat_inj.1; rw [show (0 : UInt8).toNat = 0 from rfl]; omega
      have HQ := Lib.hid (show r = 0 by rw [← HR.out, if_neg c1, if_neg c2, if_neg (by rw [hlq]; intro e; injection e with e; exact c3 e)])
      clear c3 hlq HLa HR
      go_enter Tryz.func82, Tryz.ntmps82
      go_wp2_with fail
      go_ret
      exact ⟨ret_int (by rw [HQ.out]), (Below.refl _ _).alloc (Nat.le_refl _) _⟩
def ToldOk (w : World) (neg : Bool) (xs : List Nat) (e : Ending) (w' : World) : Prop :=
  e = .returned (.tuple #[lv (neg && !(Pl.bytesOf xs).isEmpty) (Pl.bytesOf xs), .int .i64 0]) ∧ Below w.heap.size w w'
set_option maxHeartbeats 1000000 in
theorem ltold_any (v : Value) (xs : List Nat) (neg : Bool) (w : World) (h : Rd w v xs) (hl : xs.length ≤ 10000) (hx : ∀ x ∈ xs, x < 4294967296) (hs : (Pl.bytesOf xs).length ≤ 4096) :
    Calls Tryz.prog 66 #[.agg #[v, .bool neg]] w (ToldOk w neg xs) := by
  have HL := Lib.hid (fun (W : World) (hB : Below w.heap.size w W) => large_any v xs neg W (h.below hB) hl hx)
  obtain ⟨g, hg⟩ : ∃ g, (neg && !(Pl.bytesOf xs).isEmpty) = g := ⟨_, rfl⟩
  obtain ⟨L, hL⟩ : ∃ L, Pl.bytesOf xs = L := ⟨_, rfl⟩
  have HV := Lib.hid (show ToldOk w neg xs = fun e w' => e = .returned (.tuple #[.agg #[.bool g, .string (bs L)], .int .i64 0]) ∧ Below w.heap.size w w' by unfold ToldOk lv; rw [hg, hL])
  have HV2 := Lib.hid (show ∀ W, LargeOk W neg xs = fun e w' => e = .returned (.agg #[.bool g, .string (bs L)]) ∧ Below W.heap.size W w' from fun W => by unfold LargeOk lv; rw [hg, hL])
  rw [hL] at hs
  have hsz : (bs L).size = L.length := rfl
  generalize bs L = S at *
  obtain ⟨n, hn⟩ : ∃ n, L.length = n := ⟨_, rfl⟩
  rw [hn] at hsz hs
  clear hg hL hn hx
  obtain ⟨va, vl, vc, rfl⟩ : ∃ a l c, v = .slice a l c := by
    rcases h with ⟨h1, _⟩ | ⟨b, cap, h1, _⟩
    · exact ⟨_, _, _, h1⟩
    · exact ⟨_, _, _, h1⟩
  clear h
  rw [HV.out]
  go_enter Tryz.func66, Tryz.ntmps66
  go_wp2_with fail
  have h := HL.out ((w.alloc (.cells #[.slice va vl vc, .bool neg] 92)).alloc (.cells #[.bool false, .string ⟨#[]⟩] 43)) (((Below.refl _ _).alloc (Nat.le_refl _) _).alloc (by simp) _)
  rw [HV2.out] at h
  refine h.mono ?_
  rintro e w2 ⟨rfl, hB⟩
  obtain ⟨B, hBd⟩ : ∃ B, w.heap.size + 1 = B := ⟨_, rfl⟩
  have hB1 : Below (B + 1) ((w.alloc (.cells #[.slice va vl vc, .bool neg] 92)).alloc (.cells #[.bool false, .string ⟨#[]⟩] 43)) w2 := hB.mono (by simp; omega)
  have hR : w2.heap[B]? = some (.cells #[.bool false, .string ⟨#[]⟩] 43) := by
    rw [hB1.block _ (by omega), ← hBd, show w.heap.size + 1 = (w.alloc (.cells #[.slice va vl vc, .bool neg] 92)).heap.size by simp]; exact heap_alloc_at _ _
  have HBW := Lib.hid (show Below w.heap.size w w2 from (((Below.refl _ _).alloc (Nat.le_refl _) _).alloc (by simp) _).trans (hB.mono (by simp; omega)))
  have hz2 : B + 1 ≤ w2.heap.size := by have := hB.size; simp at this; omega
  have HR := Lib.hid hR
  rw [hBd]
  clear hB hB1 hR h HL
  have HR3 := Lib.hid (show (w2.alloc (.cells #[.bool g, .string S] 43)).heap[B]? = some (.cells #[.bool false, .string ⟨#[]⟩] 43) by rw [Below.heap_alloc _ _ _ (by omega)]; exact HR.out)
  have r0 : (w2.alloc (.cells #[.bool g, .string S] 43)).cell? ⟨B, 0, none⟩ = some (.bool false) := by simp [World.cell?, HR3.out]
  have r1 : (w2.alloc (.cells #[.bool g, .string S] 43)).cell? ⟨B, 1, none⟩ = some (.string ⟨#[]⟩) := by simp [World.cell?, HR3.out]
  have f0 : (w2.alloc (.cells #[.bool g, .string S] 43)).frozen? ⟨B, 0, none⟩ = false := by simp [World.frozen?, HR3.out]
  have f1 : (w2.alloc (.cells #[.bool g, .string S] 43)).frozen? ⟨B, 1, none⟩ = false := by simp [World.frozen?, HR3.out]
  have HBd := Lib.hid hBd
  clear hBd
  go_wp2_with fail
  obtain ⟨k0, k1, kB⟩ := two_set (w2.alloc (.cells #[.bool g, .string S] 43)) B (.bool g) (.string S) r0 r1
  have kB' := (HBW.out.alloc (by have := HBd.out; omega) _).trans (kB.mono (by have := HBd.out; omega))
  refine bodyPost_ret (v := .tuple #[.agg #[.bool g, .string S], .int .i64 0]) (by simp [results, Tryz.results66, go_sem, k0, k1]) rfl ⟨rfl, kB'⟩
end Go.Proofs.YtlodbibagmblkaaGreatDoor
namespace Go.Proofs.YtlodbibagmblkaaGreatDoor
open Go.RowKit Go.Lib
namespace Pl
def le : List UInt8 → Nat
  | [] => 0
  | c :: l => c.toNat + 256 * le l
theorem le_snoc : ∀ (l : List UInt8) (c : UInt8), le (l ++ [c]) = le l + 256 ^ l.length * c.toNat
  | [], c => by simp [le]
  | a :: l, c => by rw [List.cons_append, le, le_snoc l c, le, List.length_cons, Nat.pow_succ, Nat.mul_add, ← Nat.mul_assoc, Nat.mul_comm 256 (256 ^ l.length)]; omega
theorem le_lt : ∀ l : List UInt8, le l < 256 ^ l.length
  | [] => by simp [le]
  | a :: l => by rw [le, List.length_cons, Nat.pow_succ]; have := le_lt l; have := a.toNat_lt; omega
/-- The word at a place. -/
def word (l : List UInt8) (j : Nat) : Nat := le ((l.drop (4 * j)).take 4)
def words (n : Nat) (l : List UInt8) : List Nat := (List.range n).map (word l)
theorem words_len (n : Nat) (l : List UInt8) : (words n l).length = n := by simp [words]
theorem word_lt (l : List UInt8) (j : Nat) : word l j < 4294967296 := by
  have h := le_lt ((l.drop (4 * j)).take 4)
  have hl : ((l.drop (4 * j)).take 4).length ≤ 4 := List.length_take_le _ _
  have : 256 ^ ((l.drop (4 * j)).take 4).length ≤ 256 ^ 4 := Nat.pow_le_pow_right (by decide) hl
  unfold word
  exact Nat.lt_of_lt_of_le h (Nat.le_trans this (by decide))
theorem word_step {l : List UInt8} {i : Nat} (h : i < l.length) (j : Nat) : word (l.take (i + 1)) j = if j = i / 4 then word (l.take i) j + 256 ^ (i % 4) * l[i].toNat else word (l.take i) j := by
  unfold word
  rw [List.take_succ_eq_append_getElem h]
  by_cases hj : j = i / 4
  · subst hj
    rw [if_pos rfl, List.drop_append_of_le_length (by simp; omega)]
    have hl : ((l.take i).drop (4 * (i / 4))).length = i % 4 := by simp; omega
    generalize (l.take i).drop (4 * (i / 4)) = X at hl ⊢
    rw [List.take_of_length_le (show (X ++ [l[i]]).length ≤ 4 by simp; omega), List.take_of_length_le (show X.length ≤ 4 by omega), le_snoc, hl]
  · rw [if_neg hj]
    rcases Nat.lt_or_gt_of_ne hj with hj | hj
    · rw [List.drop_append_of_le_length (by simp; omega), List.take_append_of_le_length (by simp; omega)]
    · rw [List.drop_eq_nil_of_le (by simp; omega), List.drop_eq_nil_of_le (by simp; omega)]
theorem word_small {l : List UInt8} {i : Nat} (h : i ≤ l.length) : word (l.take i) (i / 4) < 256 ^ (i % 4) := by
  have := le_lt ((((l.take i).drop (4 * (i / 4)))).take 4)
  have hl : ((((l.take i).drop (4 * (i / 4)))).take 4).length = i % 4 := by simp; omega
  rw [hl] at this
  exact this
end Pl
theorem bits_or32 {a b : Nat} (k : Nat) (ha : a < 2 ^ k) (hb : b < 256) (hk : k ≤ 24) : bits .or .u32 (a : Int) (IntKind.u32.wrap ((b : Int) * 2 ^ k)) = ((a + 2 ^ k * b : Nat) : Int) := by
  have hp : 2 ^ k ≤ 2 ^ 24 := Nat.pow_le_pow_right (by decide) hk
  have hpb : 2 ^ k * b < 4294967296 := by
    have : 2 ^ k * b ≤ 2 ^ 24 * 255 := Nat.mul_le_mul hp (by omega)
    exact Nat.lt_of_le_of_lt this (by decide)
  have hw : ∀ n : Nat, n < 4294967296 → IntKind.u32.wrap (n : Int) = n := fun n hn => by rw [IntKind.wrap_u32]; omega
  have e1 : (b : Int) * 2 ^ k = ((2 ^ k * b : Nat) : Int) := by rw [Nat.mul_comm]; simp
  rw [e1, hw _ hpb]
  have h32 : (2 : Nat) ^ IntKind.u32.bits = 4294967296 := rfl
  simp only [bits, BitVec.ofInt_natCast, BitVec.toNat_or, BitVec.toNat_ofNat, h32]
  have hor : a ||| 2 ^ k * b = a + 2 ^ k * b := by
    have := Nat.two_pow_add_eq_or_of_lt (i := k) (b := a) ha b
    rw [Nat.or_comm, ← this, Nat.add_comm]
  have hlt : a + 2 ^ k * b < 4294967296 := by
    have : 2 ^ k * b + 2 ^ k ≤ 2 ^ 24 * 256 := by rw [← Nat.mul_succ]; exact Nat.mul_le_mul hp (by omega)
    have h3 : (2 : Nat) ^ 24 * 256 = 4294967296 := by decide
    omega
  rw [Nat.mod_eq_of_lt (by omega), Nat.mod_eq_of_lt hpb, hor, hw _ hlt]
theorem at_bs (l : List UInt8) : At (bs l) 0 l := fun k h h2 => by simp only [Nat.zero_add]; rfl
theorem info74 : (Tryz.prog.info? 103).map (fun i => (i.zero, i.size, i.bytes)) = some (some (.int .u32 0), 1, 4) := by kernel_rfl
def wcells (xs : List Nat) : Array Value := (xs.map fun x => Value.int .u32 (x : Nat)).toArray
theorem row_full {w : World} {base g n : Nat} {e : TypeId} {xs : List Value} (h : w.ownsRow base e 1 (.slice (some ⟨g, 0, none⟩) n n) n xs) : w.heap[g]? = some (.cells xs.toArray e (0, 0)) := by
  rcases h.2 with ⟨h1, _⟩ | ⟨g', cap, cur, h1, _, h3, _, _, h6, h7⟩
  · cases h1
  · injection h1 with e1 e2 e3
    injection e1 with e1
    injection e1 with e1
    subst e1
    rw [h3]
    have hc : cur = xs.toArray := by
      rw [Nat.mul_one, List.take_of_length_le (by rw [Array.length_toList, h6, ← e3]; omega)] at h7
      rw [← h7]
    rw [hc]
theorem made_words (n : Nat) : (madeCells #[Value.int .u32 0] n).toList.toArray = wcells (Pl.words n []) := by
  have h : Pl.words n [] = List.replicate n 0 := by
    apply List.ext_getElem
    · simp [Pl.words]
    · intro i h1 h2; simp [Pl.words, Pl.word, Pl.le]
  rw [h]
  unfold wcells
  congr 1
  apply List.ext_getElem
  · simp [madeCells]
  · intro i h1 h2; simp [madeCells, Nat.mod_one]
def OfOk (w : World) (neg : Bool) (l : List UInt8) (e : Ending) (w' : World) : Prop :=
  ∃ v, e = .returned (.agg #[v, .bool neg]) ∧ Rd w' v (Pl.words ((l.length + 3) / 4) l) ∧ Below w.heap.size w w'
set_option maxHeartbeats 2000000 in
theorem lof_any (neg : Bool) (l : List UInt8) (w : World) (hl : l.length ≤ 4096) :
    Calls Tryz.prog 69 #[lv neg l] w (OfOk w neg l) := by
  unfold lv
  obtain ⟨i0, hi, hz0, hz1, hz2⟩ := info_parts info74
  have hsz : (bs l).size = l.length := rfl
  have HAT := Lib.hid (at_bs l)
  obtain ⟨N, hN⟩ : ∃ N, l.length = N := ⟨_, rfl⟩
  rw [hN] at hsz hl
  have HN := Lib.hid hN
  clear hN
  generalize bs l = s at *
  obtain ⟨n, hn⟩ : ∃ n, (N + 3) / 4 = n := ⟨_, rfl⟩
  have hn1 : ((N : Int) + 3) / 4 = (n : Int) := by omega
  have hn2 : n ≤ 1024 := by omega
  have hn3 : N ≤ 4 * n := by omega
  have HNN := Lib.hid hn
  clear hn
  go_enter Tryz.func69, Tryz.ntmps69
  go_wp2_with (at_make; refine wpList_make_full _ rfl _ _ 90 rfl (w.heap.size + 2) 103 i0 (.int .u32 0) 1 Tryz.underlying90 hi hz0 hz1 .i64 .i64 _ _ n rfl rfl ?c9 ?c0 ?c1 ?c2 ?c3 ?_)
  case c9 => exact hn1
  case c0 => exact hn1
  case c1 => rw [hz2]; omega
  case c2 => unfold maxLen; omega
  case c3 => simp
  intro w1 ho1 hg1
  obtain ⟨W0, hW0⟩ : ∃ W0, (w.alloc (.cells #[.bool neg, .string s] 43)).alloc (.cells #[.slice none 0 0, .bool false] 92) = W0 := ⟨_, rfl⟩
  have hW1 : W0.heap.size = w.heap.size + 2 := by rw [← hW0]; simp
  have hW2 : W0.heap[w.heap.size]? = some (.cells #[.bool neg, .string s] 43) := by rw [← hW0, Below.heap_alloc _ _ _ (by simp)]; exact heap_alloc_at _ _
  have hW4 : W0.heap[w.heap.size + 1]? = some (.cells #[.slice none 0 0, .bool false] 92) := by
    rw [← hW0, show w.heap.size + 1 = (w.alloc (.cells #[.bool neg, .string s] 43)).heap.size by simp]; exact heap_alloc_at _ _
  have hW3 : Below w.heap.size w W0 := by rw [← hW0]; exact ((Below.refl _ _).alloc (Nat.le_refl _) _).alloc (by simp) _
  rw [hW0] at hg1
  obtain ⟨g, hgd⟩ : ∃ g, w.heap.size + 2 = g := ⟨_, rfl⟩
  rw [hgd] at ho1 hW1 ⊢
  have hrow : w1.heap[g]? = some (.cells (wcells (Pl.words n (l.take 0))) 103) := by
    have := row_full ho1
    rw [made_words] at this
    exact this
  have HB1 := Lib.hid (show Below g W0 w1 from (Below.refl _ _).grown hg1 (by omega) (fun k hk => by cases hk))
  have HW2 := Lib.hid hW2
  have HW3 := Lib.hid hW3
  have HW4 := Lib.hid hW4
  have HROW := Lib.hid hrow
  have hg0 : w.heap.size + 2 ≤ g := by omega
  have HGD := Lib.hid hgd
  clear ho1 hg1 hW2 hW3 hW4 hW1 hW0 hi hz0 hz1 hz2 hrow hgd
  have c1 : w1.cell? ⟨w.heap.size, 1, none⟩ = some (.string s) := by
    rw [HB1.out.cell (p := ⟨w.heap.size, 1, none⟩) (by show w.heap.size < g; omega)]; simp [World.cell?, HW2.out]
  go_wp2_with fail
  go_loopw [14] (fun i wr => ∃ k : Nat, k ≤ N ∧ i = .int .i64 k ∧ wr.heap[g]? = some (.cells (wcells (Pl.words n (l.take k))) 103) ∧ Below g W0 wr ∧ g < wr.heap.size) (fun i _ => N - (RowKit.intOf i).toNat)
  case atStart => exact ⟨0, Nat.zero_le _, rfl, HROW.out, HB1.out, (Array.getElem?_eq_some_iff.1 HROW.out).1⟩
  case round =>
    obtain ⟨k, hk, rfl, hrow, hb, hsz2⟩ := hrel
    have HROW := Lib.hid hrow
    have HB := Lib.hid hb
    have c1 : wr.cell? ⟨w.heap.size, 1, none⟩ = some (.string s) := by
      rw [hb.cell (p := ⟨w.heap.size, 1, none⟩) (by show w.heap.size < g; omega)]; simp [World.cell?, HW2.out]
    clear hrow hb
    by_cases hlt : k < N
    · have hkl : k < l.length := by rw [HN.out]; exact hlt
      have q : k < s.size := by omega
      have ak : s[k]'q = l[k] := HAT.out.get hkl q (by omega)
      obtain ⟨c, hc⟩ : ∃ c, l[k] = c := ⟨_, rfl⟩
      rw [hc] at ak
      obtain ⟨x, hx⟩ : ∃ x, Pl.word (l.take k) (k / 4) = x := ⟨_, rfl⟩
      have hk4 : k / 4 < n := by omega
      have cx : wr.cell? ⟨g, k / 4, none⟩ = some (.int .u32 (x : Nat)) := by
        simp [World.cell?, HROW.out, wcells, Pl.words, hk4, hx]
      have fx : wr.frozen? ⟨g, k / 4, none⟩ = false := by simp [World.frozen?, HROW.out]
      have hxs := Pl.word_small (l := l) (i := k) (by omega)
      rw [hx] at hxs
      have hcb := c.toNat_lt
      obtain ⟨x', hx'⟩ : ∃ x', x + 2 ^ (8 * (k % 4)) * c.toNat = x' := ⟨_, rfl⟩
      have HOR := Lib.hid (show bits .or .u32 (x : Int) ((c.toNat : Int) * 2 ^ (8 * (k % 4)) % 4294967296) = ((x' : Nat) : Int) by
        have := bits_or32 (a := x) (b := c.toNat) (8 * (k % 4)) (by rw [Nat.pow_mul]; exact hxs) (by omega) (by omega)
        rw [IntKind.wrap_u32] at this
        rw [this, hx'])
      have HNEW := Lib.hid (show wcells (Pl.words n (l.take (k + 1))) = (wcells (Pl.words n (l.take k))).setIfInBounds (k / 4) (.int .u32 (x' : Nat)) by
        unfold wcells
        apply Array.toList_inj.1
        apply List.ext_getElem
        · simp [Pl.words]
        · intro i h1 h2
          simp only [Array.toList_setIfInBounds, List.getElem_set, List.getElem_map, Pl.words, List.getElem_range]
          rw [Pl.word_step hkl]
          by_cases e : k / 4 = i
          · subst e
            rw [if_pos rfl, if_pos rfl, hx, hc, ← hx', Nat.pow_mul]
          · rw [if_neg (fun h => e h.symm), if_neg e])
      clear hx' hx hc hxs
      go_wp2_with fail
      go_region
      rw [HOR.out]
      have hrow2 : (wr.setCell ⟨g, k / 4, none⟩ (.int .u32 (x' : Nat))).drew.heap[g]? = some (.cells (wcells (Pl.words n (l.take (k + 1)))) 103) := by
        rw [HNEW.out]
        show (wr.setCell ⟨g, k / 4, none⟩ (.int .u32 (x' : Nat))).heap[g]? = _
        simp only [World.setCell, Array.getElem?_modify, if_pos, HROW.out]
        rfl
      have HROW2 := Lib.hid hrow2
      have HB2 := Lib.hid (show Below g W0 (wr.setCell ⟨g, k / 4, none⟩ (.int .u32 (x' : Nat))).drew from (HB.out.setCell (p := ⟨g, k / 4, none⟩) (Nat.le_refl g) _).drew)
      have hz2 : g < (wr.setCell ⟨g, k / 4, none⟩ (.int .u32 (x' : Nat))).drew.heap.size := by rw [show (wr.setCell ⟨g, k / 4, none⟩ (.int .u32 (x' : Nat))).drew.heap.size = wr.heap.size by simp [World.setCell]]; exact hsz2
      clear hrow2
      generalize (wr.setCell ⟨g, k / 4, none⟩ (.int .u32 (x' : Nat))).drew = w2 at HROW2 HB2 hz2 ⊢
      go_wp2_with fail
      go_roundw
      case rel => exact ⟨k + 1, by omega, by go_num, HROW2.out, HB2.out, hz2⟩
      case measure => simp [RowKit.intOf]; omega
    · obtain rfl : k = N := by omega
      have hR : wr.heap[w.heap.size + 1]? = some (.cells #[.slice none 0 0, .bool false] 92) := by rw [HB.out.block _ (by omega)]; exact HW4.out
      have hP : wr.heap[w.heap.size]? = some (.cells #[.bool neg, .string s] 43) := by rw [HB.out.block _ (by omega)]; exact HW2.out
      obtain ⟨B, hBd⟩ : ∃ B, w.heap.size + 1 = B := ⟨_, rfl⟩
      rw [hBd] at hR ⊢
      have c0 : wr.cell? ⟨w.heap.size, 0, none⟩ = some (.bool neg) := by simp [World.cell?, hP]
      have r0 : wr.cell? ⟨B, 0, none⟩ = some (.slice none 0 0) := by simp [World.cell?, hR]
      have r1 : wr.cell? ⟨B, 1, none⟩ = some (.bool false) := by simp [World.cell?, hR]
      have f0 : wr.frozen? ⟨B, 0, none⟩ = false := by simp [World.frozen?, hR]
      have f1 : wr.frozen? ⟨B, 1, none⟩ = false := by simp [World.frozen?, hR]
      have HBW := Lib.hid (show Below w.heap.size w wr from HW3.out.trans (HB.out.mono (by omega)))
      have HBd := Lib.hid hBd
      clear hR hP hlt hBd
      go_wp2_with fail
      obtain ⟨k0, k1, kB⟩ := two_set wr B (.slice (some ⟨g, 0, none⟩) n n) (.bool neg) r0 r1
      have kB' := HBW.out.trans (kB.mono (by have := HBd.out; omega))
      have hgB : B < g := by have := HBd.out; omega
      refine bodyPost_ret (v := .agg #[.slice (some ⟨g, 0, none⟩) n n, .bool neg]) (by simp [results, Tryz.results69, go_sem, k0, k1]) rfl ⟨_, rfl, ?_, kB'⟩
      rw [HN.out, HNN.out]
      refine .inr ⟨g, n, by rw [Pl.words_len], by rw [Pl.words_len]; exact Nat.le_refl _, by simp [World.setCell]; exact hsz2, fun j y hy => ?_⟩
      have n1 : (⟨B, 1, none⟩ : Addr) ≠ ⟨g, j, none⟩ := by intro e; injection e with e; omega
      have n0 : (⟨B, 0, none⟩ : Addr) ≠ ⟨g, j, none⟩ := by intro e; injection e with e; omega
      rw [World.cell?_setCell_other _ _ _ _ n1, World.cell?_setCell_other _ _ _ _ n0]
      have hrow := HROW.out
      rw [List.take_of_length_le (by rw [HN.out]; exact Nat.le_refl _)] at hrow
      simp only [World.cell?, hrow, wcells]
      simp [hy]
end Go.Proofs.YtlodbibagmblkaaGreatDoor
namespace Go.Proofs.YtlodbibagmblkaaGreatDoor
open Go.RowKit Go.Lib
namespace Pl
/-- A number as so many words. -/
def dn (n V : Nat) : List Nat := (List.range n).map fun j => V / 4294967296 ^ j % 4294967296
theorem dn_len (n V : Nat) : (dn n V).length = n := by simp [dn]
theorem dn_lt {n V x : Nat} (h : x ∈ dn n V) : x < 4294967296 := by
  obtain ⟨j, _, rfl⟩ := List.mem_map.1 h; exact Nat.mod_lt _ (by decide)
theorem map_div_succ (B V n : Nat) : ((List.range (n + 1)).map fun j => V / B ^ j % B) = V % B :: ((List.range n).map fun j => V / B / B ^ j % B) := by
  rw [List.range_succ_eq_map, List.map_cons, List.map_map, Nat.pow_zero, Nat.div_one, List.cons.injEq]
  refine ⟨rfl, ?_⟩
  apply List.map_congr_left
  intro j _
  simp only [Function.comp]
  rw [Nat.pow_succ, Nat.mul_comm, Nat.div_div_eq_div_mul]
theorem dn_succ (n V : Nat) : dn (n + 1) V = V % 4294967296 :: dn n (V / 4294967296) := map_div_succ 4294967296 V n
theorem num_dn (n : Nat) : ∀ V : Nat, V < 4294967296 ^ n → num (dn n V) = V := by
  induction n with
  | zero => intro V h; rw [Nat.pow_zero] at h; have : V = 0 := by omega
            subst this; rfl
  | succ n ih =>
    intro V h
    rw [dn_succ, num, ih (V / 4294967296) (by
      rw [Nat.pow_succ, Nat.mul_comm] at h
      exact Nat.div_lt_of_lt_mul h)]
    omega
theorem num_lt : ∀ (xs : List Nat), (∀ x ∈ xs, x < 4294967296) → num xs < 4294967296 ^ xs.length
  | [], _ => by simp [num]
  | x :: xs, h => by
    rw [num, List.length_cons, Nat.pow_succ]
    have h1 := num_lt xs (fun y hy => h y (by simp [hy]))
    have h2 := h x (by simp)
    omega
/-- One word more, at place m: how the words change. -/
theorem dn_step {V s m p : Nat} (hp : p < 32) (hV : V / 4294967296 ^ m < 2 ^ p) (hs : s < 18446744073709551616) (hd : s % 2 ^ p = 0) (j : Nat) :
    (V + s * 4294967296 ^ m) / 4294967296 ^ j % 4294967296 = if j = m then V / 4294967296 ^ m + s % 4294967296 else if j = m + 1 then s / 4294967296 else V / 4294967296 ^ j % 4294967296 := by
  have hB : ∀ k, 0 < 4294967296 ^ k := fun k => Nat.pow_pos (by decide)
  have hpp : 2 ^ p * 2 ^ (32 - p) = 4294967296 := by rw [← Nat.pow_add, show p + (32 - p) = 32 by omega]
  have hlow : V / 4294967296 ^ m + s % 4294967296 < 4294967296 := by
    obtain ⟨q, hq⟩ := Nat.dvd_of_mod_eq_zero hd
    have h1 : s % 4294967296 = 2 ^ p * (q % 2 ^ (32 - p)) := by rw [hq, ← hpp, Nat.mul_mod_mul_left]
    have h2 : q % 2 ^ (32 - p) < 2 ^ (32 - p) := Nat.mod_lt _ (Nat.pow_pos (by decide))
    have h3 : 2 ^ p * (q % 2 ^ (32 - p)) + 2 ^ p ≤ 2 ^ p * 2 ^ (32 - p) := by rw [← Nat.mul_succ]; exact Nat.mul_le_mul_left _ h2
    rw [h1]; omega
  have hmid : (V + s * 4294967296 ^ m) / 4294967296 ^ m = V / 4294967296 ^ m + s := Nat.add_mul_div_right _ _ (hB m)
  rcases Nat.lt_trichotomy j m with hj | hj | hj
  · rw [if_neg (by omega), if_neg (by omega)]
    have e : 4294967296 ^ m = 4294967296 ^ j * (4294967296 * 4294967296 ^ (m - j - 1)) := by
      rw [← Nat.mul_assoc, ← Nat.pow_succ, ← Nat.pow_add, show j.succ + (m - j - 1) = m by omega]
    rw [e, show s * (4294967296 ^ j * (4294967296 * 4294967296 ^ (m - j - 1))) = (4294967296 * (s * 4294967296 ^ (m - j - 1))) * 4294967296 ^ j by
      rw [Nat.mul_comm (4294967296 * (s * 4294967296 ^ (m - j - 1))), ← Nat.mul_assoc s, Nat.mul_comm s, Nat.mul_assoc, Nat.mul_left_comm s], Nat.add_mul_div_right _ _ (hB j), Nat.add_mul_mod_self_left]
  · subst hj
    rw [if_pos rfl, hmid]
    have : (V / 4294967296 ^ j + s) % 4294967296 = (V / 4294967296 ^ j + s % 4294967296) % 4294967296 := by rw [Nat.add_mod_mod]
    rw [this, Nat.mod_eq_of_lt hlow]
  · rw [if_neg (by omega)]
    have hdiv : (V + s * 4294967296 ^ m) / 4294967296 ^ (m + 1) = s / 4294967296 := by
      rw [Nat.pow_succ, ← Nat.div_div_eq_div_mul, hmid]
      have e : V / 4294967296 ^ m + s = (V / 4294967296 ^ m + s % 4294967296) + (s / 4294967296) * 4294967296 := by
        have := Nat.mod_add_div s 4294967296; omega
      rw [e, Nat.add_mul_div_right _ _ (by decide), Nat.div_eq_of_lt hlow, Nat.zero_add]
    by_cases hj2 : j = m + 1
    · subst hj2
      rw [if_pos rfl, hdiv, Nat.mod_eq_of_lt (by omega)]
    · rw [if_neg hj2]
      have e : 4294967296 ^ j = 4294967296 ^ (m + 1) * 4294967296 ^ (j - m - 1) := by rw [← Nat.pow_add, show m + 1 + (j - m - 1) = j by omega]
      have hbig : 4294967296 ≤ 4294967296 ^ (j - m - 1) := by
        have := Nat.pow_le_pow_right (n := 4294967296) (by decide) (show 1 ≤ j - m - 1 by omega)
        simpa using this
      rw [e, ← Nat.div_div_eq_div_mul, ← Nat.div_div_eq_div_mul, hdiv, Nat.pow_succ, ← Nat.div_div_eq_div_mul V]
      rw [Nat.div_eq_of_lt (Nat.lt_of_lt_of_le (show s / 4294967296 < 4294967296 by omega) hbig)]
      have hv0 : V / 4294967296 ^ m / 4294967296 = 0 := by
        apply Nat.div_eq_of_lt
        have : 2 ^ p ≤ 2 ^ 31 := Nat.pow_le_pow_right (by decide) (by omega)
        have h31 : (2 : Nat) ^ 31 = 2147483648 := by decide
        omega
      rw [hv0, Nat.zero_div]
end Pl
end Go.Proofs.YtlodbibagmblkaaGreatDoor
namespace Go.Proofs.YtlodbibagmblkaaGreatDoor
open Go.RowKit Go.Lib
theorem bits_or_s {a t p : Nat} (hp : p < 32) (ha : a < 2 ^ p) (ht : t < 4294967296) (hd : t % 2 ^ p = 0) : bits .or .u32 (a : Int) (t : Int) = ((a + t : Nat) : Int) := by
  obtain ⟨q, hq⟩ := Nat.dvd_of_mod_eq_zero hd
  have h32 : (2 : Nat) ^ IntKind.u32.bits = 4294967296 := rfl
  have hp2 : 2 ^ p ≤ 2 ^ 31 := Nat.pow_le_pow_right (by decide) (by omega)
  have h31 : (2 : Nat) ^ 31 = 2147483648 := by decide
  have hor : a ||| t = a + t := by
    have := Nat.two_pow_add_eq_or_of_lt (i := p) (b := a) ha q
    rw [hq, Nat.or_comm, ← this, Nat.add_comm]
  have hlt : a ||| t < 2 ^ 32 := Nat.or_lt_two_pow (by omega) (by omega)
  have hw : ∀ n : Nat, n < 4294967296 → IntKind.u32.wrap (n : Int) = n := fun n hn => by rw [IntKind.wrap_u32]; omega
  simp only [bits, BitVec.ofInt_natCast, BitVec.toNat_or, BitVec.toNat_ofNat, h32]
  have ha32 : a < 4294967296 := by omega
  rw [Nat.mod_eq_of_lt ha32, Nat.mod_eq_of_lt ht, hor, hw _ (by rw [← hor]; simpa using hlt)]
namespace Pl
theorem shift_facts {B V x k whole part : Nat} (hB : B = 4294967296) (hV : V < B ^ k) (hx : x < B) (hp : part < 32) :
    V * 2 ^ (32 * whole + part) / B ^ (whole + k) < 2 ^ part ∧ (V + B ^ k * x) * 2 ^ (32 * whole + part) = V * 2 ^ (32 * whole + part) + x * 2 ^ part * B ^ (whole + k) ∧ x * 2 ^ part < 18446744073709551616 ∧ x * 2 ^ part % 2 ^ part = 0 := by
  have e : 2 ^ (32 * whole + part) = B ^ whole * 2 ^ part := by
    rw [Nat.pow_add, Nat.pow_mul, hB]
  have hp2 : 2 ^ part ≤ 2 ^ 31 := Nat.pow_le_pow_right (by decide) (by omega)
  refine ⟨?_, ?_, ?_, Nat.mul_mod_left _ _⟩
  · rw [e, Nat.pow_add]
    apply Nat.div_lt_of_lt_mul
    have hb : 0 < B ^ whole * 2 ^ part := Nat.mul_pos (Nat.pow_pos (by omega)) (Nat.pow_pos (by decide))
    calc V * (B ^ whole * 2 ^ part) < B ^ k * (B ^ whole * 2 ^ part) := (Nat.mul_lt_mul_right hb).2 hV
      _ = B ^ whole * B ^ k * 2 ^ part := by rw [← Nat.mul_assoc, Nat.mul_comm (B ^ k)]
  · rw [e, Nat.add_mul, Nat.pow_add]
    congr 1
    generalize B ^ k = p
    generalize B ^ whole = q
    generalize 2 ^ part = r
    rw [Nat.mul_comm p x, Nat.mul_assoc, Nat.mul_assoc, Nat.mul_left_comm p q r, Nat.mul_left_comm r q p, Nat.mul_comm r p]
  · have : x * 2 ^ part ≤ 4294967295 * 2 ^ 31 := Nat.mul_le_mul (by omega) hp2
    exact Nat.lt_of_le_of_lt this (by decide)
theorem num_snoc (l : List Nat) (x : Nat) : num (l ++ [x]) = num l + 4294967296 ^ l.length * x := by rw [num_append]; simp [num]
end Pl
def LeftOk (w : World) (n V : Nat) (e : Ending) (w' : World) : Prop :=
  ∃ v, e = .returned v ∧ Rd w' v (Pl.trimW (Pl.dn n V)) ∧ Below w.heap.size w w'
set_option maxHeartbeats 2000000 in
theorem left_any (v : Value) (xs : List Nat) (sh : Nat) (w : World) (h : Rd w v xs) (hl : xs.length ≤ 2000) (hx : ∀ x ∈ xs, x < 4294967296) (hs : sh ≤ 40000) :
    Calls Tryz.prog 83 #[v, .int .u64 sh] w (LeftOk w (sh / 32 + xs.length + 1) (Pl.num xs * 2 ^ sh)) := by
  obtain ⟨i0, hi, hz0, hz1, hz2⟩ := info_parts info74
  have HRD := Lib.hid h
  have HX := Lib.hid hx
  obtain ⟨va, vc, rfl⟩ : ∃ a c, v = .slice a xs.length c := by
    rcases h with ⟨h1, h2⟩ | ⟨b, cap, h1, _⟩
    · exact ⟨none, 0, by rw [h1, h2]; rfl⟩
    · exact ⟨_, _, h1⟩
  clear h hx
  obtain ⟨N, hN⟩ : ∃ N, xs.length = N := ⟨_, rfl⟩
  rw [hN] at hl HRD ⊢
  have HN := Lib.hid hN
  clear hN
  obtain ⟨wh, hwh⟩ : ∃ wh, sh / 32 = wh := ⟨_, rfl⟩
  obtain ⟨pt, hpt⟩ : ∃ pt, sh % 32 = pt := ⟨_, rfl⟩
  have d1 : (sh : Int) / 32 = (wh : Int) := by omega
  have d2 : (sh : Int) % 32 = (pt : Int) := by omega
  have hpt2 : pt < 32 := by omega
  have hwh2 : wh ≤ 1250 := by omega
  have HSH := Lib.hid (show sh = 32 * wh + pt by omega)
  rw [hwh]
  clear hwh hpt
  obtain ⟨n, hn⟩ : ∃ n, wh + N + 1 = n := ⟨_, rfl⟩
  rw [hn]
  have HNN := Lib.hid hn
  have hn2 : n ≤ 4000 := by omega
  go_enter Tryz.func83, Tryz.ntmps83
  go_wp2_with (at_make; refine wpList_make_full _ rfl _ _ 90 rfl w.heap.size 103 i0 (.int .u32 0) 1 Tryz.underlying90 hi hz0 hz1 .i64 .i64 _ _ n rfl rfl ?c9 ?c0 ?c1 ?c2 ?c3 ?_)
  case c9 => omega
  case c0 => omega
  case c1 => rw [hz2]; omega
  case c2 => unfold maxLen; omega
  case c3 => simp
  intro w1 ho1 hg1
  obtain ⟨g, hgd⟩ : ∃ g, w.heap.size = g := ⟨_, rfl⟩
  rw [hgd] at ho1 ⊢
  have hrow : w1.heap[g]? = some (.cells (wcells (Pl.dn n (Pl.num (xs.take 0) * 2 ^ sh))) 103) := by
    have := row_full ho1
    rw [made_words] at this
    rw [this]
    have e : Pl.words n [] = Pl.dn n (Pl.num (xs.take 0) * 2 ^ sh) := by
      unfold Pl.words Pl.dn
      apply List.map_congr_left
      intro j _
      simp [Pl.word, Pl.le, Pl.num]
    rw [e]
  have HB1 := Lib.hid (show Below g w w1 from (Below.refl _ _).grown hg1 (by omega) (fun k hk => by cases hk))
  have HROW := Lib.hid hrow
  have HGD := Lib.hid hgd
  clear ho1 hg1 hi hz0 hz1 hz2 hrow hgd hn
  go_wp2_with fail
  go_loopw [24] (fun i wr => ∃ k : Nat, k ≤ N ∧ i = .int .i64 k ∧ wr.heap[g]? = some (.cells (wcells (Pl.dn n (Pl.num (xs.take k) * 2 ^ sh))) 103) ∧ Below g w wr ∧ g < wr.heap.size) (fun i _ => N - (RowKit.intOf i).toNat)
  case atStart => exact ⟨0, Nat.zero_le _, rfl, HROW.out, HB1.out, (Array.getElem?_eq_some_iff.1 HROW.out).1⟩
  case round =>
    obtain ⟨k, hk, rfl, hrow, hb, hsz2⟩ := hrel
    have HROW := Lib.hid hrow
    have HB := Lib.hid hb
    clear hrow hb
    by_cases hlt : k < N
    · have hkl : k < xs.length := by rw [HN.out]; exact hlt
      obtain ⟨b, hva, hcell⟩ : ∃ b, va = some ⟨b, 0, none⟩ ∧ wr.cell? ⟨b, k, none⟩ = some (.int .u32 (xs[k] : Nat)) := by
        rcases HRD.out with ⟨h1, h2⟩ | ⟨b, cap, h1, h2, h3, h4⟩
        · rw [h2] at hkl; simp at hkl
        · injection h1 with e1 _ _
          refine ⟨b, e1, ?_⟩
          rw [HB.out.cell (p := ⟨b, k, none⟩) (by have := HGD.out; show b < _; omega)]
          exact h4 k _ (List.getElem?_eq_getElem hkl)
      subst hva
      have hxk := HX.out xs[k] (List.getElem_mem _)
      have hVk : Pl.num (xs.take k) < 4294967296 ^ k := by
        have := Pl.num_lt (xs.take k) (fun y hy => HX.out y (List.mem_of_mem_take hy))
        rwa [List.length_take, Nat.min_eq_left (by omega)] at this
      have hnum : Pl.num (xs.take (k + 1)) = Pl.num (xs.take k) + 4294967296 ^ k * xs[k] := by
        rw [List.take_succ_eq_append_getElem hkl, Pl.num_snoc, List.length_take, Nat.min_eq_left (by omega)]
      obtain ⟨x, hx⟩ : ∃ x, xs[k] = x := ⟨_, rfl⟩
      rw [hx] at hcell hxk hnum
      obtain ⟨s1, s2, s3, s4⟩ := Pl.shift_facts (whole := wh) (part := pt) rfl hVk hxk hpt2
      rw [← HSH.out] at s1 s2
      rw [← hnum] at s2
      obtain ⟨V, hV⟩ : ∃ V, Pl.num (xs.take k) * 2 ^ sh = V := ⟨_, rfl⟩
      rw [hV] at s1 s2 HROW
      obtain ⟨s, hs'⟩ : ∃ s, x * 2 ^ pt = s := ⟨_, rfl⟩
      rw [hs'] at s2 s3 s4
      obtain ⟨a, ha⟩ : ∃ a, V / 4294967296 ^ (wh + k) = a := ⟨_, rfl⟩
      have hst : (x : Int) * 2 ^ pt = (s : Int) := by rw [← hs']; simp
      have hm1 : wh + k < n := by have := HNN.out; omega
      have hm2 : wh + k + 1 < n := by have := HNN.out; omega
      have ha2 : a < 4294967296 := by
        have hp2 : 2 ^ pt ≤ 2 ^ 31 := Nat.pow_le_pow_right (by decide) (by omega)
        have h31 : (2 : Nat) ^ 31 = 2147483648 := by decide
        omega
      have ca : wr.cell? ⟨g, wh + k, none⟩ = some (.int .u32 (a : Nat)) := by
        simp [World.cell?, HROW.out, wcells, Pl.dn, hm1, ha]; omega
      have fa : wr.frozen? ⟨g, wh + k, none⟩ = false := by simp [World.frozen?, HROW.out]
      have HSTEP := Lib.hid (fun j => Pl.dn_step hpt2 s1 s3 s4 j)
      have HOR := Lib.hid (bits_or_s hpt2 (by rw [ha] at s1; exact s1) (show s % 4294967296 < 4294967296 by omega) (by
        have h1 : 2 ^ pt * 2 ^ (32 - pt) = 4294967296 := by rw [← Nat.pow_add, show pt + (32 - pt) = 32 by omega]
        obtain ⟨q, hq⟩ := Nat.dvd_of_mod_eq_zero s4
        rw [hq, ← h1, Nat.mul_mod_mul_left, Nat.mul_mod_right]))
      have HS2 := Lib.hid s2
      obtain ⟨a', ha'⟩ : ∃ a', a + s % 4294967296 = a' := ⟨_, rfl⟩
      obtain ⟨t, ht⟩ : ∃ t, s / 4294967296 = t := ⟨_, rfl⟩
      have hor : bits .or .u32 (a : Int) ((s : Int) % 4294967296) = (a' : Int) := by have := HOR.out; rw [ha'] at this; rw [← this]; simp
      have htt : (s : Int) / 4294967296 = (t : Int) := by omega
      have HNEW := Lib.hid (show wcells (Pl.dn n (Pl.num (xs.take (k + 1)) * 2 ^ sh)) = ((wcells (Pl.dn n V)).setIfInBounds (wh + k) (.int .u32 (a' : Nat))).setIfInBounds (wh + k + 1) (.int .u32 (t : Nat)) by
        rw [HS2.out]
        unfold wcells
        apply Array.toList_inj.1
        apply List.ext_getElem
        · simp [Pl.dn]
        · intro i h1 h2
          simp only [Array.toList_setIfInBounds, List.getElem_set, List.getElem_map, Pl.dn, List.getElem_range]
          rw [HSTEP.out]
          by_cases e : i = wh + k
          · subst e
            rw [if_pos rfl, if_neg (by omega), if_pos rfl, ha, ha']
          · rw [if_neg e]
            by_cases e2 : i = wh + k + 1
            · subst e2
              rw [if_pos rfl, if_pos rfl, ht]
            · rw [if_neg e2, if_neg (fun h => e2 h.symm), if_neg (fun h => e h.symm)])
      obtain ⟨y, cb⟩ : ∃ y : Nat, wr.cell? ⟨g, wh + k + 1, none⟩ = some (.int .u32 (y : Nat)) := ⟨V / 4294967296 ^ (wh + k + 1) % 4294967296, by simp [World.cell?, HROW.out, wcells, Pl.dn, hm2]⟩
      have fb : wr.frozen? ⟨g, wh + k + 1, none⟩ = false := by simp [World.frozen?, HROW.out]
      clear s1 s2 s4 hs' hnum hVk hx hV ha ha' ht HOR HSTEP HS2
      go_wp2_with fail
      have hrow2 : ((wr.setCell ⟨g, wh + k, none⟩ (.int .u32 (a' : Nat))).setCell ⟨g, wh + k + 1, none⟩ (.int .u32 (t : Nat))).heap[g]? = some (.cells (wcells (Pl.dn n (Pl.num (xs.take (k + 1)) * 2 ^ sh))) 103) := by
        rw [HNEW.out]
        simp only [World.setCell, Array.getElem?_modify, if_pos, HROW.out]
        rfl
      have hB2 : Below g w ((wr.setCell ⟨g, wh + k, none⟩ (.int .u32 (a' : Nat))).setCell ⟨g, wh + k + 1, none⟩ (.int .u32 (t : Nat))) := (HB.out.setCell (p := ⟨g, wh + k, none⟩) (Nat.le_refl g) _).setCell (p := ⟨g, wh + k + 1, none⟩) (Nat.le_refl g) _
      have hz2 : g < ((wr.setCell ⟨g, wh + k, none⟩ (.int .u32 (a' : Nat))).setCell ⟨g, wh + k + 1, none⟩ (.int .u32 (t : Nat))).heap.size := by simp [World.setCell]; exact hsz2
      go_roundw
      case rel => exact ⟨k + 1, by omega, by go_num, hrow2, hB2, hz2⟩
      case measure => simp [RowKit.intOf]; omega
    · obtain rfl : k = N := by omega
      rw [List.take_of_length_le (by rw [HN.out]; exact Nat.le_refl _)] at HROW
      have hrd : Rd wr (.slice (some ⟨g, 0, none⟩) n n) (Pl.dn n (Pl.num xs * 2 ^ sh)) := by
        refine .inr ⟨g, n, by rw [Pl.dn_len], by rw [Pl.dn_len]; exact Nat.le_refl _, hsz2, fun j y hy => ?_⟩
        simp only [World.cell?, HROW.out, wcells]
        simp [hy]
      have HT := Lib.hid (trim_any _ _ wr hrd (by rw [Pl.dn_len]; omega))
      have HBW := Lib.hid (show Below w.heap.size w wr from by rw [HGD.out]; exact HB.out)
      clear hrd hlt
      go_wp2_with fail
      refine HT.out.mono ?_
      rintro e w' ⟨v', rfl, hrd2, rfl⟩
      have HR2 := Lib.hid hrd2
      obtain ⟨a, b, c, rfl⟩ : ∃ a b c, v' = .slice a b c := by
        rcases hrd2 with ⟨h1, _⟩ | ⟨_, _, h1, _⟩
        · exact ⟨_, _, _, h1⟩
        · exact ⟨_, _, _, h1⟩
      clear hrd2
      go_wp2_with fail
      go_ret
      exact ⟨_, rfl, HR2.out, HBW.out⟩
end Go.Proofs.YtlodbibagmblkaaGreatDoor
namespace Go.Proofs.YtlodbibagmblkaaGreatDoor

namespace Pl
/-- each a word -/
def Ws (xs : List Nat) : Prop := ∀ x ∈ xs, x < 4294967296
theorem Ws.take {xs : List Nat} (h : Ws xs) (k : Nat) : Ws (xs.take k) := fun x hx => h x (List.mem_of_mem_take hx)
theorem Ws.drop {xs : List Nat} (h : Ws xs) (k : Nat) : Ws (xs.drop k) := fun x hx => h x (List.mem_of_mem_drop hx)
theorem Ws.set {xs : List Nat} (h : Ws xs) (k : Nat) {v : Nat} (hv : v < 4294967296) : Ws (xs.set k v) := fun x hx => by
  rcases List.mem_or_eq_of_mem_set hx with h1 | h1
  · exact h x h1
  · rw [h1]; exact hv
theorem ws_replicate (n : Nat) : Ws (List.replicate n 0) := fun x hx => by rw [(List.mem_replicate.1 hx).2]; decide
theorem num_replicate (n : Nat) : num (List.replicate n 0) = 0 := by
  induction n with
  | zero => rfl
  | succ n ih => rw [List.replicate_succ, num, ih]
theorem num_ws {xs : List Nat} (h : Ws xs) : num xs < 4294967296 ^ xs.length := num_lt xs h
/-- a word that is written: what was there is taken away, what is new is added -/
theorem num_set : ∀ (xs : List Nat) (k v : Nat), k < xs.length → num (xs.set k v) + 4294967296 ^ k * xs.getD k 0 = num xs + 4294967296 ^ k * v
  | [], k, v, h => by simp at h
  | x :: xs, 0, v, _ => by simp [num]; omega
  | x :: xs, k + 1, v, h => by
    have ih := num_set xs k v (by simpa using h)
    rw [List.set_cons_succ, num, num, List.getD_cons_succ, Nat.pow_succ]
    have e1 : 4294967296 ^ k * 4294967296 * xs.getD k 0 = 4294967296 * (4294967296 ^ k * xs.getD k 0) := by ac_rfl
    have e2 : 4294967296 ^ k * 4294967296 * v = 4294967296 * (4294967296 ^ k * v) := by ac_rfl
    rw [e1, e2]
    omega
theorem num_take_succ (xs : List Nat) (k : Nat) : num (xs.take (k + 1)) = num (xs.take k) + 4294967296 ^ k * xs.getD k 0 := by
  by_cases h : k < xs.length
  · rw [List.take_succ_eq_append_getElem h, num_snoc, List.length_take, Nat.min_eq_left (by omega), List.getD_eq_getElem?_getD, List.getElem?_eq_getElem h]; rfl
  · rw [List.take_of_length_le (by omega), List.take_of_length_le (by omega), List.getD_eq_getElem?_getD, List.getElem?_eq_none (by omega)]; simp
theorem getD_ws {xs : List Nat} (h : Ws xs) (k : Nat) : xs.getD k 0 < 4294967296 := by
  rw [List.getD_eq_getElem?_getD]
  by_cases hk : k < xs.length
  · rw [List.getElem?_eq_getElem hk]; exact h _ (List.getElem_mem hk)
  · rw [List.getElem?_eq_none (by omega)]; decide
/-- without noughts at the end -/
def Tr (xs : List Nat) : Prop := xs = [] ∨ ∃ l c, xs = l ++ [c] ∧ c ≠ 0
theorem tr_trimW (xs : List Nat) : Tr (trimW xs) := by
  have key : ∀ l : List Nat, Tr (l.dropWhile (· == 0)).reverse := by
    intro l
    induction l with
    | nil => exact .inl rfl
    | cons a l ih =>
      by_cases h : a = 0
      · subst h; simpa using ih
      · have : (a :: l).dropWhile (· == 0) = a :: l := by simp [h]
        rw [this]
        exact .inr ⟨l.reverse, a, by simp, h⟩
  exact key xs.reverse
theorem ws_trimW {xs : List Nat} (h : Ws xs) : Ws (trimW xs) := by
  intro x hx
  unfold trimW at hx
  rw [List.mem_reverse] at hx
  exact h x (by have := (List.dropWhile_suffix _).mem hx; simpa using this)
/-- words without noughts at the end are told by their number -/
theorem num_inj : ∀ {a b : List Nat}, Ws a → Ws b → Tr a → Tr b → num a = num b → a = b := by
  have pos : ∀ {a : List Nat}, Tr a → a ≠ [] → 0 < num a := by
    intro a h h0
    rcases h with h | ⟨l, c, rfl, hc⟩
    · exact absurd h h0
    · rw [num_snoc]
      have := Nat.mul_pos (Nat.pow_pos (n := l.length) (show 0 < 4294967296 by decide)) (Nat.pos_iff_ne_zero.2 hc)
      omega
  have tl : ∀ {x : Nat} {a : List Nat}, Tr (x :: a) → Tr a := by
    intro x a h
    rcases h with h | ⟨l, c, h, hc⟩
    · cases h
    · cases l with
      | nil => simp at h; exact .inl h.2
      | cons y l => simp at h; exact .inr ⟨l, c, h.2, hc⟩
  intro a
  induction a with
  | nil =>
    intro b _ _ _ hb e
    by_cases h : b = []
    · exact h.symm
    · have := pos hb h; rw [← e] at this; simp [num] at this
  | cons x a ih =>
    intro b ha hb ta tb e
    cases b with
    | nil => have := pos ta (by simp); rw [e] at this; simp [num] at this
    | cons y b =>
      have hx := ha x (by simp)
      have hy := hb y (by simp)
      simp only [num] at e
      have e1 : x = y := by omega
      have e2 : num a = num b := by omega
      rw [e1, ih (fun z hz => ha z (by simp [hz])) (fun z hz => hb z (by simp [hz])) (tl ta) (tl tb) e2]
/-- the words of a number -/
theorem wordsOf_exists (V : Nat) : ∃ xs, Ws xs ∧ Tr xs ∧ num xs = V := by
  induction V using Nat.strongRecOn with
  | _ V ih =>
    by_cases h0 : V = 0
    · exact ⟨[], fun x hx => by simp at hx, .inl rfl, h0.symm⟩
    · obtain ⟨xs, h1, h2, h3⟩ := ih (V / 4294967296) (by omega)
      refine ⟨V % 4294967296 :: xs, ?_, ?_, ?_⟩
      · intro x hx
        rcases List.mem_cons.1 hx with hx | hx
        · rw [hx]; exact Nat.mod_lt _ (by decide)
        · exact h1 x hx
      · rcases h2 with h2 | ⟨l, c, h2, hc⟩
        · subst h2
          simp [num] at h3
          exact .inr ⟨[], V % 4294967296, by simp, by omega⟩
        · exact .inr ⟨V % 4294967296 :: l, c, by rw [h2]; rfl, hc⟩
      · rw [num, h3]; omega
noncomputable def wd (V : Nat) : List Nat := Classical.choose (wordsOf_exists V)
theorem wd_ws (V : Nat) : Ws (wd V) := (Classical.choose_spec (wordsOf_exists V)).1
theorem wd_tr (V : Nat) : Tr (wd V) := (Classical.choose_spec (wordsOf_exists V)).2.1
theorem wd_num (V : Nat) : num (wd V) = V := (Classical.choose_spec (wordsOf_exists V)).2.2
theorem trimW_wd {xs : List Nat} {V : Nat} (h : Ws xs) (e : num xs = V) : trimW xs = wd V := num_inj (ws_trimW h) (wd_ws V) (tr_trimW xs) (wd_tr V) (by rw [num_trimW, e, wd_num])
theorem wd_eq {xs : List Nat} {V : Nat} (h : Ws xs) (t : Tr xs) (e : num xs = V) : xs = wd V := num_inj h (wd_ws V) t (wd_tr V) (by rw [e, wd_num])
end Pl
end Go.Proofs.YtlodbibagmblkaaGreatDoor
namespace Go.Proofs.YtlodbibagmblkaaGreatDoor.Pl
/-- what is kept and what is carried of a word's sum -/
theorem carry_split (P s : Nat) : P * (s % 4294967296) + P * 4294967296 * (s / 4294967296) = P * s := by
  rw [Nat.mul_assoc, ← Nat.mul_add]
  congr 1
  omega
theorem add_round {xs ys zs : List Nat} {k c : Nat} (hk : k < zs.length) (h0 : zs.getD k 0 = 0) (h : num zs + 4294967296 ^ k * c = num (xs.take k) + num (ys.take k)) :
    num (zs.set k ((xs.getD k 0 + ys.getD k 0 + c) % 4294967296)) + 4294967296 ^ (k + 1) * ((xs.getD k 0 + ys.getD k 0 + c) / 4294967296) = num (xs.take (k + 1)) + num (ys.take (k + 1)) := by
  have h1 := num_set zs k ((xs.getD k 0 + ys.getD k 0 + c) % 4294967296) hk
  rw [h0, Nat.mul_zero, Nat.add_zero] at h1
  have h2 := carry_split (4294967296 ^ k) (xs.getD k 0 + ys.getD k 0 + c)
  rw [num_take_succ, num_take_succ, h1, Nat.pow_succ]
  rw [Nat.mul_add, Nat.mul_add] at h2
  omega
theorem sub_round {xs ys zs : List Nat} {k b d b' : Nat} (hk : k < zs.length) (h0 : zs.getD k 0 = 0) (h : num zs + num (ys.take k) = num (xs.take k) + 4294967296 ^ k * b) (hd : xs.getD k 0 + 4294967296 * b' = d + ys.getD k 0 + b) :
    num (zs.set k d) + num (ys.take (k + 1)) = num (xs.take (k + 1)) + 4294967296 ^ (k + 1) * b' := by
  have h1 := num_set zs k d hk
  rw [h0, Nat.mul_zero, Nat.add_zero] at h1
  have h2 := congrArg (4294967296 ^ k * ·) hd
  simp only [Nat.mul_add] at h2
  rw [num_take_succ, num_take_succ, h1, Nat.pow_succ, Nat.mul_assoc]
  omega
/-- one word of a product, and its carry -/
theorem mul_round {ys zs : List Nat} {i k a c V : Nat} (hk : i + k < zs.length) (h : num zs + 4294967296 ^ (i + k) * c = V + 4294967296 ^ i * (a * num (ys.take k))) :
    num (zs.set (i + k) ((a * ys.getD k 0 + zs.getD (i + k) 0 + c) % 4294967296)) + 4294967296 ^ (i + (k + 1)) * ((a * ys.getD k 0 + zs.getD (i + k) 0 + c) / 4294967296) = V + 4294967296 ^ i * (a * num (ys.take (k + 1))) := by
  have h1 := num_set zs (i + k) ((a * ys.getD k 0 + zs.getD (i + k) 0 + c) % 4294967296) hk
  have h2 := carry_split (4294967296 ^ (i + k)) (a * ys.getD k 0 + zs.getD (i + k) 0 + c)
  rw [Nat.mul_add, Nat.mul_add] at h2
  rw [num_take_succ, ← Nat.add_assoc i k 1, Nat.pow_succ]
  have e : 4294967296 ^ i * (a * (num (ys.take k) + 4294967296 ^ k * ys.getD k 0)) = 4294967296 ^ i * (a * num (ys.take k)) + 4294967296 ^ (i + k) * (a * ys.getD k 0) := by
    rw [Nat.pow_add, Nat.mul_add, Nat.mul_add]
    congr 1
    ac_rfl
  rw [e]
  omega
theorem mul_bound {a y z c : Nat} (ha : a < 4294967296) (hy : y < 4294967296) (hz : z < 4294967296) (hc : c < 4294967296) : a * y + z + c < 18446744073709551616 ∧ (a * y + z + c) / 4294967296 < 4294967296 := by
  have h1 : a * y ≤ 4294967295 * 4294967295 := Nat.mul_le_mul (by omega) (by omega)
  have h2 : 4294967295 * 4294967295 = 18446744065119617025 := rfl
  omega
/-- a word more of a quotient by a word, from the top -/
theorem num_dropw (xs : List Nat) (k : Nat) (h : k < xs.length) : num (xs.drop k) = xs.getD k 0 + 4294967296 * num (xs.drop (k + 1)) := by
  rw [List.drop_eq_getElem_cons h, num, List.getD_eq_getElem?_getD, List.getElem?_eq_getElem h]; rfl
theorem short_round {q r x y Q X : Nat} (h : X = Q * y + r) : (x + 4294967296 * X) = ((r * 4294967296 + x) / y + 4294967296 * Q) * y + (r * 4294967296 + x) % y ∧ q = q := by
  refine ⟨?_, rfl⟩
  have e := Nat.div_add_mod (r * 4294967296 + x) y
  rw [h, Nat.add_mul, Nat.mul_add]
  have e2 : 4294967296 * (Q * y) = 4294967296 * Q * y := by rw [Nat.mul_assoc]
  rw [Nat.mul_comm y] at e
  omega
/-- the order of rows without noughts at the end -/
theorem num_lt_of_len {a b : List Nat} (ha : Ws a) (tb : Tr b) (h : a.length < b.length) : num a < num b := by
  rcases tb with rfl | ⟨l, c, rfl, hc⟩
  · simp at h
  · have h1 := num_ws ha
    rw [num_snoc]
    rw [List.length_append, List.length_singleton] at h
    have h2 : 4294967296 ^ a.length ≤ 4294967296 ^ l.length := Nat.pow_le_pow_right (by decide) (by omega)
    have h3 : 4294967296 ^ l.length * 1 ≤ 4294967296 ^ l.length * c := Nat.mul_le_mul_left _ (by omega)
    omega
theorem num_drop_lt {a b : List Nat} (ha : Ws a) {k : Nat} (hl : a.length = b.length) (hk : k < a.length) (he : a.drop (k + 1) = b.drop (k + 1)) (h : a.getD k 0 < b.getD k 0) : num a < num b := by
  have key : ∀ xs : List Nat, k ≤ xs.length → num xs = num (xs.take k) + 4294967296 ^ k * num (xs.drop k) := by
    intro xs hx
    have := num_append (xs.take k) (xs.drop k)
    rw [List.take_append_drop, List.length_take, Nat.min_eq_left hx] at this
    exact this
  rw [key a (by omega), key b (by omega), num_dropw a k hk, num_dropw b k (by omega), he]
  have h1 := num_ws (ha.take k)
  rw [List.length_take, Nat.min_eq_left (by omega)] at h1
  have h2 : 4294967296 ^ k * (a.getD k 0 + 1) ≤ 4294967296 ^ k * b.getD k 0 := Nat.mul_le_mul_left _ h
  rw [Nat.mul_add, Nat.mul_one] at h2
  rw [Nat.mul_add, Nat.mul_add]
  omega
end Go.Proofs.YtlodbibagmblkaaGreatDoor.Pl
namespace Go.Proofs.YtlodbibagmblkaaGreatDoor
open Go.RowKit Go.Lib
/-- a row of words in a block of its own -/
def Wrow (w : World) (g : Nat) (zs : List Nat) : Prop := w.heap[g]? = some (.cells (wcells zs) 103 (0, 0))
theorem Wrow.cell {w : World} {g : Nat} {zs : List Nat} (h : Wrow w g zs) {k : Nat} (hk : k < zs.length) : w.cell? ⟨g, k, none⟩ = some (.int .u32 (zs.getD k 0 : Nat)) := by
  unfold World.cell?
  rw [show w.heap[g]? = _ from h]
  simp [wcells, List.getD_eq_getElem?_getD, List.getElem?_eq_getElem hk]
theorem Wrow.free {w : World} {g : Nat} {zs : List Nat} (h : Wrow w g zs) (k : Nat) : w.frozen? ⟨g, k, none⟩ = false := by
  unfold World.frozen?
  rw [show w.heap[g]? = _ from h]
  simp
theorem Wrow.lt {w : World} {g : Nat} {zs : List Nat} (h : Wrow w g zs) : g < w.heap.size := (Array.getElem?_eq_some_iff.1 h).1
theorem Wrow.set {w : World} {g : Nat} {zs : List Nat} (h : Wrow w g zs) (k v : Nat) : Wrow (w.setCell ⟨g, k, none⟩ (.int .u32 (v : Nat))) g (zs.set k v) := by
  unfold Wrow
  simp only [World.setCell, Array.getElem?_modify, if_pos, show w.heap[g]? = some (.cells (wcells zs) 103 (0, 0)) from h]
  have e : (wcells zs).setIfInBounds k (.int .u32 (v : Nat)) = wcells (zs.set k v) := by
    unfold wcells
    apply Array.toList_inj.1
    rw [Array.toList_setIfInBounds]
    simp [List.map_set]
  rw [← e]
  rfl
theorem Wrow.other {w : World} {g b k : Nat} {zs : List Nat} {v : Value} (h : Wrow w g zs) (hne : b ≠ g) : Wrow (w.setCell ⟨b, k, none⟩ v) g zs := by
  unfold Wrow
  simp only [World.setCell, Array.getElem?_modify, if_neg hne]
  exact h
theorem Wrow.rd {w : World} {g cap : Nat} {zs : List Nat} (h : Wrow w g zs) (hc : zs.length ≤ cap) : Rd w (.slice (some ⟨g, 0, none⟩) zs.length cap) zs :=
  .inr ⟨g, cap, rfl, hc, h.lt, fun j x hx => by
    obtain ⟨hj, e⟩ := List.getElem?_eq_some_iff.1 hx
    rw [h.cell hj, List.getD_eq_getElem?_getD, hx]; rfl⟩
theorem Rd.len {w : World} {v : Value} {xs : List Nat} (h : Rd w v xs) : ∃ a c, v = .slice a xs.length c := by
  rcases h with ⟨h1, h2⟩ | ⟨b, cap, h1, _⟩
  · exact ⟨none, 0, by rw [h1, h2]; rfl⟩
  · exact ⟨_, _, h1⟩
theorem Rd.at {w : World} {a : Option Addr} {n c : Nat} {xs : List Nat} (h : Rd w (.slice a n c) xs) {k : Nat} (hk : k < xs.length) : ∃ b, a = some ⟨b, 0, none⟩ ∧ b < w.heap.size ∧ w.cell? ⟨b, k, none⟩ = some (.int .u32 (xs.getD k 0 : Nat)) := by
  rcases h with ⟨h1, h2⟩ | ⟨b, cap, h1, h2, h3, h4⟩
  · rw [h2] at hk; simp at hk
  · injection h1 with e1 _ _
    refine ⟨b, e1, h3, ?_⟩
    have := h4 k _ (List.getElem?_eq_getElem hk)
    rw [this, List.getD_eq_getElem?_getD, List.getElem?_eq_getElem hk]; rfl
end Go.Proofs.YtlodbibagmblkaaGreatDoor
namespace Go.Proofs.YtlodbibagmblkaaGreatDoor.Pl
theorem shr31_and (a b : Nat) : (a &&& b) / 2147483648 = (a / 2147483648) &&& (b / 2147483648) := by
  have := Nat.shiftRight_and_distrib (a := a) (b := b) (i := 31)
  simpa [Nat.shiftRight_eq_div_pow] using this
theorem shr31_or (a b : Nat) : (a ||| b) / 2147483648 = (a / 2147483648) ||| (b / 2147483648) := by
  have := Nat.shiftRight_or_distrib (a := a) (b := b) (i := 31)
  simpa [Nat.shiftRight_eq_div_pow] using this
theorem shr31_xor (a b : Nat) : (a ^^^ b) / 2147483648 = (a / 2147483648) ^^^ (b / 2147483648) := by
  have := Nat.shiftRight_xor_distrib (a := a) (b := b) (i := 31)
  simpa [Nat.shiftRight_eq_div_pow] using this
theorem sub_borrow {x y b d : Nat} (hx : x < 4294967296) (hy : y < 4294967296) (hb : b ≤ 1) (hd : d = (x + 8589934592 - y - b) % 4294967296) :
    (((4294967295 - x) &&& y) ||| ((4294967295 - (x ^^^ y)) &&& d)) / 2147483648 = if x < y + b then 1 else 0 := by
  have hxy : x ^^^ y < 4294967296 := Nat.xor_lt_two_pow (n := 32) hx hy
  have h31 := shr31_xor x y
  rw [shr31_or, shr31_and, shr31_and]
  have e1 : (4294967295 - x) / 2147483648 = 1 - x / 2147483648 := by omega
  have e2 : (4294967295 - (x ^^^ y)) / 2147483648 = 1 - (x / 2147483648 ^^^ y / 2147483648) := by rw [← h31]; omega
  rw [e1, e2]
  have hX : x / 2147483648 = 0 ∨ x / 2147483648 = 1 := by omega
  have hY : y / 2147483648 = 0 ∨ y / 2147483648 = 1 := by omega
  have hD : d / 2147483648 = 0 ∨ d / 2147483648 = 1 := by omega
  rcases hX with X | X <;> rcases hY with Y | Y <;> rcases hD with D | D <;> rw [X, Y, D] <;> simp <;> omega
theorem sub_word {x y b d : Nat} (hx : x < 4294967296) (hy : y < 4294967296) (hb : b ≤ 1) (hd : d = (x + 8589934592 - y - b) % 4294967296) :
    x + 4294967296 * (if x < y + b then 1 else 0) = d + y + b := by
  split <;> omega
end Go.Proofs.YtlodbibagmblkaaGreatDoor.Pl
