/- The contracts of Check and told. A large number as words: the contract of of. Words shifted to the left: the contract of left. Words shifted to the left: the contract of left. A large number shifted to the left: the contract of Shift. The digits of a large number, plainly: one row for each number. The power of two of a float's first bit: the contract of Exponent. -/
import Derived.Test.YtpilniljhmkedaaGreatDoorRaaj
import Derived.Test.YtpilniljhmkedaaGreatDoorRaai
import Derived.RegionTactic
import Derived.ChangeAlike
import Derived.Deep.RegionHeld3
import Derived.Test.YtpilniljhmkedaaGreatDoorRaah
import Derived.Test.YtpilniljhmkedaaGreatDoorRaaf
namespace Go.Proofs.YtpilniljhmkedaaGreatDoor
open Go.RowKit Go.Lib
def Pl.chk (neg : Bool) (l : List UInt8) : Int :=
  if 4096 < l.length then 92 else if l.length = 0 then (if neg then 1 else 0) else if l[l.length - 1]? = some 0 then 1 else 0
set_option maxHeartbeats 1000000 in
theorem check_any (neg : Bool) (l : List UInt8) (w : World) (hl : l.length ≤ 100000000) :
    Calls Tryz.prog 61 #[lv neg l] w fun e w' => e = .returned (.int .i64 (Pl.chk neg l)) ∧ Below w.heap.size w w' := by
  unfold lv
  have hsz : (bs l).size = l.length := rfl
  obtain ⟨r, hr⟩ : ∃ r, Pl.chk neg l = r := ⟨_, rfl⟩
  rw [hr]
  have hlast : ∀ (h : l.length - 1 < (bs l).size), l[l.length - 1]? = some ((bs l)[l.length - 1]'h) := by
    intro h; rw [bs_size] at h
    rw [List.getElem?_eq_getElem h]; rfl
  have HLa := Lib.hid hlast
  clear hlast
  obtain ⟨n, hn⟩ : ∃ n, l.length = n := ⟨_, rfl⟩
  unfold Pl.chk at hr
  rw [hn] at hsz hl hr HLa
  have HR := Lib.hid hr
  clear hr hn
  generalize bs l = s at *
  by_cases c1 : 4096 < n
  · have HQ := Lib.hid (show r = 92 by rw [← HR.out, if_pos c1])
    go_enter Tryz.func61, Tryz.ntmps61
    go_wp2_with fail
    go_ret
    exact ⟨ret_int (by rw [HQ.out]), (Below.refl _ _).alloc (Nat.le_refl _) _⟩
  by_cases c2 : n = 0
  · have b2 : ((n : Int) == 0) = true := by rw [beq_iff_eq]; omega
    have HQ := Lib.hid (show r = if neg then 1 else 0 by rw [← HR.out, if_neg c1, if_pos c2])
    clear c2 HLa
    cases neg
    · go_enter Tryz.func61, Tryz.ntmps61
      go_wp2_with fail
      go_ret
      exact ⟨ret_int (by rw [HQ.out]; rfl), (Below.refl _ _).alloc (Nat.le_refl _) _⟩
    · go_enter Tryz.func61, Tryz.ntmps61
      go_wp2_with fail
      go_ret
      exact ⟨ret_int (by rw [HQ.out]; rfl), (Below.refl _ _).alloc (Nat.le_refl _) _⟩
  · have b2 : ((n : Int) == 0) = false := by rw [beq_eq_false_iff_ne]; omega
    have q : n - 1 < s.size := by omega
    have hlq := HLa.out q
    obtain ⟨c, hc⟩ : ∃ c, s[n - 1]'q = c := ⟨_, rfl⟩
    rw [hc] at hlq
    have hn1 : 1 ≤ n := by omega
    by_cases c3 : c = 0
    · have b3 : ((c.toNat : Int) == 0) = true := by rw [c3]; rfl
      have HQ := Lib.hid (show r = 1 by rw [← HR.out, if_neg c1, if_neg c2, if_pos (by rw [hlq, c3])])
      clear c3 hlq HLa HR
      go_enter Tryz.func61, Tryz.ntmps61
      go_wp2_with fail
      go_ret
      exact ⟨ret_int (by rw [HQ.out]), (Below.refl _ _).alloc (Nat.le_refl _) _⟩
    · have b3 : ((c.toNat : Int) == 0) = false := by
        rw [beq_eq_false_iff_ne]; intro h; apply c3; apply UInt8.toNat_inj.1; rw [show (0 : UInt8).toNat = 0 from rfl]; omega
      have HQ := Lib.hid (show r = 0 by rw [← HR.out, if_neg c1, if_neg c2, if_neg (by rw [hlq]; intro e; injection e with e; exact c3 e)])
      clear c3 hlq HLa HR
      go_enter Tryz.func61, Tryz.ntmps61
      go_wp2_with fail
      go_ret
      exact ⟨ret_int (by rw [HQ.out]), (Below.refl _ _).alloc (Nat.le_refl _) _⟩
def ToldOk (w : World) (neg : Bool) (xs : List Nat) (e : Ending) (w' : World) : Prop :=
  e = .returned (.tuple #[lv (neg && !(Pl.bytesOf xs).isEmpty) (Pl.bytesOf xs), .int .i64 0]) ∧ Below w.heap.size w w'
set_option maxHeartbeats 1000000 in
theorem ltold_any (v : Value) (xs : List Nat) (neg : Bool) (w : World) (h : Rd w v xs) (hl : xs.length ≤ 10000) (hx : ∀ x ∈ xs, x < 4294967296) (hs : (Pl.bytesOf xs).length ≤ 4096) :
    Calls Tryz.prog 63 #[.agg #[v, .bool neg]] w (ToldOk w neg xs) := by
  have HL := Lib.hid (fun (W : World) (hB : Below w.heap.size w W) => large_any v xs neg W (h.below hB) hl hx)
  obtain ⟨g, hg⟩ : ∃ g, (neg && !(Pl.bytesOf xs).isEmpty) = g := ⟨_, rfl⟩
  obtain ⟨L, hL⟩ : ∃ L, Pl.bytesOf xs = L := ⟨_, rfl⟩
  have HV := Lib.hid (show ToldOk w neg xs = fun e w' => e = .returned (.tuple #[.agg #[.bool g, .string (bs L)], .int .i64 0]) ∧ Below w.heap.size w w' by unfold ToldOk lv; rw [hg, hL])
  have HV2 := Lib.hid (show ∀ W, LargeOk W neg xs = fun e w' => e = .returned (.agg #[.bool g, .string (bs L)]) ∧ Below W.heap.size W w' from fun W => by unfold LargeOk lv; rw [hg, hL])
  rw [hL] at hs
  have hsz : (bs L).size = L.length := rfl
  generalize bs L = S at *
  obtain ⟨n, hn⟩ : ∃ n, L.length = n := ⟨_, rfl⟩
  rw [hn] at hsz hs
  clear hg hL hn hx
  obtain ⟨va, vl, vc, rfl⟩ : ∃ a l c, v = .slice a l c := by
    rcases h with ⟨h1, _⟩ | ⟨b, cap, h1, _⟩
    · exact ⟨_, _, _, h1⟩
    · exact ⟨_, _, _, h1⟩
  clear h
  rw [HV.out]
  go_enter Tryz.func63, Tryz.ntmps63
  go_wp2_with fail
  have h := HL.out ((w.alloc (.cells #[.slice va vl vc, .bool neg] 85)).alloc (.cells #[.bool false, .string ⟨#[]⟩] 34)) (((Below.refl _ _).alloc (Nat.le_refl _) _).alloc (by simp) _)
  rw [HV2.out] at h
  refine h.mono ?_
  rintro e w2 ⟨rfl, hB⟩
  obtain ⟨B, hBd⟩ : ∃ B, w.heap.size + 1 = B := ⟨_, rfl⟩
  have hB1 : Below (B + 1) ((w.alloc (.cells #[.slice va vl vc, .bool neg] 85)).alloc (.cells #[.bool false, .string ⟨#[]⟩] 34)) w2 := hB.mono (by simp; omega)
  have hR : w2.heap[B]? = some (.cells #[.bool false, .string ⟨#[]⟩] 34) := by
    rw [hB1.block _ (by omega), ← hBd, show w.heap.size + 1 = (w.alloc (.cells #[.slice va vl vc, .bool neg] 85)).heap.size by simp]; exact heap_alloc_at _ _
  have HBW := Lib.hid (show Below w.heap.size w w2 from (((Below.refl _ _).alloc (Nat.le_refl _) _).alloc (by simp) _).trans (hB.mono (by simp; omega)))
  have hz2 : B + 1 ≤ w2.heap.size := by have := hB.size; simp at this; omega
  have HR := Lib.hid hR
  rw [hBd]
  clear hB hB1 hR h HL
  have HR3 := Lib.hid (show (w2.alloc (.cells #[.bool g, .string S] 34)).heap[B]? = some (.cells #[.bool false, .string ⟨#[]⟩] 34) by rw [Below.heap_alloc _ _ _ (by omega)]; exact HR.out)
  have r0 : (w2.alloc (.cells #[.bool g, .string S] 34)).cell? ⟨B, 0, none⟩ = some (.bool false) := by simp [World.cell?, HR3.out]
  have r1 : (w2.alloc (.cells #[.bool g, .string S] 34)).cell? ⟨B, 1, none⟩ = some (.string ⟨#[]⟩) := by simp [World.cell?, HR3.out]
  have f0 : (w2.alloc (.cells #[.bool g, .string S] 34)).frozen? ⟨B, 0, none⟩ = false := by simp [World.frozen?, HR3.out]
  have f1 : (w2.alloc (.cells #[.bool g, .string S] 34)).frozen? ⟨B, 1, none⟩ = false := by simp [World.frozen?, HR3.out]
  have HBd := Lib.hid hBd
  clear hBd
  go_wp2_with fail
  obtain ⟨k0, k1, kB⟩ := two_set (w2.alloc (.cells #[.bool g, .string S] 34)) B (.bool g) (.string S) r0 r1
  have kB' := (HBW.out.alloc (by have := HBd.out; omega) _).trans (kB.mono (by have := HBd.out; omega))
  refine bodyPost_ret (v := .tuple #[.agg #[.bool g, .string S], .int .i64 0]) (by simp [results, Tryz.results63, go_sem, k0, k1]) rfl ⟨rfl, kB'⟩
end Go.Proofs.YtpilniljhmkedaaGreatDoor
namespace Go.Proofs.YtpilniljhmkedaaGreatDoor
open Go.RowKit Go.Lib
namespace Pl
def le : List UInt8 → Nat
  | [] => 0
  | c :: l => c.toNat + 256 * le l
theorem le_snoc : ∀ (l : List UInt8) (c : UInt8), le (l ++ [c]) = le l + 256 ^ l.length * c.toNat
  | [], c => by simp [le]
  | a :: l, c => by rw [List.cons_append, le, le_snoc l c, le, List.length_cons, Nat.pow_succ, Nat.mul_add, ← Nat.mul_assoc, Nat.mul_comm 256 (256 ^ l.length)]; omega
theorem le_lt : ∀ l : List UInt8, le l < 256 ^ l.length
  | [] => by simp [le]
  | a :: l => by rw [le, List.length_cons, Nat.pow_succ]; have := le_lt l; have := a.toNat_lt; omega
/-- The word at a place. -/
def word (l : List UInt8) (j : Nat) : Nat := le ((l.drop (4 * j)).take 4)
def words (n : Nat) (l : List UInt8) : List Nat := (List.range n).map (word l)
theorem words_len (n : Nat) (l : List UInt8) : (words n l).length = n := by simp [words]
theorem word_lt (l : List UInt8) (j : Nat) : word l j < 4294967296 := by
  have h := le_lt ((l.drop (4 * j)).take 4)
  have hl : ((l.drop (4 * j)).take 4).length ≤ 4 := List.length_take_le _ _
  have : 256 ^ ((l.drop (4 * j)).take 4).length ≤ 256 ^ 4 := Nat.pow_le_pow_right (by decide) hl
  unfold word
  exact Nat.lt_of_lt_of_le h (Nat.le_trans this (by decide))
theorem word_step {l : List UInt8} {i : Nat} (h : i < l.length) (j : Nat) : word (l.take (i + 1)) j = if j = i / 4 then word (l.take i) j + 256 ^ (i % 4) * l[i].toNat else word (l.take i) j := by
  unfold word
  rw [List.take_succ_eq_append_getElem h]
  by_cases hj : j = i / 4
  · subst hj
    rw [if_pos rfl, List.drop_append_of_le_length (by simp; omega)]
    have hl : ((l.take i).drop (4 * (i / 4))).length = i % 4 := by simp; omega
    generalize (l.take i).drop (4 * (i / 4)) = X at hl ⊢
    rw [List.take_of_length_le (show (X ++ [l[i]]).length ≤ 4 by simp; omega), List.take_of_length_le (show X.length ≤ 4 by omega), le_snoc, hl]
  · rw [if_neg hj]
    rcases Nat.lt_or_gt_of_ne hj with hj | hj
    · rw [List.drop_append_of_le_length (by simp; omega), List.take_append_of_le_length (by simp; omega)]
    · rw [List.drop_eq_nil_of_le (by simp; omega), List.drop_eq_nil_of_le (by simp; omega)]
theorem word_small {l : List UInt8} {i : Nat} (h : i ≤ l.length) : word (l.take i) (i / 4) < 256 ^ (i % 4) := by
  have := le_lt ((((l.take i).drop (4 * (i / 4)))).take 4)
  have hl : ((((l.take i).drop (4 * (i / 4)))).take 4).length = i % 4 := by simp; omega
  rw [hl] at this
  exact this
end Pl
theorem bits_or32 {a b : Nat} (k : Nat) (ha : a < 2 ^ k) (hb : b < 256) (hk : k ≤ 24) : bits .or .u32 (a : Int) (IntKind.u32.wrap ((b : Int) * 2 ^ k)) = ((a + 2 ^ k * b : Nat) : Int) := by
  have hp : 2 ^ k ≤ 2 ^ 24 := Nat.pow_le_pow_right (by decide) hk
  have hpb : 2 ^ k * b < 4294967296 := by
    have : 2 ^ k * b ≤ 2 ^ 24 * 255 := Nat.mul_le_mul hp (by omega)
    exact Nat.lt_of_le_of_lt this (by decide)
  have hw : ∀ n : Nat, n < 4294967296 → IntKind.u32.wrap (n : Int) = n := fun n hn => by rw [IntKind.wrap_u32]; omega
  have e1 : (b : Int) * 2 ^ k = ((2 ^ k * b : Nat) : Int) := by rw [Nat.mul_comm]; simp
  rw [e1, hw _ hpb]
  have h32 : (2 : Nat) ^ IntKind.u32.bits = 4294967296 := rfl
  simp only [bits, BitVec.ofInt_natCast, BitVec.toNat_or, BitVec.toNat_ofNat, h32]
  have hor : a ||| 2 ^ k * b = a + 2 ^ k * b := by
    have := Nat.two_pow_add_eq_or_of_lt (i := k) (b := a) ha b
    rw [Nat.or_comm, ← this, Nat.add_comm]
  have hlt : a + 2 ^ k * b < 4294967296 := by
    have : 2 ^ k * b + 2 ^ k ≤ 2 ^ 24 * 256 := by rw [← Nat.mul_succ]; exact Nat.mul_le_mul hp (by omega)
    have h3 : (2 : Nat) ^ 24 * 256 = 4294967296 := by decide
    omega
  rw [Nat.mod_eq_of_lt (by omega), Nat.mod_eq_of_lt hpb, hor, hw _ hlt]
theorem at_bs (l : List UInt8) : At (bs l) 0 l := fun k h h2 => by simp only [Nat.zero_add]; rfl
theorem info74 : (Tryz.prog.info? 68).map (fun i => (i.zero, i.size, i.bytes)) = some (some (.int .u32 0), 1, 4) := by kernel_rfl
def wcells (xs : List Nat) : Array Value := (xs.map fun x => Value.int .u32 (x : Nat)).toArray
theorem row_full {w : World} {base g n : Nat} {e : TypeId} {xs : List Value} (h : w.ownsRow base e 1 (.slice (some ⟨g, 0, none⟩) n n) n xs) : w.heap[g]? = some (.cells xs.toArray e (0, 0)) := by
  rcases h.2 with ⟨h1, _⟩ | ⟨g', cap, cur, h1, _, h3, _, _, h6, h7⟩
  · cases h1
  · injection h1 with e1 e2 e3
    injection e1 with e1
    injection e1 with e1
    subst e1
    rw [h3]
    have hc : cur = xs.toArray := by
      rw [Nat.mul_one, List.take_of_length_le (by rw [Array.length_toList, h6, ← e3]; omega)] at h7
      rw [← h7]
    rw [hc]
theorem made_words (n : Nat) : (madeCells #[Value.int .u32 0] n).toList.toArray = wcells (Pl.words n []) := by
  have h : Pl.words n [] = List.replicate n 0 := by
    apply List.ext_getElem
    · simp [Pl.words]
    · intro i h1 h2; simp [Pl.words, Pl.word, Pl.le]
  rw [h]
  unfold wcells
  congr 1
  apply List.ext_getElem
  · simp [madeCells]
  · intro i h1 h2; simp [madeCells, Nat.mod_one]
def OfOk (w : World) (neg : Bool) (l : List UInt8) (e : Ending) (w' : World) : Prop :=
  ∃ v, e = .returned (.agg #[v, .bool neg]) ∧ Rd w' v (Pl.words ((l.length + 3) / 4) l) ∧ Below w.heap.size w w'
set_option maxHeartbeats 2000000 in
theorem lof_any (neg : Bool) (l : List UInt8) (w : World) (hl : l.length ≤ 4096) :
    Calls Tryz.prog 62 #[lv neg l] w (OfOk w neg l) := by
  unfold lv
  obtain ⟨i0, hi, hz0, hz1, hz2⟩ := info_parts info74
  have hsz : (bs l).size = l.length := rfl
  have HAT := Lib.hid (at_bs l)
  obtain ⟨N, hN⟩ : ∃ N, l.length = N := ⟨_, rfl⟩
  rw [hN] at hsz hl
  have HN := Lib.hid hN
  clear hN
  generalize bs l = s at *
  obtain ⟨n, hn⟩ : ∃ n, (N + 3) / 4 = n := ⟨_, rfl⟩
  have hn1 : ((N : Int) + 3) / 4 = (n : Int) := by omega
  have hn2 : n ≤ 1024 := by omega
  have hn3 : N ≤ 4 * n := by omega
  have HNN := Lib.hid hn
  clear hn
  go_enter Tryz.func62, Tryz.ntmps62
  go_wp2_with (at_make; refine wpList_make_full _ rfl _ _ 70 rfl (w.heap.size + 2) 68 i0 (.int .u32 0) 1 Tryz.underlying70 hi hz0 hz1 .i64 .i64 _ _ n rfl rfl ?c9 ?c0 ?c1 ?c2 ?c3 ?_)
  case c9 => exact hn1
  case c0 => exact hn1
  case c1 => rw [hz2]; omega
  case c2 => unfold maxLen; omega
  case c3 => simp
  intro w1 ho1 hg1
  obtain ⟨W0, hW0⟩ : ∃ W0, (w.alloc (.cells #[.bool neg, .string s] 34)).alloc (.cells #[.slice none 0 0, .bool false] 85) = W0 := ⟨_, rfl⟩
  have hW1 : W0.heap.size = w.heap.size + 2 := by rw [← hW0]; simp
  have hW2 : W0.heap[w.heap.size]? = some (.cells #[.bool neg, .string s] 34) := by rw [← hW0, Below.heap_alloc _ _ _ (by simp)]; exact heap_alloc_at _ _
  have hW4 : W0.heap[w.heap.size + 1]? = some (.cells #[.slice none 0 0, .bool false] 85) := by
    rw [← hW0, show w.heap.size + 1 = (w.alloc (.cells #[.bool neg, .string s] 34)).heap.size by simp]; exact heap_alloc_at _ _
  have hW3 : Below w.heap.size w W0 := by rw [← hW0]; exact ((Below.refl _ _).alloc (Nat.le_refl _) _).alloc (by simp) _
  rw [hW0] at hg1
  obtain ⟨g, hgd⟩ : ∃ g, w.heap.size + 2 = g := ⟨_, rfl⟩
  rw [hgd] at ho1 hW1 ⊢
  have hrow : w1.heap[g]? = some (.cells (wcells (Pl.words n (l.take 0))) 68) := by
    have := row_full ho1
    rw [made_words] at this
    exact this
  have HB1 := Lib.hid (show Below g W0 w1 from (Below.refl _ _).grown hg1 (by omega) (fun k hk => by cases hk))
  have HW2 := Lib.hid hW2
  have HW3 := Lib.hid hW3
  have HW4 := Lib.hid hW4
  have HROW := Lib.hid hrow
  have hg0 : w.heap.size + 2 ≤ g := by omega
  have HGD := Lib.hid hgd
  clear ho1 hg1 hW2 hW3 hW4 hW1 hW0 hi hz0 hz1 hz2 hrow hgd
  have c1 : w1.cell? ⟨w.heap.size, 1, none⟩ = some (.string s) := by
    rw [HB1.out.cell (p := ⟨w.heap.size, 1, none⟩) (by show w.heap.size < g; omega)]; simp [World.cell?, HW2.out]
  go_wp2_with fail
  go_loopw [14] (fun i wr => ∃ k : Nat, k ≤ N ∧ i = .int .i64 k ∧ wr.heap[g]? = some (.cells (wcells (Pl.words n (l.take k))) 68) ∧ Below g W0 wr ∧ g < wr.heap.size) (fun i _ => N - (RowKit.intOf i).toNat)
  case atStart => exact ⟨0, Nat.zero_le _, rfl, HROW.out, HB1.out, (Array.getElem?_eq_some_iff.1 HROW.out).1⟩
  case round =>
    obtain ⟨k, hk, rfl, hrow, hb, hsz2⟩ := hrel
    have HROW := Lib.hid hrow
    have HB := Lib.hid hb
    have c1 : wr.cell? ⟨w.heap.size, 1, none⟩ = some (.string s) := by
      rw [hb.cell (p := ⟨w.heap.size, 1, none⟩) (by show w.heap.size < g; omega)]; simp [World.cell?, HW2.out]
    clear hrow hb
    by_cases hlt : k < N
    · have hkl : k < l.length := by rw [HN.out]; exact hlt
      have q : k < s.size := by omega
      have ak : s[k]'q = l[k] := HAT.out.get hkl q (by omega)
      obtain ⟨c, hc⟩ : ∃ c, l[k] = c := ⟨_, rfl⟩
      rw [hc] at ak
      obtain ⟨x, hx⟩ : ∃ x, Pl.word (l.take k) (k / 4) = x := ⟨_, rfl⟩
      have hk4 : k / 4 < n := by omega
      have cx : wr.cell? ⟨g, k / 4, none⟩ = some (.int .u32 (x : Nat)) := by
        simp [World.cell?, HROW.out, wcells, Pl.words, hk4, hx]
      have fx : wr.frozen? ⟨g, k / 4, none⟩ = false := by simp [World.frozen?, HROW.out]
      have hxs := Pl.word_small (l := l) (i := k) (by omega)
      rw [hx] at hxs
      have hcb := c.toNat_lt
      obtain ⟨x', hx'⟩ : ∃ x', x + 2 ^ (8 * (k % 4)) * c.toNat = x' := ⟨_, rfl⟩
      have HOR := Lib.hid (show bits .or .u32 (x : Int) ((c.toNat : Int) * 2 ^ (8 * (k % 4)) % 4294967296) = ((x' : Nat) : Int) by
        have := bits_or32 (a := x) (b := c.toNat) (8 * (k % 4)) (by rw [Nat.pow_mul]; exact hxs) (by omega) (by omega)
        rw [IntKind.wrap_u32] at this
        rw [this, hx'])
      have HNEW := Lib.hid (show wcells (Pl.words n (l.take (k + 1))) = (wcells (Pl.words n (l.take k))).setIfInBounds (k / 4) (.int .u32 (x' : Nat)) by
        unfold wcells
        apply Array.toList_inj.1
        apply List.ext_getElem
        · simp [Pl.words]
        · intro i h1 h2
          simp only [Array.toList_setIfInBounds, List.getElem_set, List.getElem_map, Pl.words, List.getElem_range]
          rw [Pl.word_step hkl]
          by_cases e : k / 4 = i
          · subst e
            rw [if_pos rfl, if_pos rfl, hx, hc, ← hx', Nat.pow_mul]
          · rw [if_neg (fun h => e h.symm), if_neg e])
      clear hx' hx hc hxs
      go_wp2_with fail
      go_region
      rw [HOR.out]
      have hrow2 : (wr.setCell ⟨g, k / 4, none⟩ (.int .u32 (x' : Nat))).drew.heap[g]? = some (.cells (wcells (Pl.words n (l.take (k + 1)))) 68) := by
        rw [HNEW.out]
        show (wr.setCell ⟨g, k / 4, none⟩ (.int .u32 (x' : Nat))).heap[g]? = _
        simp only [World.setCell, Array.getElem?_modify, if_pos, HROW.out]
        rfl
      have HROW2 := Lib.hid hrow2
      have HB2 := Lib.hid (show Below g W0 (wr.setCell ⟨g, k / 4, none⟩ (.int .u32 (x' : Nat))).drew from (HB.out.setCell (p := ⟨g, k / 4, none⟩) (Nat.le_refl g) _).drew)
      have hz2 : g < (wr.setCell ⟨g, k / 4, none⟩ (.int .u32 (x' : Nat))).drew.heap.size := by rw [show (wr.setCell ⟨g, k / 4, none⟩ (.int .u32 (x' : Nat))).drew.heap.size = wr.heap.size by simp [World.setCell]]; exact hsz2
      clear hrow2
      generalize (wr.setCell ⟨g, k / 4, none⟩ (.int .u32 (x' : Nat))).drew = w2 at HROW2 HB2 hz2 ⊢
      go_wp2_with fail
      go_roundw
      case rel => exact ⟨k + 1, by omega, by go_num, HROW2.out, HB2.out, hz2⟩
      case measure => simp [RowKit.intOf]; omega
    · obtain rfl : k = N := by omega
      have hR : wr.heap[w.heap.size + 1]? = some (.cells #[.slice none 0 0, .bool false] 85) := by rw [HB.out.block _ (by omega)]; exact HW4.out
      have hP : wr.heap[w.heap.size]? = some (.cells #[.bool neg, .string s] 34) := by rw [HB.out.block _ (by omega)]; exact HW2.out
      obtain ⟨B, hBd⟩ : ∃ B, w.heap.size + 1 = B := ⟨_, rfl⟩
      rw [hBd] at hR ⊢
      have c0 : wr.cell? ⟨w.heap.size, 0, none⟩ = some (.bool neg) := by simp [World.cell?, hP]
      have r0 : wr.cell? ⟨B, 0, none⟩ = some (.slice none 0 0) := by simp [World.cell?, hR]
      have r1 : wr.cell? ⟨B, 1, none⟩ = some (.bool false) := by simp [World.cell?, hR]
      have f0 : wr.frozen? ⟨B, 0, none⟩ = false := by simp [World.frozen?, hR]
      have f1 : wr.frozen? ⟨B, 1, none⟩ = false := by simp [World.frozen?, hR]
      have HBW := Lib.hid (show Below w.heap.size w wr from HW3.out.trans (HB.out.mono (by omega)))
      have HBd := Lib.hid hBd
      clear hR hP hlt hBd
      go_wp2_with fail
      obtain ⟨k0, k1, kB⟩ := two_set wr B (.slice (some ⟨g, 0, none⟩) n n) (.bool neg) r0 r1
      have kB' := HBW.out.trans (kB.mono (by have := HBd.out; omega))
      have hgB : B < g := by have := HBd.out; omega
      refine bodyPost_ret (v := .agg #[.slice (some ⟨g, 0, none⟩) n n, .bool neg]) (by simp [results, Tryz.results62, go_sem, k0, k1]) rfl ⟨_, rfl, ?_, kB'⟩
      rw [HN.out, HNN.out]
      refine .inr ⟨g, n, by rw [Pl.words_len], by rw [Pl.words_len]; exact Nat.le_refl _, by simp [World.setCell]; exact hsz2, fun j y hy => ?_⟩
      have n1 : (⟨B, 1, none⟩ : Addr) ≠ ⟨g, j, none⟩ := by intro e; injection e with e; omega
      have n0 : (⟨B, 0, none⟩ : Addr) ≠ ⟨g, j, none⟩ := by intro e; injection e with e; omega
      rw [World.cell?_setCell_other _ _ _ _ n1, World.cell?_setCell_other _ _ _ _ n0]
      have hrow := HROW.out
      rw [List.take_of_length_le (by rw [HN.out]; exact Nat.le_refl _)] at hrow
      simp only [World.cell?, hrow, wcells]
      simp [hy]
end Go.Proofs.YtpilniljhmkedaaGreatDoor
namespace Go.Proofs.YtpilniljhmkedaaGreatDoor
open Go.RowKit Go.Lib
namespace Pl
/-- A number as so many words. -/
def dn (n V : Nat) : List Nat := (List.range n).map fun j => V / 4294967296 ^ j % 4294967296
theorem dn_len (n V : Nat) : (dn n V).length = n := by simp [dn]
theorem dn_lt {n V x : Nat} (h : x ∈ dn n V) : x < 4294967296 := by
  obtain ⟨j, _, rfl⟩ := List.mem_map.1 h; exact Nat.mod_lt _ (by decide)
theorem map_div_succ (B V n : Nat) : ((List.range (n + 1)).map fun j => V / B ^ j % B) = V % B :: ((List.range n).map fun j => V / B / B ^ j % B) := by
  rw [List.range_succ_eq_map, List.map_cons, List.map_map, Nat.pow_zero, Nat.div_one, List.cons.injEq]
  refine ⟨rfl, ?_⟩
  apply List.map_congr_left
  intro j _
  simp only [Function.comp]
  rw [Nat.pow_succ, Nat.mul_comm, Nat.div_div_eq_div_mul]
theorem dn_succ (n V : Nat) : dn (n + 1) V = V % 4294967296 :: dn n (V / 4294967296) := map_div_succ 4294967296 V n
theorem num_dn (n : Nat) : ∀ V : Nat, V < 4294967296 ^ n → num (dn n V) = V := by
  induction n with
  | zero => intro V h; rw [Nat.pow_zero] at h; have : V = 0 := by omega
            subst this; rfl
  | succ n ih =>
    intro V h
    rw [dn_succ, num, ih (V / 4294967296) (by
      rw [Nat.pow_succ, Nat.mul_comm] at h
      exact Nat.div_lt_of_lt_mul h)]
    omega
theorem num_lt : ∀ (xs : List Nat), (∀ x ∈ xs, x < 4294967296) → num xs < 4294967296 ^ xs.length
  | [], _ => by simp [num]
  | x :: xs, h => by
    rw [num, List.length_cons, Nat.pow_succ]
    have h1 := num_lt xs (fun y hy => h y (by simp [hy]))
    have h2 := h x (by simp)
    omega
/-- One word more, at place m: how the words change. -/
theorem dn_step {V s m p : Nat} (hp : p < 32) (hV : V / 4294967296 ^ m < 2 ^ p) (hs : s < 18446744073709551616) (hd : s % 2 ^ p = 0) (j : Nat) :
    (V + s * 4294967296 ^ m) / 4294967296 ^ j % 4294967296 = if j = m then V / 4294967296 ^ m + s % 4294967296 else if j = m + 1 then s / 4294967296 else V / 4294967296 ^ j % 4294967296 := by
  have hB : ∀ k, 0 < 4294967296 ^ k := fun k => Nat.pow_pos (by decide)
  have hpp : 2 ^ p * 2 ^ (32 - p) = 4294967296 := by rw [← Nat.pow_add, show p + (32 - p) = 32 by omega]
  have hlow : V / 4294967296 ^ m + s % 4294967296 < 4294967296 := by
    obtain ⟨q, hq⟩ := Nat.dvd_of_mod_eq_zero hd
    have h1 : s % 4294967296 = 2 ^ p * (q % 2 ^ (32 - p)) := by rw [hq, ← hpp, Nat.mul_mod_mul_left]
    have h2 : q % 2 ^ (32 - p) < 2 ^ (32 - p) := Nat.mod_lt _ (Nat.pow_pos (by decide))
    have h3 : 2 ^ p * (q % 2 ^ (32 - p)) + 2 ^ p ≤ 2 ^ p * 2 ^ (32 - p) := by rw [← Nat.mul_succ]; exact Nat.mul_le_mul_left _ h2
    rw [h1]; omega
  have hmid : (V + s * 4294967296 ^ m) / 4294967296 ^ m = V / 4294967296 ^ m + s := Nat.add_mul_div_right _ _ (hB m)
  rcases Nat.lt_trichotomy j m with hj | hj | hj
  · rw [if_neg (by omega), if_neg (by omega)]
    have e : 4294967296 ^ m = 4294967296 ^ j * (4294967296 * 4294967296 ^ (m - j - 1)) := by
      rw [← Nat.mul_assoc, ← Nat.pow_succ, ← Nat.pow_add, show j.succ + (m - j - 1) = m by omega]
    rw [e, show s * (4294967296 ^ j * (4294967296 * 4294967296 ^ (m - j - 1))) = (4294967296 * (s * 4294967296 ^ (m - j - 1))) * 4294967296 ^ j by
      rw [Nat.mul_comm (4294967296 * (s * 4294967296 ^ (m - j - 1))), ← Nat.mul_assoc s, Nat.mul_comm s, Nat.mul_assoc, Nat.mul_left_comm s], Nat.add_mul_div_right _ _ (hB j), Nat.add_mul_mod_self_left]
  · subst hj
    rw [if_pos rfl, hmid]
    have : (V / 4294967296 ^ j + s) % 4294967296 = (V / 4294967296 ^ j + s % 4294967296) % 4294967296 := by rw [Nat.add_mod_mod]
    rw [this, Nat.mod_eq_of_lt hlow]
  · rw [if_neg (by omega)]
    have hdiv : (V + s * 4294967296 ^ m) / 4294967296 ^ (m + 1) = s / 4294967296 := by
      rw [Nat.pow_succ, ← Nat.div_div_eq_div_mul, hmid]
      have e : V / 4294967296 ^ m + s = (V / 4294967296 ^ m + s % 4294967296) + (s / 4294967296) * 4294967296 := by
        have := Nat.mod_add_div s 4294967296; omega
      rw [e, Nat.add_mul_div_right _ _ (by decide), Nat.div_eq_of_lt hlow, Nat.zero_add]
    by_cases hj2 : j = m + 1
    · subst hj2
      rw [if_pos rfl, hdiv, Nat.mod_eq_of_lt (by omega)]
    · rw [if_neg hj2]
      have e : 4294967296 ^ j = 4294967296 ^ (m + 1) * 4294967296 ^ (j - m - 1) := by rw [← Nat.pow_add, show m + 1 + (j - m - 1) = j by omega]
      have hbig : 4294967296 ≤ 4294967296 ^ (j - m - 1) := by
        have := Nat.pow_le_pow_right (n := 4294967296) (by decide) (show 1 ≤ j - m - 1 by omega)
        simpa using this
      rw [e, ← Nat.div_div_eq_div_mul, ← Nat.div_div_eq_div_mul, hdiv, Nat.pow_succ, ← Nat.div_div_eq_div_mul V]
      rw [Nat.div_eq_of_lt (Nat.lt_of_lt_of_le (show s / 4294967296 < 4294967296 by omega) hbig)]
      have hv0 : V / 4294967296 ^ m / 4294967296 = 0 := by
        apply Nat.div_eq_of_lt
        have : 2 ^ p ≤ 2 ^ 31 := Nat.pow_le_pow_right (by decide) (by omega)
        have h31 : (2 : Nat) ^ 31 = 2147483648 := by decide
        omega
      rw [hv0, Nat.zero_div]
end Pl
end Go.Proofs.YtpilniljhmkedaaGreatDoor
namespace Go.Proofs.YtpilniljhmkedaaGreatDoor
open Go.RowKit Go.Lib
theorem bits_or_s {a t p : Nat} (hp : p < 32) (ha : a < 2 ^ p) (ht : t < 4294967296) (hd : t % 2 ^ p = 0) : bits .or .u32 (a : Int) (t : Int) = ((a + t : Nat) : Int) := by
  obtain ⟨q, hq⟩ := Nat.dvd_of_mod_eq_zero hd
  have h32 : (2 : Nat) ^ IntKind.u32.bits = 4294967296 := rfl
  have hp2 : 2 ^ p ≤ 2 ^ 31 := Nat.pow_le_pow_right (by decide) (by omega)
  have h31 : (2 : Nat) ^ 31 = 2147483648 := by decide
  have hor : a ||| t = a + t := by
    have := Nat.two_pow_add_eq_or_of_lt (i := p) (b := a) ha q
    rw [hq, Nat.or_comm, ← this, Nat.add_comm]
  have hlt : a ||| t < 2 ^ 32 := Nat.or_lt_two_pow (by omega) (by omega)
  have hw : ∀ n : Nat, n < 4294967296 → IntKind.u32.wrap (n : Int) = n := fun n hn => by rw [IntKind.wrap_u32]; omega
  simp only [bits, BitVec.ofInt_natCast, BitVec.toNat_or, BitVec.toNat_ofNat, h32]
  have ha32 : a < 4294967296 := by omega
  rw [Nat.mod_eq_of_lt ha32, Nat.mod_eq_of_lt ht, hor, hw _ (by rw [← hor]; simpa using hlt)]
namespace Pl
theorem shift_facts {B V x k whole part : Nat} (hB : B = 4294967296) (hV : V < B ^ k) (hx : x < B) (hp : part < 32) :
    V * 2 ^ (32 * whole + part) / B ^ (whole + k) < 2 ^ part ∧ (V + B ^ k * x) * 2 ^ (32 * whole + part) = V * 2 ^ (32 * whole + part) + x * 2 ^ part * B ^ (whole + k) ∧ x * 2 ^ part < 18446744073709551616 ∧ x * 2 ^ part % 2 ^ part = 0 := by
  have e : 2 ^ (32 * whole + part) = B ^ whole * 2 ^ part := by
    rw [Nat.pow_add, Nat.pow_mul, hB]
  have hp2 : 2 ^ part ≤ 2 ^ 31 := Nat.pow_le_pow_right (by decide) (by omega)
  refine ⟨?_, ?_, ?_, Nat.mul_mod_left _ _⟩
  · rw [e, Nat.pow_add]
    apply Nat.div_lt_of_lt_mul
    have hb : 0 < B ^ whole * 2 ^ part := Nat.mul_pos (Nat.pow_pos (by omega)) (Nat.pow_pos (by decide))
    calc V * (B ^ whole * 2 ^ part) < B ^ k * (B ^ whole * 2 ^ part) := (Nat.mul_lt_mul_right hb).2 hV
      _ = B ^ whole * B ^ k * 2 ^ part := by rw [← Nat.mul_assoc, Nat.mul_comm (B ^ k)]
  · rw [e, Nat.add_mul, Nat.pow_add]
    congr 1
    generalize B ^ k = p
    generalize B ^ whole = q
    generalize 2 ^ part = r
    rw [Nat.mul_comm p x, Nat.mul_assoc, Nat.mul_assoc, Nat.mul_left_comm p q r, Nat.mul_left_comm r q p, Nat.mul_comm r p]
  · have : x * 2 ^ part ≤ 4294967295 * 2 ^ 31 := Nat.mul_le_mul (by omega) hp2
    exact Nat.lt_of_le_of_lt this (by decide)
theorem num_snoc (l : List Nat) (x : Nat) : num (l ++ [x]) = num l + 4294967296 ^ l.length * x := by rw [num_append]; simp [num]
end Pl
def LeftOk (w : World) (n V : Nat) (e : Ending) (w' : World) : Prop :=
  ∃ v, e = .returned v ∧ Rd w' v (Pl.trimW (Pl.dn n V)) ∧ Below w.heap.size w w'
set_option maxHeartbeats 2000000 in
theorem left_any (v : Value) (xs : List Nat) (sh : Nat) (w : World) (h : Rd w v xs) (hl : xs.length ≤ 2000) (hx : ∀ x ∈ xs, x < 4294967296) (hs : sh ≤ 40000) :
    Calls Tryz.prog 64 #[v, .int .u64 sh] w (LeftOk w (sh / 32 + xs.length + 1) (Pl.num xs * 2 ^ sh)) := by
  obtain ⟨i0, hi, hz0, hz1, hz2⟩ := info_parts info74
  have HRD := Lib.hid h
  have HX := Lib.hid hx
  obtain ⟨va, vc, rfl⟩ : ∃ a c, v = .slice a xs.length c := by
    rcases h with ⟨h1, h2⟩ | ⟨b, cap, h1, _⟩
    · exact ⟨none, 0, by rw [h1, h2]; rfl⟩
    · exact ⟨_, _, h1⟩
  clear h hx
  obtain ⟨N, hN⟩ : ∃ N, xs.length = N := ⟨_, rfl⟩
  rw [hN] at hl HRD ⊢
  have HN := Lib.hid hN
  clear hN
  obtain ⟨wh, hwh⟩ : ∃ wh, sh / 32 = wh := ⟨_, rfl⟩
  obtain ⟨pt, hpt⟩ : ∃ pt, sh % 32 = pt := ⟨_, rfl⟩
  have d1 : (sh : Int) / 32 = (wh : Int) := by omega
  have d2 : (sh : Int) % 32 = (pt : Int) := by omega
  have hpt2 : pt < 32 := by omega
  have hwh2 : wh ≤ 1250 := by omega
  have HSH := Lib.hid (show sh = 32 * wh + pt by omega)
  rw [hwh]
  clear hwh hpt
  obtain ⟨n, hn⟩ : ∃ n, wh + N + 1 = n := ⟨_, rfl⟩
  rw [hn]
  have HNN := Lib.hid hn
  have hn2 : n ≤ 4000 := by omega
  go_enter Tryz.func64, Tryz.ntmps64
  go_wp2_with (at_make; refine wpList_make_full _ rfl _ _ 70 rfl w.heap.size 68 i0 (.int .u32 0) 1 Tryz.underlying70 hi hz0 hz1 .i64 .i64 _ _ n rfl rfl ?c9 ?c0 ?c1 ?c2 ?c3 ?_)
  case c9 => omega
  case c0 => omega
  case c1 => rw [hz2]; omega
  case c2 => unfold maxLen; omega
  case c3 => simp
  intro w1 ho1 hg1
  obtain ⟨g, hgd⟩ : ∃ g, w.heap.size = g := ⟨_, rfl⟩
  rw [hgd] at ho1 ⊢
  have hrow : w1.heap[g]? = some (.cells (wcells (Pl.dn n (Pl.num (xs.take 0) * 2 ^ sh))) 68) := by
    have := row_full ho1
    rw [made_words] at this
    rw [this]
    have e : Pl.words n [] = Pl.dn n (Pl.num (xs.take 0) * 2 ^ sh) := by
      unfold Pl.words Pl.dn
      apply List.map_congr_left
      intro j _
      simp [Pl.word, Pl.le, Pl.num]
    rw [e]
  have HB1 := Lib.hid (show Below g w w1 from (Below.refl _ _).grown hg1 (by omega) (fun k hk => by cases hk))
  have HROW := Lib.hid hrow
  have HGD := Lib.hid hgd
  clear ho1 hg1 hi hz0 hz1 hz2 hrow hgd hn
  go_wp2_with fail
  go_loopw [24] (fun i wr => ∃ k : Nat, k ≤ N ∧ i = .int .i64 k ∧ wr.heap[g]? = some (.cells (wcells (Pl.dn n (Pl.num (xs.take k) * 2 ^ sh))) 68) ∧ Below g w wr ∧ g < wr.heap.size) (fun i _ => N - (RowKit.intOf i).toNat)
  case atStart => exact ⟨0, Nat.zero_le _, rfl, HROW.out, HB1.out, (Array.getElem?_eq_some_iff.1 HROW.out).1⟩
  case round =>
    obtain ⟨k, hk, rfl, hrow, hb, hsz2⟩ := hrel
    have HROW := Lib.hid hrow
    have HB := Lib.hid hb
    clear hrow hb
    by_cases hlt : k < N
    · have hkl : k < xs.length := by rw [HN.out]; exact hlt
      obtain ⟨b, hva, hcell⟩ : ∃ b, va = some ⟨b, 0, none⟩ ∧ wr.cell? ⟨b, k, none⟩ = some (.int .u32 (xs[k] : Nat)) := by
        rcases HRD.out with ⟨h1, h2⟩ | ⟨b, cap, h1, h2, h3, h4⟩
        · rw [h2] at hkl; simp at hkl
        · injection h1 with e1 _ _
          refine ⟨b, e1, ?_⟩
          rw [HB.out.cell (p := ⟨b, k, none⟩) (by have := HGD.out; show b < _; omega)]
          exact h4 k _ (List.getElem?_eq_getElem hkl)
      subst hva
      have hxk := HX.out xs[k] (List.getElem_mem _)
      have hVk : Pl.num (xs.take k) < 4294967296 ^ k := by
        have := Pl.num_lt (xs.take k) (fun y hy => HX.out y (List.mem_of_mem_take hy))
        rwa [List.length_take, Nat.min_eq_left (by omega)] at this
      have hnum : Pl.num (xs.take (k + 1)) = Pl.num (xs.take k) + 4294967296 ^ k * xs[k] := by
        rw [List.take_succ_eq_append_getElem hkl, Pl.num_snoc, List.length_take, Nat.min_eq_left (by omega)]
      obtain ⟨x, hx⟩ : ∃ x, xs[k] = x := ⟨_, rfl⟩
      rw [hx] at hcell hxk hnum
      obtain ⟨s1, s2, s3, s4⟩ := Pl.shift_facts (whole := wh) (part := pt) rfl hVk hxk hpt2
      rw [← HSH.out] at s1 s2
      rw [← hnum] at s2
      obtain ⟨V, hV⟩ : ∃ V, Pl.num (xs.take k) * 2 ^ sh = V := ⟨_, rfl⟩
      rw [hV] at s1 s2 HROW
      obtain ⟨s, hs'⟩ : ∃ s, x * 2 ^ pt = s := ⟨_, rfl⟩
      rw [hs'] at s2 s3 s4
      obtain ⟨a, ha⟩ : ∃ a, V / 4294967296 ^ (wh + k) = a := ⟨_, rfl⟩
      have hst : (x : Int) * 2 ^ pt = (s : Int) := by rw [← hs']; simp
      have hm1 : wh + k < n := by have := HNN.out; omega
      have hm2 : wh + k + 1 < n := by have := HNN.out; omega
      have ha2 : a < 4294967296 := by
        have hp2 : 2 ^ pt ≤ 2 ^ 31 := Nat.pow_le_pow_right (by decide) (by omega)
        have h31 : (2 : Nat) ^ 31 = 2147483648 := by decide
        omega
      have ca : wr.cell? ⟨g, wh + k, none⟩ = some (.int .u32 (a : Nat)) := by
        simp [World.cell?, HROW.out, wcells, Pl.dn, hm1, ha]; omega
      have fa : wr.frozen? ⟨g, wh + k, none⟩ = false := by simp [World.frozen?, HROW.out]
      have HSTEP := Lib.hid (fun j => Pl.dn_step hpt2 s1 s3 s4 j)
      have HOR := Lib.hid (bits_or_s hpt2 (by rw [ha] at s1; exact s1) (show s % 4294967296 < 4294967296 by omega) (by
        have h1 : 2 ^ pt * 2 ^ (32 - pt) = 4294967296 := by rw [← Nat.pow_add, show pt + (32 - pt) = 32 by omega]
        obtain ⟨q, hq⟩ := Nat.dvd_of_mod_eq_zero s4
        rw [hq, ← h1, Nat.mul_mod_mul_left, Nat.mul_mod_right]))
      have HS2 := Lib.hid s2
      obtain ⟨a', ha'⟩ : ∃ a', a + s % 4294967296 = a' := ⟨_, rfl⟩
      obtain ⟨t, ht⟩ : ∃ t, s / 4294967296 = t := ⟨_, rfl⟩
      have hor : bits .or .u32 (a : Int) ((s : Int) % 4294967296) = (a' : Int) := by have := HOR.out; rw [ha'] at this; rw [← this]; simp
      have htt : (s : Int) / 4294967296 = (t : Int) := by omega
      have HNEW := Lib.hid (show wcells (Pl.dn n (Pl.num (xs.take (k + 1)) * 2 ^ sh)) = ((wcells (Pl.dn n V)).setIfInBounds (wh + k) (.int .u32 (a' : Nat))).setIfInBounds (wh + k + 1) (.int .u32 (t : Nat)) by
        rw [HS2.out]
        unfold wcells
        apply Array.toList_inj.1
        apply List.ext_getElem
        · simp [Pl.dn]
        · intro i h1 h2
          simp only [Array.toList_setIfInBounds, List.getElem_set, List.getElem_map, Pl.dn, List.getElem_range]
          rw [HSTEP.out]
          by_cases e : i = wh + k
          · subst e
            rw [if_pos rfl, if_neg (by omega), if_pos rfl, ha, ha']
          · rw [if_neg e]
            by_cases e2 : i = wh + k + 1
            · subst e2
              rw [if_pos rfl, if_pos rfl, ht]
            · rw [if_neg e2, if_neg (fun h => e2 h.symm), if_neg (fun h => e h.symm)])
      obtain ⟨y, cb⟩ : ∃ y : Nat, wr.cell? ⟨g, wh + k + 1, none⟩ = some (.int .u32 (y : Nat)) := ⟨V / 4294967296 ^ (wh + k + 1) % 4294967296, by simp [World.cell?, HROW.out, wcells, Pl.dn, hm2]⟩
      have fb : wr.frozen? ⟨g, wh + k + 1, none⟩ = false := by simp [World.frozen?, HROW.out]
      clear s1 s2 s4 hs' hnum hVk hx hV ha ha' ht HOR HSTEP HS2
      go_wp2_with fail
      have hrow2 : ((wr.setCell ⟨g, wh + k, none⟩ (.int .u32 (a' : Nat))).setCell ⟨g, wh + k + 1, none⟩ (.int .u32 (t : Nat))).heap[g]? = some (.cells (wcells (Pl.dn n (Pl.num (xs.take (k + 1)) * 2 ^ sh))) 68) := by
        rw [HNEW.out]
        simp only [World.setCell, Array.getElem?_modify, if_pos, HROW.out]
        rfl
      have hB2 : Below g w ((wr.setCell ⟨g, wh + k, none⟩ (.int .u32 (a' : Nat))).setCell ⟨g, wh + k + 1, none⟩ (.int .u32 (t : Nat))) := (HB.out.setCell (p := ⟨g, wh + k, none⟩) (Nat.le_refl g) _).setCell (p := ⟨g, wh + k + 1, none⟩) (Nat.le_refl g) _
      have hz2 : g < ((wr.setCell ⟨g, wh + k, none⟩ (.int .u32 (a' : Nat))).setCell ⟨g, wh + k + 1, none⟩ (.int .u32 (t : Nat))).heap.size := by simp [World.setCell]; exact hsz2
      go_roundw
      case rel => exact ⟨k + 1, by omega, by go_num, hrow2, hB2, hz2⟩
      case measure => simp [RowKit.intOf]; omega
    · obtain rfl : k = N := by omega
      rw [List.take_of_length_le (by rw [HN.out]; exact Nat.le_refl _)] at HROW
      have hrd : Rd wr (.slice (some ⟨g, 0, none⟩) n n) (Pl.dn n (Pl.num xs * 2 ^ sh)) := by
        refine .inr ⟨g, n, by rw [Pl.dn_len], by rw [Pl.dn_len]; exact Nat.le_refl _, hsz2, fun j y hy => ?_⟩
        simp only [World.cell?, HROW.out, wcells]
        simp [hy]
      have HT := Lib.hid (trim_any _ _ wr hrd (by rw [Pl.dn_len]; omega))
      have HBW := Lib.hid (show Below w.heap.size w wr from by rw [HGD.out]; exact HB.out)
      clear hrd hlt
      go_wp2_with fail
      refine HT.out.mono ?_
      rintro e w' ⟨v', rfl, hrd2, rfl⟩
      have HR2 := Lib.hid hrd2
      obtain ⟨a, b, c, rfl⟩ : ∃ a b c, v' = .slice a b c := by
        rcases hrd2 with ⟨h1, _⟩ | ⟨_, _, h1, _⟩
        · exact ⟨_, _, _, h1⟩
        · exact ⟨_, _, _, h1⟩
      clear hrd2
      go_wp2_with fail
      go_ret
      exact ⟨_, rfl, HR2.out, HBW.out⟩
end Go.Proofs.YtpilniljhmkedaaGreatDoor
namespace Go.Proofs.YtpilniljhmkedaaGreatDoor
open Go.RowKit Go.Lib
/-- The words of a large number's digits, shifted to the left. -/
def Pl.shl (l : List UInt8) (k : Nat) : List Nat := Pl.trimW (Pl.dn (k / 32 + (l.length + 3) / 4 + 1) (Pl.num (Pl.words ((l.length + 3) / 4) l) * 2 ^ k))
def ShiftOk (w : World) (neg : Bool) (xs : List Nat) (e : Ending) (w' : World) : Prop :=
  e = .returned (.tuple #[lv (neg && !(Pl.bytesOf xs).isEmpty) (Pl.bytesOf xs), .int .i64 0]) ∧ Below w.heap.size w w'
theorem rd_form {w : World} {v : Value} {xs : List Nat} (h : Rd w v xs) : ∃ a b c, v = .slice a b c := by
  rcases h with ⟨h1, _⟩ | ⟨_, _, h1, _⟩
  · exact ⟨_, _, _, h1⟩
  · exact ⟨_, _, _, h1⟩
theorem trimW_mem {xs : List Nat} {x : Nat} (h : x ∈ Pl.trimW xs) : x ∈ xs := by
  have h2 : Pl.trimW xs <+: xs := by
    unfold Pl.trimW
    have := List.dropWhile_suffix (fun x : Nat => x == 0) (l := xs.reverse)
    rw [← List.reverse_suffix]; simpa using this
  exact h2.mem h
theorem trimW_len (xs : List Nat) : (Pl.trimW xs).length ≤ xs.length := by
  have : (xs.reverse.dropWhile (· == 0)).length ≤ xs.reverse.length := (List.dropWhile_suffix _).length_le
  unfold Pl.trimW
  simp at this ⊢
  omega
/-- A parameter and a result, each in a block of its own. -/
structure Frm (w W : World) (neg : Bool) (s : ByteArray) : Prop where
  a : W.heap[w.heap.size]? = some (.cells #[.bool neg, .string s] 34)
  b : W.heap[w.heap.size + 1]? = some (.cells #[.bool false, .string ⟨#[]⟩] 34)
  low : Below w.heap.size w W
  size : w.heap.size + 2 ≤ W.heap.size
theorem Frm.new (w : World) (neg : Bool) (s : ByteArray) : Frm w ((w.alloc (.cells #[.bool neg, .string s] 34)).alloc (.cells #[.bool false, .string ⟨#[]⟩] 34)) neg s := by
  refine ⟨?_, ?_, ((Below.refl _ _).alloc (Nat.le_refl _) _).alloc (by simp) _, by simp⟩
  · rw [Below.heap_alloc _ _ _ (by simp)]; exact heap_alloc_at _ _
  · have := heap_alloc_at (w.alloc (.cells #[.bool neg, .string s] 34)) (.cells #[.bool false, .string ⟨#[]⟩] 34)
    simpa using this
theorem Frm.below {w W W' : World} {neg : Bool} {s : ByteArray} (h : Frm w W neg s) (hB : Below W.heap.size W W') : Frm w W' neg s := by
  have hs := h.size
  exact ⟨by rw [hB.block _ (by omega)]; exact h.a, by rw [hB.block _ (by omega)]; exact h.b, h.low.trans (hB.mono (by omega)), Nat.le_trans hs hB.size⟩
theorem Frm.cells {w W : World} {neg : Bool} {s : ByteArray} (h : Frm w W neg s) : W.cell? ⟨w.heap.size, 0, none⟩ = some (.bool neg) ∧ W.cell? ⟨w.heap.size, 1, none⟩ = some (.string s) ∧ W.cell? ⟨w.heap.size + 1, 0, none⟩ = some (.bool false) ∧ W.cell? ⟨w.heap.size + 1, 1, none⟩ = some (.string ⟨#[]⟩) ∧ W.frozen? ⟨w.heap.size + 1, 0, none⟩ = false ∧ W.frozen? ⟨w.heap.size + 1, 1, none⟩ = false := by
  refine ⟨?_, ?_, ?_, ?_, ?_, ?_⟩
  · simp [World.cell?, h.a]
  · simp [World.cell?, h.a]
  · simp [World.cell?, h.b]
  · simp [World.cell?, h.b]
  · simp [World.frozen?, h.b]
  · simp [World.frozen?, h.b]
set_option maxHeartbeats 2000000 in
theorem shiftl_any (neg : Bool) (l : List UInt8) (k : Nat) (w : World) (hl : l.length ≤ 4096) (hc : Pl.chk neg l = 0) (hk : k ≤ 32768) (hs : (Pl.bytesOf (Pl.shl l k)).length ≤ 4096) :
    Calls Tryz.prog 32 #[lv neg l, .int .i64 k] w (ShiftOk w neg (Pl.shl l k)) := by
  have HC := Lib.hid (fun w => check_any neg l w (by omega))
  rw [hc] at HC
  have HO := Lib.hid (fun w => lof_any neg l w hl)
  have hxw : ∀ x ∈ Pl.words ((l.length + 3) / 4) l, x < 4294967296 := fun x hx => by
    obtain ⟨j, _, rfl⟩ := List.mem_map.1 hx; exact Pl.word_lt l j
  have HL := Lib.hid (fun v w (h : Rd w v (Pl.words ((l.length + 3) / 4) l)) => left_any v _ k w h (by rw [Pl.words_len]; omega) hxw (by omega))
  rw [Pl.words_len] at HL
  have HT := Lib.hid (fun v w (h : Rd w v (Pl.shl l k)) => ltold_any v (Pl.shl l k) neg w h (by
    unfold Pl.shl; refine Nat.le_trans (trimW_len _) ?_; rw [Pl.dn_len]; omega) (fun x hx => Pl.dn_lt (trimW_mem hx)) hs)
  have HLV : Hid (∀ v w, Rd w v (Pl.words ((l.length + 3) / 4) l) → Calls Tryz.prog 64 #[v, .int .u64 k] w fun e w' => ∃ v', e = .returned v' ∧ Rd w' v' (Pl.shl l k) ∧ Below w.heap.size w w') := Lib.hid (fun v w h => HL.out v w h)
  clear HL hc hxw hs
  unfold lv at *
  generalize bs l = s at *
  go_enter Tryz.func32, Tryz.ntmps32
  go_wp2_with fail
  refine (HC.out _).mono ?_
  rintro e w1 ⟨rfl, hB1⟩
  have HF1 := Lib.hid ((Frm.new w neg s).below hB1)
  obtain ⟨g0, g1, _, _, _, _⟩ := HF1.out.cells
  clear hB1
  go_wp2_with fail
  refine (HO.out _).mono ?_
  rintro e w2 ⟨v, rfl, hrd, hB2⟩
  have HF2 := Lib.hid (HF1.out.below hB2)
  have HRD := Lib.hid hrd
  obtain ⟨va, vn, vc, rfl⟩ : ∃ a b c, v = .slice a b c := by
    rcases hrd with ⟨h1, _⟩ | ⟨_, _, h1, _⟩
    · exact ⟨_, _, _, h1⟩
    · exact ⟨_, _, _, h1⟩
  clear hB2 hrd HF1
  clear g0 g1
  have hd1 : decide ((k : Int) < -32768) = false := decide_eq_false (by omega)
  have hd2 : decide (32768 < (k : Int)) = false := decide_eq_false (by omega)
  go_wp2_with fail
  obtain ⟨C, hC⟩ : ∃ C, w2.heap.size = C := ⟨_, rfl⟩
  obtain ⟨W3, hW3⟩ : ∃ W3, w2.alloc (.cells #[.slice va vn vc, .bool neg] 85) = W3 := ⟨_, rfl⟩
  have hB3 : Below w2.heap.size w2 W3 := by rw [← hW3]; exact (Below.refl _ _).alloc (Nat.le_refl _) _
  have HF3 := Lib.hid (HF2.out.below hB3)
  have HRD3 := Lib.hid (HRD.out.below hB3)
  have hn : W3.heap[C]? = some (.cells #[.slice va vn vc, .bool neg] 85) := by rw [← hW3, ← hC]; exact heap_alloc_at _ _
  have n0 : W3.cell? ⟨C, 0, none⟩ = some (.slice va vn vc) := by simp [World.cell?, hn]
  have n1 : W3.cell? ⟨C, 1, none⟩ = some (.bool neg) := by simp [World.cell?, hn]
  have hCs : C < W3.heap.size := (Array.getElem?_eq_some_iff.1 hn).1
  rw [hC, hW3]
  clear hB3 hn hW3 hC HRD HF2
  obtain ⟨B, hBd⟩ : ∃ B, w.heap.size + 1 = B := ⟨_, rfl⟩
  rw [hBd]
  have HBd := Lib.hid hBd
  clear hBd
  have hku : IntKind.u64.wrap (k : Int) = (k : Int) := wrap_nat (by omega)
  go_region_with (first | (go_at_call 64; refine (HLV.out _ _ (by exact HRD3.out)).mono ?_; rintro e w4 ⟨v4, rfl, hrd4, hB4d⟩; have hB4 : Below W3.heap.size W3 w4 := (Below.refl _ W3).drew.trans hB4d; clear hB4d; obtain ⟨x1, x2, x3, rfl⟩ := rd_form hrd4; have m1 : w4.cell? ⟨C, 1, none⟩ = some (.bool neg) := (by rw [hB4.cell (p := ⟨C, 1, none⟩) hCs]; exact n1)) | (go_at_call 63; refine (HT.out _ _ hrd4).mono ?_; rintro e w5 ⟨rfl, hB5⟩; have HF5 := Lib.hid ((HF3.out.below hB4).below hB5); obtain ⟨_, _, r0, r1, f0, f1⟩ := HF5.out.cells; rw [HBd.out] at r0 r1 f0 f1; unfold lv))
  all_goals
    obtain ⟨k0, k1, kB⟩ := two_set w5 B (.bool (neg && !(Pl.bytesOf (Pl.shl l k)).isEmpty)) (.string (bs (Pl.bytesOf (Pl.shl l k)))) r0 r1
    have kB' := HF5.out.low.trans (kB.mono (by have := HBd.out; omega))
    clear r0 r1 f0 f1
    go_wp2_with fail
    refine bodyPost_ret (v := .tuple #[.agg #[.bool (neg && !(Pl.bytesOf (Pl.shl l k)).isEmpty), .string (bs (Pl.bytesOf (Pl.shl l k)))], .int .i64 0]) (by simp [results, Tryz.results32, go_sem, k0, k1]) rfl ⟨rfl, kB'⟩
end Go.Proofs.YtpilniljhmkedaaGreatDoor
namespace Go.Proofs.YtpilniljhmkedaaGreatDoor
open Go.RowKit Go.Lib
namespace Pl
/-- No nought at the end. -/
def Canon (l : List UInt8) : Prop := l.getLast? ≠ some 0
theorem le_append : ∀ (a b : List UInt8), le (a ++ b) = le a + 256 ^ a.length * le b
  | [], b => by simp [le]
  | x :: a, b => by rw [List.cons_append, le, le_append a b, le, List.length_cons, Nat.pow_succ, Nat.mul_add, ← Nat.mul_assoc, Nat.mul_comm 256 (256 ^ a.length)]; omega
theorem le_strip (l : List UInt8) : le (strip l) = le l := by
  have key : ∀ l : List UInt8, le (l.dropWhile (· == 0)).reverse = le l.reverse := by
    intro l
    induction l with
    | nil => rfl
    | cons a l ih =>
      by_cases h : a = 0
      · subst h; simp [ih, le_append, le]
      · simp [h]
  have := key l.reverse
  rw [List.reverse_reverse] at this
  exact this
theorem canon_strip (l : List UInt8) : Canon (strip l) := by
  have key : ∀ l : List UInt8, Canon (l.dropWhile (· == 0)).reverse := by
    intro l
    induction l with
    | nil => simp [Canon]
    | cons a l ih =>
      by_cases h : a = 0
      · subst h; simpa using ih
      · simp [h, Canon]
  exact key l.reverse
theorem le_four {x : Nat} (h : x < 4294967296) : le (four x) = x := by
  simp [four, le]; omega
theorem le_flat : ∀ xs : List Nat, (∀ x ∈ xs, x < 4294967296) → le (flat xs) = num xs
  | [], _ => rfl
  | x :: xs, h => by
    have e : flat (x :: xs) = four x ++ flat xs := by simp [flat]
    rw [e, le_append, le_four (h x (by simp)), le_flat xs (fun y hy => h y (by simp [hy])), num]
    simp [four]
theorem le_bytesOf {xs : List Nat} (h : ∀ x ∈ xs, x < 4294967296) : le (bytesOf xs) = num xs := by
  unfold bytesOf
  rw [le_strip, le_flat _ (fun x hx => h x (trimW_mem hx)), num_trimW]
theorem canon_bytesOf (xs : List Nat) : Canon (bytesOf xs) := canon_strip _
theorem canon_ge {l : List UInt8} (h : Canon l) (h0 : l ≠ []) : 256 ^ (l.length - 1) ≤ le l := by
  have e := List.dropLast_concat_getLast h0
  have hl : l.getLast h0 ≠ 0 := fun h2 => h (by rw [List.getLast?_eq_some_getLast h0, h2])
  rw [← e, le_snoc, List.length_append, List.length_singleton, Nat.add_sub_cancel]
  have h1 : 1 ≤ (l.getLast h0).toNat := by
    rcases Nat.eq_zero_or_pos (l.getLast h0).toNat with h3 | h3
    · exact (hl (UInt8.toNat_inj.1 h3)).elim
    · exact h3
  exact Nat.le_trans (Nat.le_mul_of_pos_right _ h1) (Nat.le_add_left _ _)
theorem canon_tail {a : UInt8} {l : List UInt8} (h : Canon (a :: l)) : Canon l := by
  unfold Canon at h ⊢
  cases l with
  | nil => simp
  | cons b l => rwa [List.getLast?_cons_cons] at h
theorem le_inj : ∀ {l m : List UInt8}, Canon l → Canon m → le l = le m → l = m
  | [], [], _, _, _ => rfl
  | [], b :: m, _, h2, h => by
    have := canon_ge h2 (by simp)
    have h3 : 0 < 256 ^ ((b :: m).length - 1) := Nat.pow_pos (by decide)
    rw [← h, le] at this; omega
  | a :: l, [], h1, _, h => by
    have := canon_ge h1 (by simp)
    have h3 : 0 < 256 ^ ((a :: l).length - 1) := Nat.pow_pos (by decide)
    rw [h, le] at this; omega
  | a :: l, b :: m, h1, h2, h => by
    rw [le, le] at h
    have ha := a.toNat_lt
    have hb := b.toNat_lt
    have e1 : a.toNat = b.toNat := by omega
    have e2 : le l = le m := by omega
    rw [UInt8.toNat_inj.1 e1, le_inj (canon_tail h1) (canon_tail h2) e2]
theorem canon_len {l : List UInt8} {n : Nat} (h : Canon l) (hv : le l < 256 ^ n) : l.length ≤ n := by
  by_cases h0 : l = []
  · subst h0; simp
  · have h1 := canon_ge h h0
    have h2 : 256 ^ (l.length - 1) < 256 ^ n := Nat.lt_of_le_of_lt h1 hv
    have := (Nat.pow_lt_pow_iff_right (by decide : 1 < 256)).1 h2
    omega
/-- The digits of a number. -/
def dgs (V : Nat) : List UInt8 := bytesOf (dn (V.log2 / 32 + 1) V)
theorem lt_words (V : Nat) : V < 4294967296 ^ (V.log2 / 32 + 1) := by
  have e : (4294967296 : Nat) ^ (V.log2 / 32 + 1) = 2 ^ (32 * (V.log2 / 32 + 1)) := by rw [Nat.pow_mul]
  rw [e]
  exact Nat.lt_of_lt_of_le Nat.lt_log2_self (Nat.pow_le_pow_right (by decide) (by omega))
theorem le_dgs (V : Nat) : le (dgs V) = V := by
  unfold dgs
  rw [le_bytesOf (fun x hx => dn_lt hx), num_dn _ _ (lt_words V)]
theorem canon_dgs (V : Nat) : Canon (dgs V) := canon_bytesOf _
theorem dgs_le {l : List UInt8} (h : Canon l) : dgs (le l) = l := le_inj (canon_dgs _) h (le_dgs _)
theorem bytesOf_is {xs : List Nat} (h : ∀ x ∈ xs, x < 4294967296) : bytesOf xs = dgs (num xs) := le_inj (canon_bytesOf _) (canon_dgs _) (by rw [le_bytesOf h, le_dgs])
theorem dgs_zero : dgs 0 = [] := by
  have h := le_dgs 0
  by_cases h0 : dgs 0 = []
  · exact h0
  · have h1 := canon_ge (canon_dgs 0) h0
    have : 0 < 256 ^ ((dgs 0).length - 1) := Nat.pow_pos (by decide)
    omega
theorem dgs_empty (V : Nat) : (dgs V).isEmpty = decide (V = 0) := by
  by_cases h : V = 0
  · subst h; rw [dgs_zero]; rfl
  · rw [decide_eq_false h]
    have h1 := le_dgs V
    cases hd : dgs V with
    | nil => rw [hd, le] at h1; omega
    | cons a l => rfl
theorem dgs_len {V n : Nat} (h : V < 256 ^ n) : (dgs V).length ≤ n := canon_len (canon_dgs V) (by rw [le_dgs]; exact h)
theorem num_words (l : List UInt8) : ∀ n, l.length ≤ 4 * n → num (words n l) = le l := by
  have key : ∀ n, ∀ l : List UInt8, l.length ≤ 4 * n → num (words n l) = le l := by
    intro n
    induction n with
    | zero => intro l h; have : l = [] := List.length_eq_zero_iff.1 (by omega)
              subst this; rfl
    | succ n ih =>
      intro l h
      have e : words (n + 1) l = word l 0 :: words n (l.drop 4) := by
        unfold words
        rw [List.range_succ_eq_map, List.map_cons, List.map_map]
        congr 1
        apply List.map_congr_left
        intro j _
        simp only [Function.comp, word, List.drop_drop]
        rw [show 4 + 4 * j = 4 * (j.succ) by omega]
      rw [e, num, ih _ (by rw [List.length_drop]; omega)]
      conv => rhs; rw [← List.take_append_drop 4 l]
      rw [le_append]
      unfold word
      simp only [Nat.mul_zero, List.drop_zero]
      by_cases h4 : 4 ≤ l.length
      · rw [List.length_take, Nat.min_eq_left h4]
      · rw [List.drop_eq_nil_of_le (by omega)]; simp [le]
  exact fun n => key n l
theorem shl_is (V k : Nat) : bytesOf (shl (dgs V) k) = dgs (V * 2 ^ k) := by
  have hn := num_words (dgs V) (((dgs V).length + 3) / 4) (by omega)
  rw [le_dgs] at hn
  refine le_inj (canon_bytesOf _) (canon_dgs _) ?_
  unfold shl
  rw [le_bytesOf (fun x hx => dn_lt (trimW_mem hx)), le_dgs, num_trimW, hn, num_dn]
  have h1 := le_lt (dgs V)
  rw [le_dgs] at h1
  generalize (dgs V).length = L at *
  have e1 : (256 : Nat) ^ L = 2 ^ (8 * L) := by rw [Nat.pow_mul]
  have e2 : (4294967296 : Nat) ^ (k / 32 + (L + 3) / 4 + 1) = 2 ^ (32 * (k / 32 + (L + 3) / 4 + 1)) := by rw [Nat.pow_mul]
  rw [e1] at h1
  rw [e2]
  have h2 : V * 2 ^ k < 2 ^ (8 * L) * 2 ^ k := Nat.mul_lt_mul_of_pos_right h1 (Nat.pow_pos (by decide))
  rw [← Nat.pow_add] at h2
  exact Nat.lt_of_lt_of_le h2 (Nat.pow_le_pow_right (by decide) (by omega))
theorem chk_dgs {neg : Bool} {V : Nat} (h : V < 256 ^ 4096) (hn : neg = true → V ≠ 0) : chk neg (dgs V) = 0 := by
  have hl := dgs_len h
  unfold chk
  rw [if_neg (by omega)]
  by_cases h0 : (dgs V).length = 0
  · rw [if_pos h0]
    have h1 : dgs V = [] := List.length_eq_zero_iff.1 h0
    have h2 := le_dgs V
    rw [h1, le] at h2
    cases neg
    · rfl
    · exact (hn rfl h2.symm).elim
  · rw [if_neg h0, if_neg]
    intro h1
    exact canon_dgs V (by rw [List.getLast?_eq_getElem?]; exact h1)
end Pl
/-- A number as a large one. -/
def lof (t : Int) : Value := lv (decide (t < 0)) (Pl.dgs t.natAbs)
theorem ofv_is {n : Int} (h1 : -9223372036854775808 ≤ n) (h2 : n ≤ 9223372036854775807) : ofv n = lof n := by
  obtain ⟨V, hV⟩ : ∃ V, n.natAbs = V := ⟨_, rfl⟩
  have e : Pl.bytesOf [V % 4294967296, V / 4294967296] = Pl.dgs V := by
    rw [Pl.bytesOf_is (by intro x hx; simp at hx; omega)]
    congr 1
    simp only [Pl.num]; omega
  unfold ofv lof
  rw [hV, e, Pl.dgs_empty]
  congr 1
  by_cases hn : n < 0
  · rw [decide_eq_true hn, decide_eq_false (by omega)]; rfl
  · rw [decide_eq_false hn]; rfl
end Go.Proofs.YtpilniljhmkedaaGreatDoor
namespace Go.Proofs.YtpilniljhmkedaaGreatDoor
open Go.RowKit Go.Lib
/-- What Exponent answers. -/
def expv (a : Nat) : Value := match Fl.fexp a with | some n => .tuple #[.int .i64 n, .int .i64 0] | none => .tuple #[.int .i64 0, .int .i64 101]
theorem bits_exu (a : Nat) (ha : a < 18446744073709551616) : bits .and .u64 ((a : Int) / 4503599627370496) 2047 = ((a / 4503599627370496 % 2048 : Nat) : Int) := by
  have := bits_low (a := a / 4503599627370496) (k := 11) (by omega) (by decide)
  rw [show ((2 ^ 11 - 1 : Nat) : Int) = 2047 from rfl, show (2 : Nat) ^ 11 = 2048 from rfl] at this
  rw [← this]; simp
theorem log2_len {r : Nat} (h0 : r ≠ 0) (h : r < 18446744073709551616) : Lib.bitLen r = r.log2 + 1 := by
  exact Pl.bitLen_unique h (Nat.log2_self_le h0) (by rw [Nat.pow_succ]; exact (by have := Nat.lt_log2_self (n := r); rw [Nat.pow_succ] at this; exact this))
set_option maxHeartbeats 1000000 in
theorem exponent_any (a : Nat) (w : World) (ha : a < 18446744073709551616) :
    Calls Tryz.prog 14 #[.int .u64 a] w fun e w' => e = .returned (expv a) ∧ w = w' := by
  have HF := Lib.hid (fun w => finite_any a ha w)
  have HEX := Lib.hid (bits_exu a ha)
  have HMT := Lib.hid (bits_mt a ha)
  by_cases hf : a % 9223372036854775808 < 9218868437227405312
  · rw [decide_eq_true hf] at HF
    by_cases hz : a % 9223372036854775808 = 0
    · have HV := Lib.hid (show expv a = .tuple #[.int .i64 0, .int .i64 101] by unfold expv Fl.fexp; rw [if_pos (.inl hz)])
      have ho : FloatKind.f64.format.order a 0 = some .eq := by
        show Fl.D.order a 0 = _
        rw [Fl.order_key (by simp [Fl.isNan]; omega) (by decide)]
        have h0 : Fl.val (Fl.D.read 0) = 0 := by rw [Fl.read_eq]; decide +kernel
        have h1 : Fl.val (Fl.D.read a) = 0 := by
          rw [Fl.read_eq, if_pos (by omega), hz]
          simp only [Fl.val]
          unfold Ieee.signed
          simp
        rw [h0, h1]; rfl
      clear hz hf HEX HMT
      go_enter Tryz.func14, Tryz.ntmps14
      go_wp2_with (first | (refine (of_any _ _).mono ?_; rintro e w' ⟨rfl, rfl⟩) | (refine (HF.out _).mono ?_; rintro e w' ⟨rfl, rfl⟩))
      go_ret2
      exact ⟨by rw [HV.out]; rfl, rfl⟩
    · have HZ0 : FloatKind.f64.format.order a 0 = some .lt ∨ FloatKind.f64.format.order a 0 = some .gt := Fl.order_zero hf hz
      obtain ⟨ex, hex⟩ : ∃ ex, a / 4503599627370496 % 2048 = ex := ⟨_, rfl⟩
      obtain ⟨mt, hmt⟩ : ∃ mt, a % 4503599627370496 = mt := ⟨_, rfl⟩
      have hexr : a % 9223372036854775808 / 4503599627370496 = ex := by omega
      have x1 : bits .and .u64 ((a : Int) / 4503599627370496) 2047 = (ex : Int) := by rw [HEX.out, hex]
      have x2 : bits .and .u64 (a : Int) 4503599627370495 = (mt : Int) := by rw [HMT.out, hmt]
      have hexb : ex < 2048 := by omega
      by_cases he : ex = 0
      · have hmr : a % 9223372036854775808 = mt := by omega
        have hm0 : mt ≠ 0 := by omega
        have hmb : mt < 4503599627370496 := by omega
        have HV := Lib.hid (show expv a = .tuple #[.int .i64 ((Lib.bitLen mt : Nat) - 1075 : Int), .int .i64 0] by
          unfold expv Fl.fexp
          rw [if_neg (by omega), hexr, if_pos he, hmr, log2_len hm0 (by omega)]
          have : (((mt.log2 : Nat) : Int) - 1074) = (((mt.log2 + 1 : Nat) : Int) - 1075) := by omega
          rw [this])
        have hbl : Lib.bitLen mt ≤ 64 := bitLen_le mt 64 (Nat.le_refl _) (by omega)
        have hex0 : (ex : Int) ≤ 0 := by omega
        have HE0 := Lib.hid he
        clear hz hf HEX HMT hex hmt hexr hmr hm0 he
        rcases HZ0 with ho | ho
        all_goals
          go_enter Tryz.func14, Tryz.ntmps14
          go_wp2_with (first | (refine (of_any _ _).mono ?_; rintro e w' ⟨rfl, rfl⟩) | (refine (HF.out _).mono ?_; rintro e w' ⟨rfl, rfl⟩))
          refine (Tryz.bits_Len64 _ _ (by omega) (by omega)).mono ?_
          rintro e w' ⟨rfl, rfl⟩
          rw [Int.toNat_natCast]
          generalize Lib.bitLen mt = L at hbl HV ⊢
          go_wp2_with fail
          go_ret2
          exact ⟨by rw [HV.out]; rfl, rfl⟩
      · have HV := Lib.hid (show expv a = .tuple #[.int .i64 ((ex : Int) - 1023), .int .i64 0] by
          unfold expv Fl.fexp
          rw [if_neg (by omega), hexr, if_neg he])
        have hex0 : 0 < (ex : Int) := by omega
        clear hz hf HEX HMT hex hmt hexr he
        rcases HZ0 with ho | ho
        all_goals
          go_enter Tryz.func14, Tryz.ntmps14
          go_wp2_with (first | (refine (of_any _ _).mono ?_; rintro e w' ⟨rfl, rfl⟩) | (refine (HF.out _).mono ?_; rintro e w' ⟨rfl, rfl⟩))
          go_ret2
          exact ⟨by rw [HV.out]; rfl, rfl⟩
  · rw [decide_eq_false hf] at HF
    have HV := Lib.hid (show expv a = .tuple #[.int .i64 0, .int .i64 101] by unfold expv Fl.fexp; rw [if_pos (.inr (by omega))])
    clear hf HEX HMT
    go_enter Tryz.func14, Tryz.ntmps14
    go_wp2_with (first | (refine (of_any _ _).mono ?_; rintro e w' ⟨rfl, rfl⟩) | (refine (HF.out _).mono ?_; rintro e w' ⟨rfl, rfl⟩))
    go_ret2
    exact ⟨by rw [HV.out]; rfl, rfl⟩
end Go.Proofs.YtpilniljhmkedaaGreatDoor
