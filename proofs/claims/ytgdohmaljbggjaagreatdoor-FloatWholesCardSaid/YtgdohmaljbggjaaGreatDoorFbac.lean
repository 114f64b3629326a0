/- How many bits the reference's numbers have: the contract of Bits. The reference's numbers of 64 bits: the contract of Of. Plain facts of the reference's rounding (no program in sight). The reference's sums with signs: the contracts of add and Add. The reference's sums: the contract of Add; local blocks that hold large numbers. -/
import Derived.Test.YtgdohmaljbggjaaGreatDoorFbab
import Derived.Test.YtgdohmaljbggjaaGreatDoorBaas
namespace Go.Proofs.YtgdohmaljbggjaaGreatDoor
open Go.RowKit Go.Lib
namespace Pl
theorem nb_half {x : Nat} (h : 0 < x) : nb x = nb (x / 2) + 1 := by
  unfold nb
  rw [if_neg (by omega)]
  by_cases h1 : x / 2 = 0
  · have : x = 1 := by omega
    subst this; decide
  · rw [if_neg h1]
    have := Fl.log2_div_pow x 1
    rw [Nat.pow_one] at this
    rw [this]
    have : 1 ≤ x.log2 := (Nat.le_log2 (by omega)).2 (by omega)
    omega
theorem nb_bytes {l : List UInt8} {c : UInt8} (hc : c ≠ 0) : nb (le (l ++ [c])) = 8 * l.length + nb c.toNat := by
  have hc0 : c.toNat ≠ 0 := by
    intro h; exact hc (UInt8.toNat_inj.1 (by simpa using h))
  have h1 := le_lt l
  have e : le (l ++ [c]) = le l + 256 ^ l.length * c.toNat := le_snoc l c
  have hB : (256 : Nat) ^ l.length = 2 ^ (8 * l.length) := by rw [Nat.pow_mul]
  rw [hB] at e h1
  generalize c.toNat = x at *
  have p1 := Nat.log2_self_le hc0
  have p2 : x < 2 ^ (x.log2 + 1) := Nat.lt_log2_self
  have hl : (le (l ++ [c])).log2 = 8 * l.length + x.log2 := by
    refine Fl.log2_between ?_ ?_
    · rw [e, Nat.pow_add]
      have := Nat.mul_le_mul_left (2 ^ (8 * l.length)) p1
      omega
    · rw [e, Nat.add_assoc, Nat.pow_add]
      have := Nat.mul_le_mul_left (2 ^ (8 * l.length)) (show x + 1 ≤ 2 ^ (x.log2 + 1) by omega)
      rw [Nat.mul_add, Nat.mul_one] at this
      omega
  have h0 : le (l ++ [c]) ≠ 0 := by
    rw [e]
    have := Nat.mul_le_mul_left (2 ^ (8 * l.length)) (show 1 ≤ x by omega)
    have := Nat.two_pow_pos (8 * l.length)
    omega
  unfold nb
  rw [if_neg h0, if_neg hc0, hl]
  omega
theorem nb_le {x : Nat} (h : x < 256) : nb x ≤ 8 := by
  unfold nb
  by_cases h0 : x = 0
  · rw [if_pos h0]; omega
  · rw [if_neg h0]
    have := (Nat.log2_lt h0).2 (show x < 2 ^ 8 by omega)
    omega
end Pl
set_option maxRecDepth 4000 in
set_option maxHeartbeats 1000000 in
theorem rbits_any (neg : Bool) (V : Nat) (w : World) (h : Good9 neg V) :
    Calls Tryz.prog 66 #[lv neg (Pl.dgs V)] w fun e w' => e = .returned (.int .i64 (Pl.nb V : Nat)) ∧ Below w.heap.size w w' := by
  have HC := Lib.hid (fun w => rcheck_any neg V w h.lt h.sign)
  have hlen := Pl.dgs_len h.lt
  have hcan := Pl.canon_dgs V
  have hle := Pl.le_dgs V
  have hemp := Pl.dgs_empty V
  unfold lv at *
  have hsz : (bs (Pl.dgs V)).size = (Pl.dgs V).length := rfl
  have HAT := Lib.hid (at_bs (Pl.dgs V))
  generalize Pl.dgs V = D at *
  generalize bs D = s at *
  by_cases h0 : D = []
  · subst h0
    have hV0 : V = 0 := by simpa using hemp
    subst hV0
    rw [List.length_nil] at hsz
    clear hcan hle hemp HAT hlen h
    go_enter Tryz.func66, Tryz.ntmps66
    go_wp2_with fail
    go_ret
    exact ⟨rfl, (Below.refl _ _).alloc (Nat.le_refl _) _⟩
  · obtain ⟨n, hnl⟩ : ∃ n, D.length = n + 1 := ⟨D.length - 1, by have := List.length_pos_iff.2 h0; omega⟩
    have hlast : n < D.length := by omega
    have q : n < s.size := by omega
    have ak : s[n]'q = D[n] := HAT.out.get hlast q (by omega)
    have hc0 : D[n] ≠ 0 := by
      intro e
      apply hcan
      rw [List.getLast?_eq_getElem?, hnl, Nat.add_sub_cancel, List.getElem?_eq_getElem hlast, e]
    have HNB := Lib.hid (show Pl.nb V = 8 * n + Pl.nb D[n].toNat by
      rw [← hle]
      have e : D = D.take n ++ [D[n]] := by
        rw [← List.take_succ_eq_append_getElem hlast, List.take_of_length_le (by omega)]
      have h2 := Pl.nb_bytes (l := D.take n) hc0
      rw [← e, List.length_take, Nat.min_eq_left (by omega)] at h2
      exact h2)
    have hxl := UInt8.toNat_lt D[n]
    have hx0 : 0 < D[n].toNat := by
      rcases Nat.eq_zero_or_pos D[n].toNat with h | h
      · exact absurd (UInt8.toNat_inj.1 (by simpa using h)) hc0
      · exact h
    have hb8 := Pl.nb_le hxl
    generalize D[n] = c at *
    obtain ⟨x, hcx⟩ : ∃ x, c.toNat = x := ⟨_, rfl⟩
    rw [hcx] at HNB hxl hx0 hb8
    rw [hnl] at hsz hlen
    clear hcan hle hemp HAT h0 hc0 hnl hlast h
    have hd1 : (((n : Int) + 1) == 0) = false := by rw [beq_eq_false_iff_ne]; omega
    go_enter Tryz.func66, Tryz.ntmps66
    go_wp2_with fail
    refine (HC.out _).mono ?_
    rintro e w1 ⟨rfl, hb⟩
    have hh : (w.alloc (.cells #[.bool neg, .string s] 42)).heap[w.heap.size]? = some (.cells #[.bool neg, .string s] 42) := heap_alloc_at _ _
    have HB1 := Lib.hid (show Below w.heap.size w w1 from ((Below.refl _ _).alloc (Nat.le_refl _) _).trans (hb.mono (by simp)))
    obtain ⟨c0, c1, _⟩ := large_cells (large_kept hh hb)
    clear hb hh HC
    go_wp2_with fail
    go_loop [4, 5] (fun b y => ∃ j z : Nat, z ≤ x ∧ y = .int .i64 z ∧ b = .int .i64 (8 * (n : Int) + j) ∧ Hid (Pl.nb z + j = Pl.nb x) ∧ j ≤ 8) (fun _ y => (RowKit.intOf y).toNat)
    case atStart => exact ⟨0, x, Nat.le_refl _, rfl, by go_num, Lib.hid (by omega), by omega⟩
    case round =>
      obtain ⟨j, z, hz, rfl, rfl, hnb, hj⟩ := hrel
      by_cases hp : 0 < z
      · have hst := Pl.nb_half hp
        have HN2 := Lib.hid (show Pl.nb (z / 2) + (j + 1) = Pl.nb x by have := hnb.out; omega)
        have hj2 : j + 1 ≤ 8 := by have := hnb.out; omega
        have hdp : decide (0 < (z : Int)) = true := decide_eq_true (by omega)
        obtain ⟨y, hy⟩ : ∃ y, z / 2 = y := ⟨_, rfl⟩
        rw [hy] at HN2
        have hdv : (z : Int).tdiv 2 = (y : Int) := by rw [Int.tdiv_eq_ediv_of_nonneg (by omega)]; omega
        have hdv2 : (z : Int) / 2 = (y : Int) := by omega
        have hyz : y < z := by omega
        clear hst hnb hy
        go_wp2_with fail
        go_round
        case rel => exact ⟨j + 1, y, by omega, by go_num, by go_num, HN2, hj2⟩
        case measure => simp [RowKit.intOf]; omega
      · obtain rfl : z = 0 := by omega
        have HR := Lib.hid (show ((Pl.nb V : Nat) : Int) = 8 * (n : Int) + (j : Int) by
          have h1 := hnb.out
          have h2 : Pl.nb 0 = 0 := rfl
          rw [HNB.out]; omega)
        clear hnb
        go_wp2_with fail
        go_ret
        exact ⟨ret_int (by rw [HR.out]), HB1.out⟩
end Go.Proofs.YtgdohmaljbggjaaGreatDoor
namespace Go.Proofs.YtgdohmaljbggjaaGreatDoor
open Go.RowKit Go.Lib
theorem canon_snoc {l : List UInt8} {c : UInt8} (h : c ≠ 0) : Pl.Canon (l ++ [c]) := by
  unfold Pl.Canon
  rw [List.getLast?_append]
  simpa using h
set_option maxRecDepth 4000 in
set_option maxHeartbeats 2000000 in
theorem rof_any (n : Int) (w : World) (h1 : -9223372036854775808 ≤ n) (h2 : n ≤ 9223372036854775807) :
    Calls Tryz.prog 58 #[.int .i64 n] w fun e w' => e = .returned (lof n) ∧ Below w.heap.size w w' := by
  obtain ⟨A, hA⟩ : ∃ A, n.natAbs = A := ⟨_, rfl⟩
  have hAl : A < 18446744073709551616 := by omega
  have HL : Hid (lof n = .agg #[.bool (decide (n < 0)), .string (bs (Pl.dgs A))]) := Lib.hid (by unfold lof lv; rw [hA])
  rw [HL.out]
  have hcase : (decide (n < 0) = true ∧ IntKind.u64.wrap (-IntKind.u64.wrap n) = (A : Int)) ∨ (decide (n < 0) = false ∧ IntKind.u64.wrap n = (A : Int)) := by
    by_cases h : n < 0
    · exact .inl ⟨decide_eq_true h, by rw [IntKind.wrap_u64, IntKind.wrap_u64]; omega⟩
    · exact .inr ⟨decide_eq_false h, by rw [IntKind.wrap_u64]; omega⟩
  clear hA HL
  rcases hcase with ⟨hd, hw⟩ | ⟨hd, hw⟩
  · go_enter Tryz.func58, Tryz.ntmps58
    go_wp2_with fail
    obtain ⟨W0, hW0⟩ : ∃ W0, w.alloc (.cells #[.bool false, .string ⟨#[]⟩] 42) = W0 := ⟨_, rfl⟩
    have hW1 : W0.heap.size = w.heap.size + 1 := by rw [← hW0]; simp
    have HW2 := Lib.hid (show W0.heap[w.heap.size]? = some (.cells #[.bool false, .string ⟨#[]⟩] 42) by rw [← hW0]; exact heap_alloc_at _ _)
    have HW3 := Lib.hid (show Below w.heap.size w W0 by rw [← hW0]; exact (Below.refl _ _).alloc (Nat.le_refl _) _)
    rw [hW0]
    have HSZ := Lib.hid hW1
    clear hW0 hW1
    go_loopw [3, 4] (fun s y wr => ∃ (x : Nat) (out : List UInt8), y = .int .u64 x ∧ x < 18446744073709551616 ∧ out.length ≤ 8 ∧ Hid (Pl.le out + 256 ^ out.length * x = A ∧ (x = 0 → Pl.Canon out)) ∧ Owns wr (w.heap.size + 1) 5 1 s out.length (bc out) ∧ Below (w.heap.size + 1) W0 wr ∧ w.heap.size + 1 ≤ wr.heap.size) (fun _ y _ => (RowKit.intOf y).toNat)
    case atStart => exact ⟨A, [], rfl, hAl, by simp, Lib.hid ⟨by simp [Pl.le], fun _ => by simp [Pl.Canon]⟩, Owns.nil _ _ _ _, Below.refl _ _, by rw [HSZ.out]; omega⟩
    case round =>
      obtain ⟨x, out, rfl, hxl, hol, hval, ho, hB, hs⟩ := hrel
      have HO := Lib.hid ho
      have HB := Lib.hid hB
      obtain ⟨a1, c1, rfl⟩ := ho.form
      clear ho hB
      by_cases hp : 0 < x
      · obtain ⟨hv, _⟩ := hval.out
        have hlen : out.length < 8 := by
          rcases Nat.lt_or_ge out.length 8 with h | h
          · exact h
          · have h3 : 256 ^ 8 ≤ 256 ^ out.length := Nat.pow_le_pow_right (by decide) h
            have h4 : 256 ^ out.length * 1 ≤ 256 ^ out.length * x := Nat.mul_le_mul_left _ hp
            have h5 : (256 : Nat) ^ 8 = 18446744073709551616 := by decide
            omega
        obtain ⟨r, hr⟩ : ∃ r, x % 256 = r := ⟨_, rfl⟩
        obtain ⟨q, hq⟩ : ∃ q, x / 256 = q := ⟨_, rfl⟩
        have hrl : r < 256 := by omega
        have hx : x = r + 256 * q := by omega
        have HV := Lib.hid (show Pl.le (out ++ [UInt8.ofNat r]) + 256 ^ (out ++ [UInt8.ofNat r]).length * q = A ∧ (q = 0 → Pl.Canon (out ++ [UInt8.ofNat r])) by
          constructor
          · rw [Pl.le_snoc_u8 _ _ hrl, List.length_append, List.length_singleton, Nat.pow_succ, ← hv, hx, Nat.mul_add, Nat.mul_assoc]
            omega
          · intro h0
            apply canon_snoc
            intro e
            have e2 := congrArg UInt8.toNat e
            simp [UInt8.toNat_ofNat'] at e2
            omega)
        have hrI : (x : Int) % 256 = (r : Int) := by omega
        have hqI : (x : Int) / 256 = (q : Int) := by omega
        have hrT : (x : Int).tmod 256 = (r : Int) := by rw [Int.tmod_eq_emod_of_nonneg (by omega)]; omega
        have hqT : (x : Int).tdiv 256 = (q : Int) := by rw [Int.tdiv_eq_ediv_of_nonneg (by omega)]; omega
        have hqx : q < x := by omega
        have hdp : decide (0 < (x : Int)) = true := decide_eq_true (by omega)
        clear hv hval hr hq hx
        go_wp2_with (at_builtin; refine wpList_app rfl (.tmp 13) (.tmp 17) rfl (w.heap.size + 1) _ _ _ rfl HO.out [.int .u8 (r : Int)] rfl (ones (news := [(r : Int)])) (by simp only [List.length_cons, List.length_nil]; omega) (by omega) ?_)
        intro v2 w2 ho2 hg2
        have HO2 := Lib.hid ho2
        have HG2 := Lib.hid hg2
        obtain ⟨a2, c2, rfl⟩ := ho2.form
        clear ho2 hg2
        go_wp2_with fail
        go_roundw
        case rel =>
          refine ⟨q, out ++ [UInt8.ofNat r], by go_num, by omega, by simp; omega, HV, ?_, HG2.out.below HB.out hs (fun g hg => (HO.out.lt g hg).1), Nat.le_trans hs HG2.out.1.size⟩
          have h2 := HO2.out
          rw [bc_app, bc_one hrl, List.length_append]
          exact h2
        case measure => simp [RowKit.intOf]; omega
      · obtain rfl : x = 0 := by omega
        obtain ⟨hv, hcn⟩ := hval.out
        have HD := Lib.hid (show out = Pl.dgs A from Pl.le_inj (hcn rfl) (Pl.canon_dgs A) (by rw [Pl.le_dgs, ← hv]; simp))
        have hres : wr.heap[w.heap.size]? = some (.cells #[.bool false, .string ⟨#[]⟩] 42) := by rw [HB.out.block _ (by omega)]; exact HW2.out
        have r0 : wr.cell? ⟨w.heap.size, 0, none⟩ = some (.bool false) := by simp [World.cell?, hres]
        have r1 : wr.cell? ⟨w.heap.size, 1, none⟩ = some (.string ⟨#[]⟩) := by simp [World.cell?, hres]
        have f0 : wr.frozen? ⟨w.heap.size, 0, none⟩ = false := by simp [World.frozen?, hres]
        have f1 : wr.frozen? ⟨w.heap.size, 1, none⟩ = false := by simp [World.frozen?, hres]
        have hst := run_string_of_rdb (RdB.of_owns HO.out)
        have HBW := Lib.hid (show Below w.heap.size w wr from HW3.out.trans (HB.out.mono (by omega)))
        obtain ⟨S, hS⟩ : ∃ S : ByteArray, (⟨out.toArray⟩ : ByteArray) = S := ⟨_, rfl⟩
        rw [hS] at hst
        have HS := Lib.hid (show bs (Pl.dgs A) = S by rw [← HD.out, ← hS])
        clear hv hcn hval hres hS
        go_wp2_with fail
        obtain ⟨k0, k1, kB⟩ := two_set wr w.heap.size (.bool (decide (n < 0))) (.string S) r0 r1
        rw [hd] at k0 k1 kB
        refine bodyPost_ret (v := .agg #[.bool true, .string S]) (by simp [results, Tryz.results58, go_sem, k0, k1]) rfl ⟨by rw [hd, HS.out], HBW.out.trans kB⟩
  · go_enter Tryz.func58, Tryz.ntmps58
    go_wp2_with fail
    obtain ⟨W0, hW0⟩ : ∃ W0, w.alloc (.cells #[.bool false, .string ⟨#[]⟩] 42) = W0 := ⟨_, rfl⟩
    have hW1 : W0.heap.size = w.heap.size + 1 := by rw [← hW0]; simp
    have HW2 := Lib.hid (show W0.heap[w.heap.size]? = some (.cells #[.bool false, .string ⟨#[]⟩] 42) by rw [← hW0]; exact heap_alloc_at _ _)
    have HW3 := Lib.hid (show Below w.heap.size w W0 by rw [← hW0]; exact (Below.refl _ _).alloc (Nat.le_refl _) _)
    rw [hW0]
    have HSZ := Lib.hid hW1
    clear hW0 hW1
    go_loopw [3, 4] (fun s y wr => ∃ (x : Nat) (out : List UInt8), y = .int .u64 x ∧ x < 18446744073709551616 ∧ out.length ≤ 8 ∧ Hid (Pl.le out + 256 ^ out.length * x = A ∧ (x = 0 → Pl.Canon out)) ∧ Owns wr (w.heap.size + 1) 5 1 s out.length (bc out) ∧ Below (w.heap.size + 1) W0 wr ∧ w.heap.size + 1 ≤ wr.heap.size) (fun _ y _ => (RowKit.intOf y).toNat)
    case atStart => exact ⟨A, [], rfl, hAl, by simp, Lib.hid ⟨by simp [Pl.le], fun _ => by simp [Pl.Canon]⟩, Owns.nil _ _ _ _, Below.refl _ _, by rw [HSZ.out]; omega⟩
    case round =>
      obtain ⟨x, out, rfl, hxl, hol, hval, ho, hB, hs⟩ := hrel
      have HO := Lib.hid ho
      have HB := Lib.hid hB
      obtain ⟨a1, c1, rfl⟩ := ho.form
      clear ho hB
      by_cases hp : 0 < x
      · obtain ⟨hv, _⟩ := hval.out
        have hlen : out.length < 8 := by
          rcases Nat.lt_or_ge out.length 8 with h | h
          · exact h
          · have h3 : 256 ^ 8 ≤ 256 ^ out.length := Nat.pow_le_pow_right (by decide) h
            have h4 : 256 ^ out.length * 1 ≤ 256 ^ out.length * x := Nat.mul_le_mul_left _ hp
            have h5 : (256 : Nat) ^ 8 = 18446744073709551616 := by decide
            omega
        obtain ⟨r, hr⟩ : ∃ r, x % 256 = r := ⟨_, rfl⟩
        obtain ⟨q, hq⟩ : ∃ q, x / 256 = q := ⟨_, rfl⟩
        have hrl : r < 256 := by omega
        have hx : x = r + 256 * q := by omega
        have HV := Lib.hid (show Pl.le (out ++ [UInt8.ofNat r]) + 256 ^ (out ++ [UInt8.ofNat r]).length * q = A ∧ (q = 0 → Pl.Canon (out ++ [UInt8.ofNat r])) by
          constructor
          · rw [Pl.le_snoc_u8 _ _ hrl, List.length_append, List.length_singleton, Nat.pow_succ, ← hv, hx, Nat.mul_add, Nat.mul_assoc]
            omega
          · intro h0
            apply canon_snoc
            intro e
            have e2 := congrArg UInt8.toNat e
            simp [UInt8.toNat_ofNat'] at e2
            omega)
        have hrI : (x : Int) % 256 = (r : Int) := by omega
        have hqI : (x : Int) / 256 = (q : Int) := by omega
        have hrT : (x : Int).tmod 256 = (r : Int) := by rw [Int.tmod_eq_emod_of_nonneg (by omega)]; omega
        have hqT : (x : Int).tdiv 256 = (q : Int) := by rw [Int.tdiv_eq_ediv_of_nonneg (by omega)]; omega
        have hqx : q < x := by omega
        have hdp : decide (0 < (x : Int)) = true := decide_eq_true (by omega)
        clear hv hval hr hq hx
        go_wp2_with (at_builtin; refine wpList_app rfl (.tmp 13) (.tmp 17) rfl (w.heap.size + 1) _ _ _ rfl HO.out [.int .u8 (r : Int)] rfl (ones (news := [(r : Int)])) (by simp only [List.length_cons, List.length_nil]; omega) (by omega) ?_)
        intro v2 w2 ho2 hg2
        have HO2 := Lib.hid ho2
        have HG2 := Lib.hid hg2
        obtain ⟨a2, c2, rfl⟩ := ho2.form
        clear ho2 hg2
        go_wp2_with fail
        go_roundw
        case rel =>
          refine ⟨q, out ++ [UInt8.ofNat r], by go_num, by omega, by simp; omega, HV, ?_, HG2.out.below HB.out hs (fun g hg => (HO.out.lt g hg).1), Nat.le_trans hs HG2.out.1.size⟩
          have h2 := HO2.out
          rw [bc_app, bc_one hrl, List.length_append]
          exact h2
        case measure => simp [RowKit.intOf]; omega
      · obtain rfl : x = 0 := by omega
        obtain ⟨hv, hcn⟩ := hval.out
        have HD := Lib.hid (show out = Pl.dgs A from Pl.le_inj (hcn rfl) (Pl.canon_dgs A) (by rw [Pl.le_dgs, ← hv]; simp))
        have hres : wr.heap[w.heap.size]? = some (.cells #[.bool false, .string ⟨#[]⟩] 42) := by rw [HB.out.block _ (by omega)]; exact HW2.out
        have r0 : wr.cell? ⟨w.heap.size, 0, none⟩ = some (.bool false) := by simp [World.cell?, hres]
        have r1 : wr.cell? ⟨w.heap.size, 1, none⟩ = some (.string ⟨#[]⟩) := by simp [World.cell?, hres]
        have f0 : wr.frozen? ⟨w.heap.size, 0, none⟩ = false := by simp [World.frozen?, hres]
        have f1 : wr.frozen? ⟨w.heap.size, 1, none⟩ = false := by simp [World.frozen?, hres]
        have hst := run_string_of_rdb (RdB.of_owns HO.out)
        have HBW := Lib.hid (show Below w.heap.size w wr from HW3.out.trans (HB.out.mono (by omega)))
        obtain ⟨S, hS⟩ : ∃ S : ByteArray, (⟨out.toArray⟩ : ByteArray) = S := ⟨_, rfl⟩
        rw [hS] at hst
        have HS := Lib.hid (show bs (Pl.dgs A) = S by rw [← HD.out, ← hS])
        clear hv hcn hval hres hS
        go_wp2_with fail
        obtain ⟨k0, k1, kB⟩ := two_set wr w.heap.size (.bool (decide (n < 0))) (.string S) r0 r1
        rw [hd] at k0 k1 kB
        refine bodyPost_ret (v := .agg #[.bool false, .string S]) (by simp [results, Tryz.results58, go_sem, k0, k1]) rfl ⟨by rw [hd, HS.out], HBW.out.trans kB⟩
end Go.Proofs.YtgdohmaljbggjaaGreatDoor
namespace Go.Proofs.YtgdohmaljbggjaaGreatDoor
namespace Pl
theorem nb_lt_iff (V k : Nat) : V < 2 ^ k ↔ nb V ≤ k := by
  unfold nb
  by_cases h : V = 0
  · subst h; rw [if_pos rfl]; simp [Nat.two_pow_pos]
  · rw [if_neg h, ← Nat.log2_lt h]; omega
theorem nb_mono {a b : Nat} (h : a ≤ b) : nb a ≤ nb b := (nb_lt_iff a (nb b)).1 (Nat.lt_of_le_of_lt h (nb_lt b))
theorem nb_mul (a b : Nat) : nb (a * b) ≤ nb a + nb b := by
  rw [← nb_lt_iff, Nat.pow_add]
  exact Nat.mul_lt_mul'' (nb_lt a) (nb_lt b)
theorem nb_shift (a k : Nat) : nb (a * 2 ^ k) ≤ nb a + k := by
  rw [← nb_lt_iff, Nat.pow_add]
  exact Nat.mul_lt_mul_of_pos_right (nb_lt a) (Nat.two_pow_pos k)
theorem nb_add (a b : Nat) : nb (a + b) ≤ max (nb a) (nb b) + 1 := by
  rw [← nb_lt_iff, Nat.pow_succ]
  have h1 : a < 2 ^ (max (nb a) (nb b)) := (nb_lt_iff _ _).2 (by omega)
  have h2 : b < 2 ^ (max (nb a) (nb b)) := (nb_lt_iff _ _).2 (by omega)
  omega
theorem nb_pos {a : Nat} (h : a ≠ 0) : 0 < nb a := by unfold nb; rw [if_neg h]; omega
theorem nb_good {V : Nat} (h : nb V ≤ 32000) : V < 256 ^ 4096 := by
  obtain ⟨b, hb⟩ : ∃ b, b = 4096 := ⟨_, rfl⟩
  rw [← hb, show (256 : Nat) = 2 ^ 8 from rfl, ← Nat.pow_mul, nb_lt_iff]
  omega
theorem nb_sub (a b : Nat) : nb (a - b) ≤ nb a := nb_mono (Nat.sub_le _ _)
end Pl
namespace Fl
open Ieee
/-- The numbers that Round divides at a power e. -/
def top (p : Nat) (e : Int) : Nat := p * 2 ^ (-e).toNat
def bot (q : Nat) (e : Int) : Nat := q * 2 ^ e.toNat
theorem top_bot (p q : Nat) {e : Int} (he : -1074 ≤ e) : ∃ c, 0 < c ∧ p * 2 ^ E74 = top p e * c ∧ q * 2 ^ (e + 1074).toNat = bot q e * c := by
  have hE := E74_is
  refine ⟨2 ^ (min e 0 + 1074).toNat, Nat.two_pow_pos _, ?_, ?_⟩
  · unfold top; rw [Nat.mul_assoc, ← Nat.pow_add]; congr 2; omega
  · unfold bot; rw [Nat.mul_assoc, ← Nat.pow_add]; congr 2; omega
theorem quo_at (p q : Nat) {e : Int} (he : -1074 ≤ e) : p * 2 ^ E74 / (q * 2 ^ (e + 1074).toNat) = top p e / bot q e := by
  obtain ⟨c, hc, h1, h2⟩ := top_bot p q he
  rw [h1, h2, Nat.mul_div_mul_right _ _ hc]
theorem rhe_at (p q : Nat) {e : Int} (he : -1074 ≤ e) : rhe (p * 2 ^ E74) (q * 2 ^ (e + 1074).toNat) = rhe (top p e) (bot q e) := by
  obtain ⟨c, hc, h1, h2⟩ := top_bot p q he
  rw [h1, h2, rhe_scale _ _ hc]
/-- Where the digits are full. -/
def Full (p q : Nat) (e : Int) : Prop := e = -1074 ∨ 4503599627370496 ≤ top p e / bot q e
theorem full_start {p q : Nat} (hp : p ≠ 0) (hq : q ≠ 0) : Full p q (max ((Pl.nb p : Int) - Pl.nb q - 53) (-1074)) := by
  obtain ⟨e, he⟩ : ∃ e : Int, max ((Pl.nb p : Int) - Pl.nb q - 53) (-1074) = e := ⟨_, rfl⟩
  rw [he]
  by_cases h : e = -1074
  · exact .inl h
  · right
    have hb : 0 < bot q e := Nat.mul_pos (by omega) (Nat.two_pow_pos _)
    rw [Nat.le_div_iff_mul_le hb]
    have h1 := nb_ge hp
    have h2 := nb_lt q
    have hn := Pl.nb_pos hp
    have h3 : bot q e ≤ 2 ^ Pl.nb q * 2 ^ e.toNat := Nat.mul_le_mul_right _ (Nat.le_of_lt h2)
    have h4 : 2 ^ (Pl.nb p - 1) * 2 ^ (-e).toNat ≤ top p e := Nat.mul_le_mul_right _ h1
    refine Nat.le_trans (Nat.mul_le_mul_left _ h3) (Nat.le_trans ?_ h4)
    rw [show (4503599627370496 : Nat) = 2 ^ 52 from rfl, ← Nat.pow_add, ← Nat.pow_add, ← Nat.pow_add]
    exact Nat.pow_le_pow_right (by decide) (by omega)
theorem full_step {p q : Nat} {e : Int} (he : -1074 ≤ e) (hb : 53 < Pl.nb (top p e / bot q e)) : Full p q (e + 1) := by
  right
  rw [← quo_at p q (e := e + 1) (by omega), show (e + 1 + 1074).toNat = (e + 1074).toNat + 1 by omega, Nat.pow_succ, ← Nat.mul_assoc, ← Nat.div_div_eq_div_mul, quo_at p q he]
  have : ¬ (top p e / bot q e < 2 ^ 53) := by rw [Pl.nb_lt_iff]; omega
  have h3 : (2 : Nat) ^ 53 = 9007199254740992 := by decide
  omega
theorem power_bound {p q : Nat} {e : Int} {N : Nat} (hp : Pl.nb p ≤ N) (hq : q ≠ 0) (h : 53 < Pl.nb (top p e / bot q e)) : e < N := by
  rcases Int.lt_or_le e N with h1 | h1
  · exact h1
  · exfalso
    have h2 : (-e).toNat = 0 := by omega
    have h3 : top p e = p := by unfold top; rw [h2]; simp
    have h4 : p < 2 ^ N := (Pl.nb_lt_iff _ _).2 hp
    have h5 : 2 ^ N ≤ bot q e := by
      unfold bot
      refine Nat.le_trans (Nat.pow_le_pow_right (by decide) (show N ≤ e.toNat by omega)) ?_
      exact Nat.le_mul_of_pos_left _ (by omega)
    have h6 : top p e / bot q e = 0 := by rw [h3]; exact Nat.div_eq_of_lt (by omega)
    rw [h6] at h
    have : Pl.nb 0 = 0 := rfl
    omega
/-- What Round makes of the digits m at a power e. -/
def packed (m : Nat) (e : Int) : Nat :=
  if 971 < (if m = 9007199254740992 then e + 1 else e) then 9218868437227405312
  else if (if m = 9007199254740992 then 4503599627370496 else m) < 4503599627370496 then (if m = 9007199254740992 then 4503599627370496 else m)
  else (if m = 9007199254740992 then 4503599627370496 else m) - 4503599627370496 + ((if m = 9007199254740992 then e + 1 else e) + 1075).toNat * 4503599627370496
theorem rhe_le2 {x y : Nat} (h : x / y < 9007199254740992) : rhe x y ≤ 9007199254740992 ∧ x / y ≤ rhe x y := by
  unfold rhe
  have : (decide (y < 2 * (x % y)) || (y == 2 * (x % y) && x / y % 2 == 1)).toNat ≤ 1 := Bool.toNat_le _
  omega
theorem round_is {p q : Nat} {e : Int} (he : -1074 ≤ e) (hf : Full p q e) (hb : Pl.nb (top p e / bot q e) ≤ 53) : rung (p * 2 ^ E74) q = packed (rhe (top p e) (bot q e)) e := by
  have h3 : (2 : Nat) ^ 53 = 9007199254740992 := by decide
  have hn : top p e / bot q e < 9007199254740992 := by rw [← h3, Pl.nb_lt_iff]; exact hb
  have hE : (p * 2 ^ E74 / q).log2 - 52 = (e + 1074).toNat := by
    have h1 := quo_at p q he
    rw [← Nat.div_div_eq_div_mul] at h1
    rcases hf with h | h
    · subst h
      rw [show ((-1074 : Int) + 1074).toNat = 0 by decide, Nat.pow_zero, Nat.div_one] at h1
      rw [show ((-1074 : Int) + 1074).toNat = 0 by decide, h1]
      by_cases h0 : top p (-1074) / bot q (-1074) = 0
      · rw [h0]; decide
      · have := (Nat.log2_lt h0).2 (show _ < 2 ^ 53 by rw [h3]; exact hn)
        omega
    · have h5 := log2_div_pow (p * 2 ^ E74 / q) (e + 1074).toNat
      rw [h1, log2_between (l := 52) (by simpa using h) (by simpa using hn)] at h5
      omega
  unfold rung
  rw [hE, rhe_at p q he]
  obtain ⟨k1, k2⟩ := rhe_le2 hn
  have k3 : e = -1074 ∨ 4503599627370496 ≤ rhe (top p e) (bot q e) := by
    rcases hf with h | h
    · exact .inl h
    · exact .inr (Nat.le_trans h k2)
  generalize rhe (top p e) (bot q e) = m at *
  clear hE hf hb hn k2 h3
  unfold packed
  by_cases hm : m = 9007199254740992
  · subst hm
    simp only [if_true]
    split
    · omega
    · rw [if_neg (by omega)]; omega
  · simp only [hm, if_false]
    split
    · omega
    · split <;> omega
end Fl
end Go.Proofs.YtgdohmaljbggjaaGreatDoor
namespace Go.Proofs.YtgdohmaljbggjaaGreatDoor
open Go.RowKit Go.Lib
theorem lof_is (n : Int) : lof n = .agg #[.bool (decide (n < 0)), .string (bs (Pl.dgs n.natAbs))] := rfl
theorem good_int {x : Int} (h : Pl.nb x.natAbs ≤ 30000) : Good9 (decide (x < 0)) x.natAbs := ⟨Pl.nb_good (by omega), fun h => by have := of_decide_eq_true h; omega⟩
theorem lof_mk {n : Int} {neg : Bool} {V : Nat} (h : n = if neg then -(V : Int) else V) : lv (neg && !decide (V = 0)) (Pl.dgs V) = lof n := by
  have hV : V = n.natAbs := by split at h <;> omega
  unfold lof
  rw [← hV]
  congr 1
  cases neg
  · rw [if_neg (by simp)] at h
    rw [show decide (n < 0) = false from decide_eq_false (by omega)]; rfl
  · rw [if_pos rfl] at h
    rw [Bool.true_and, Bool.eq_iff_iff]
    simp
    omega
set_option maxRecDepth 4000 in
set_option maxHeartbeats 8000000 in
theorem raddi_any (x y : Int) (w : World) (hx : Pl.nb x.natAbs ≤ 20000) (hy : Pl.nb y.natAbs ≤ 20000) :
    Calls Tryz.prog 122 #[lof x, lof y] w fun e w' => e = .returned (.tuple #[lof (x + y), .int .i64 0]) ∧ Below w.heap.size w w' := by
  have hla := Pl.dgs_len (Pl.nb_good (V := x.natAbs) (by omega))
  have hlb := Pl.dgs_len (Pl.nb_good (V := y.natAbs) (by omega))
  obtain ⟨F, vF, hconv, hF⟩ := conv_bytes (Pl.dgs x.natAbs) (by omega)
  obtain ⟨G, vG, hconv2, hG⟩ := conv_bytes (Pl.dgs y.natAbs) (by omega)
  have HFF := Lib.hid hF
  have HGG := Lib.hid hG
  have HPL := Lib.hid (fun va vb W (ha : RdB W va (Pl.dgs x.natAbs)) (hb : RdB W vb (Pl.dgs y.natAbs)) => rplus_any va vb _ _ W ha hb (by omega) (by omega))
  have HCM := Lib.hid (fun va vb W (ha : RdB W va (Pl.dgs x.natAbs)) (hb : RdB W vb (Pl.dgs y.natAbs)) => rcmp_any va vb _ _ W ha hb (by omega) (by omega))
  have HMX := Lib.hid (fun (h : y.natAbs ≤ x.natAbs) va vb W (ha : RdB W va (Pl.dgs x.natAbs)) (hb : RdB W vb (Pl.dgs y.natAbs)) => rminus_any va vb _ _ W ha hb (by omega) (by rw [Pl.le_dgs, Pl.le_dgs]; exact h))
  have HMY := Lib.hid (fun (h : x.natAbs ≤ y.natAbs) va vb W (hb : RdB W vb (Pl.dgs y.natAbs)) (ha : RdB W va (Pl.dgs x.natAbs)) => rminus_any vb va _ _ W hb ha (by omega) (by rw [Pl.le_dgs, Pl.le_dgs]; exact h))
  rw [Pl.le_dgs, Pl.le_dgs] at HPL HCM HMX HMY
  have HMA : Hid (∀ (neg : Bool) (V : Nat) (_ : x + y = if neg then -(V : Int) else V) (_ : Pl.nb V ≤ 30000) v W (_ : RdB W v (Pl.dgs V)), Calls Tryz.prog 119 #[v, .bool neg] W fun e w' => e = .returned (.tuple #[lof (x + y), .int .i64 0]) ∧ Below W.heap.size W w') := Lib.hid (by
    intro neg V hs hn v W hv
    have h := rmade_any v _ neg W hv (by have := Pl.dgs_len (Pl.nb_good (V := V) (by omega)); omega) (by rw [Pl.le_dgs]; exact Pl.nb_good (by omega))
    rw [Pl.le_dgs, lof_mk hs] at h
    exact h)
  have HCASE := Lib.hid (show (decide (x < 0) == decide (y < 0)) = true ∧ (x + y = if decide (x < 0) then -((x.natAbs + y.natAbs : Nat) : Int) else (x.natAbs + y.natAbs : Nat)) ∨ (decide (x < 0) == decide (y < 0)) = false ∧ (y.natAbs ≤ x.natAbs ∧ decide (0 ≤ Pl.ord x.natAbs y.natAbs) = true ∧ (x + y = if decide (x < 0) then -((x.natAbs - y.natAbs : Nat) : Int) else (x.natAbs - y.natAbs : Nat)) ∨ x.natAbs ≤ y.natAbs ∧ decide (0 ≤ Pl.ord x.natAbs y.natAbs) = false ∧ (x + y = if decide (y < 0) then -((y.natAbs - x.natAbs : Nat) : Int) else (y.natAbs - x.natAbs : Nat))) by
    have o1 : ∀ X Y : Nat, X < Y → decide (0 ≤ Pl.ord X Y) = false := fun X Y h => by unfold Pl.ord; rw [if_pos h]; rfl
    have o2 : ∀ X Y : Nat, Y ≤ X → decide (0 ≤ Pl.ord X Y) = true := fun X Y h => by unfold Pl.ord; rw [if_neg (by omega)]; split <;> rfl
    clear hla hlb hx hy
    by_cases h1 : x < 0 <;> by_cases h2 : y < 0
    · left; simp only [h1, h2, decide_true, if_true]; exact ⟨rfl, by omega⟩
    · right; simp only [h1, h2, decide_true, decide_false, Bool.false_eq_true, if_true, if_false]
      refine ⟨rfl, ?_⟩
      rcases Nat.lt_or_ge x.natAbs y.natAbs with h | h
      · exact .inr ⟨by omega, o1 _ _ h, by omega⟩
      · exact .inl ⟨h, o2 _ _ h, by omega⟩
    · right; simp only [h1, h2, decide_true, decide_false, Bool.false_eq_true, if_true, if_false]
      refine ⟨rfl, ?_⟩
      rcases Nat.lt_or_ge x.natAbs y.natAbs with h | h
      · exact .inr ⟨by omega, o1 _ _ h, by omega⟩
      · exact .inl ⟨h, o2 _ _ h, by omega⟩
    · left; simp only [h1, h2, decide_false, Bool.false_eq_true, if_false]; exact ⟨rfl, by omega⟩)
  have HB1 := Pl.nb_add x.natAbs y.natAbs
  have HB2 := Pl.nb_sub x.natAbs y.natAbs
  have HB3 := Pl.nb_sub y.natAbs x.natAbs
  simp only [lof_is]
  simp only [lof_is] at HMA
  generalize x.natAbs = X at *
  generalize y.natAbs = Y at *
  generalize (x + y).natAbs = Z at *
  generalize bs (Pl.dgs X) = sa at *
  generalize bs (Pl.dgs Y) = sb at *
  generalize bs (Pl.dgs Z) = s2 at *
  obtain ⟨n2, hn2⟩ : ∃ n2, decide (x + y < 0) = n2 := ⟨_, rfl⟩
  rw [hn2] at HMA ⊢
  obtain ⟨na, hna⟩ : ∃ n2, decide (x < 0) = n2 := ⟨_, rfl⟩
  obtain ⟨nb, hnb⟩ : ∃ n2, decide (y < 0) = n2 := ⟨_, rfl⟩
  rw [hna, hnb] at HCASE ⊢
  clear hn2 hna hnb hla hlb hF hG
  rcases HCASE.out with ⟨b0, hz⟩ | ⟨b0, ⟨hle, b1, hz⟩ | ⟨hle, b1, hz⟩⟩
  · have HM := Lib.hid (HMA.out na _ hz (by omega))
    clear hz HB1 HB2 HB3 HMA HCASE hx hy HMX HMY HCM
    have HF := Lib.hid (Tri.new w na sa nb sb)
    have HF1 := Lib.hid (HF.out.below (HFF.out _).2)
    have HF2 := Lib.hid (HF1.out.below (HGG.out _).2)
    obtain ⟨_, _, _, q3, _, _, _, _⟩ := HF1.out.cells
    obtain ⟨q4, _, q5, _, _, _, _, _⟩ := HF2.out.cells
    go_enter Tryz.func122, Tryz.ntmps122
    go_wp2_with fail
    generalize ((w.alloc (.cells #[.bool na, .string sa] 42)).alloc (.cells #[.bool nb, .string sb] 42)).alloc (.cells #[.bool false, .string ⟨#[]⟩] 42) = W0 at HF HF1 HF2 q3 q4 q5 ⊢
    have HX : Hid (RdB (G (F W0)) (vF W0) (Pl.dgs X)) := Lib.hid ((HFF.out W0).1.below (HGG.out (F W0)).2)
    have HY : Hid (RdB (G (F W0)) (vG (F W0)) (Pl.dgs Y)) := Lib.hid (HGG.out (F W0)).1
    generalize hW1 : G (F W0) = W1 at *
    generalize vF W0 = vx at *
    generalize vG (F W0) = vy at *
    clear hW1 q3 q4 q5 HF1
    have HW1 := Lib.hid HF2.out.low
    have HWS := Lib.hid (show w.heap.size ≤ W1.heap.size by have := HF2.out.size; omega)
    obtain ⟨ax, cx, rfl⟩ := HX.out.form
    obtain ⟨ay, cy, rfl⟩ := HY.out.form
    have HK := Lib.hid (fun (W : World) (hb : Below W1.heap.size W1 W) => (HF2.out.below hb).cells)
    obtain ⟨p0, p1, p2, p3, r0, r1, f0, f1⟩ := HF2.out.cells
    have BD := Lib.hid (show Below W1.heap.size W1 W1.drew from (Below.refl _ _).drew)
    have HKQ := Lib.hid (fun (W : World) (hb : Below W1.heap.size W1 W) => show W.cell? ⟨w.heap.size, 0, none⟩ = some (.bool na) ∧ W.cell? ⟨w.heap.size, 1, none⟩ = some (.string sa) ∧ W.cell? ⟨w.heap.size + 1, 0, none⟩ = some (.bool nb) ∧ W.cell? ⟨w.heap.size + 1, 1, none⟩ = some (.string sb) from ⟨(HK.out W hb).1, (HK.out W hb).2.1, (HK.out W hb).2.2.1, (HK.out W hb).2.2.2.1⟩)
    go_wp2_with fail
    go_region_held (fun W => W.cell? ⟨w.heap.size, 0, none⟩ = some (.bool na) ∧ W.cell? ⟨w.heap.size, 1, none⟩ = some (.string sa) ∧ W.cell? ⟨w.heap.size + 1, 0, none⟩ = some (.bool nb) ∧ W.cell? ⟨w.heap.size + 1, 1, none⟩ = some (.string sb)) (first | exact ⟨p0, p1, p2, p3⟩ | exact HKQ.out _ BD.out | exact HKQ.out _ hB4 | exact HKQ.out _ hB5 | (refine ⟨?_, ?_, ?_, ?_⟩ <;> simp [World.cell?_setCell_other, *])) (first
      | (go_at_call 153; refine (HPL.out _ _ _ (by first | exact HX.out.below BD.out | exact HX.out) (by first | exact HY.out.below BD.out | exact HY.out)).mono ?_; rintro e w4 ⟨v4, rfl, hv4, hb4⟩; have hB4 : Below W1.heap.size W1 w4 := (by first | exact BD.out.trans (hb4.mono BD.out.size) | exact hb4); obtain ⟨a4, c4, rfl⟩ := hv4.form; have HV4 := Lib.hid hv4; clear hv4 hb4)
      | (go_at_call 119; refine (HM.out _ _ HV4.out).mono ?_; rintro e w5 ⟨rfl, hb5⟩; have hB5 : Below W1.heap.size W1 w5 := hB4.trans (hb5.mono hB4.size); obtain ⟨_, _, _, _, k52, k53, k54, k55⟩ := HK.out w5 hB5; clear hb5))
    all_goals
      obtain ⟨k0, k1, kB⟩ := two_set w5 (w.heap.size + 2) (.bool n2) (.string s2) k52 k53
      have kB' := Lib.hid (show Below w.heap.size w _ from (HW1.out.trans (hB5.mono HWS.out)).trans (kB.mono (by omega)))
      clear kB
      generalize (w5.setCell ⟨w.heap.size + 2, 0, none⟩ (.bool n2)).setCell ⟨w.heap.size + 2, 1, none⟩ (.string s2) = w6 at k0 k1 kB' ⊢
      go_wp2_with fail
      exact bodyPost_ret (v := .tuple #[.agg #[.bool n2, .string s2], .int .i64 0]) (by simp [results, Tryz.results122, go_sem, k0, k1]) rfl ⟨rfl, kB'.out⟩
  · have HM := Lib.hid (HMA.out na _ hz (by omega))
    have HMI := Lib.hid (HMX.out hle)
    clear hz HB1 HB2 HB3 HMA HCASE hx hy hle HMX HMY HPL
    have HF := Lib.hid (Tri.new w na sa nb sb)
    have HF1 := Lib.hid (HF.out.below (HFF.out _).2)
    have HF2 := Lib.hid (HF1.out.below (HGG.out _).2)
    obtain ⟨_, _, _, q3, _, _, _, _⟩ := HF1.out.cells
    obtain ⟨q4, _, q5, _, _, _, _, _⟩ := HF2.out.cells
    go_enter Tryz.func122, Tryz.ntmps122
    go_wp2_with fail
    generalize ((w.alloc (.cells #[.bool na, .string sa] 42)).alloc (.cells #[.bool nb, .string sb] 42)).alloc (.cells #[.bool false, .string ⟨#[]⟩] 42) = W0 at HF HF1 HF2 q3 q4 q5 ⊢
    have HX : Hid (RdB (G (F W0)) (vF W0) (Pl.dgs X)) := Lib.hid ((HFF.out W0).1.below (HGG.out (F W0)).2)
    have HY : Hid (RdB (G (F W0)) (vG (F W0)) (Pl.dgs Y)) := Lib.hid (HGG.out (F W0)).1
    generalize hW1 : G (F W0) = W1 at *
    generalize vF W0 = vx at *
    generalize vG (F W0) = vy at *
    clear hW1 q3 q4 q5 HF1
    have HW1 := Lib.hid HF2.out.low
    have HWS := Lib.hid (show w.heap.size ≤ W1.heap.size by have := HF2.out.size; omega)
    obtain ⟨ax, cx, rfl⟩ := HX.out.form
    obtain ⟨ay, cy, rfl⟩ := HY.out.form
    have HK := Lib.hid (fun (W : World) (hb : Below W1.heap.size W1 W) => (HF2.out.below hb).cells)
    obtain ⟨p0, p1, p2, p3, r0, r1, f0, f1⟩ := HF2.out.cells
    have BD := Lib.hid (show Below W1.heap.size W1 W1.drew from (Below.refl _ _).drew)
    have HKQ := Lib.hid (fun (W : World) (hb : Below W1.heap.size W1 W) => show W.cell? ⟨w.heap.size, 0, none⟩ = some (.bool na) ∧ W.cell? ⟨w.heap.size, 1, none⟩ = some (.string sa) ∧ W.cell? ⟨w.heap.size + 1, 0, none⟩ = some (.bool nb) ∧ W.cell? ⟨w.heap.size + 1, 1, none⟩ = some (.string sb) from ⟨(HK.out W hb).1, (HK.out W hb).2.1, (HK.out W hb).2.2.1, (HK.out W hb).2.2.2.1⟩)
    go_wp2_with fail
    refine (HCM.out _ _ _ HX.out HY.out).mono ?_
    rintro e w4 ⟨rfl, rfl⟩
    go_wp2_with fail
    go_region_held (fun W => W.cell? ⟨w.heap.size, 0, none⟩ = some (.bool na) ∧ W.cell? ⟨w.heap.size, 1, none⟩ = some (.string sa) ∧ W.cell? ⟨w.heap.size + 1, 0, none⟩ = some (.bool nb) ∧ W.cell? ⟨w.heap.size + 1, 1, none⟩ = some (.string sb)) (first | exact ⟨p0, p1, p2, p3⟩ | exact HKQ.out _ BD.out | exact HKQ.out _ hB4 | exact HKQ.out _ hB5 | (refine ⟨?_, ?_, ?_, ?_⟩ <;> simp [World.cell?_setCell_other, *])) (first
      | (go_at_call 155; refine (HMI.out _ _ _ (by first | exact HX.out.below BD.out | exact HX.out) (by first | exact HY.out.below BD.out | exact HY.out)).mono ?_; rintro e w4 ⟨v4, rfl, hv4, hb4⟩; have hB4 : Below W1.heap.size W1 w4 := (by first | exact BD.out.trans (hb4.mono BD.out.size) | exact hb4); obtain ⟨a4, c4, rfl⟩ := hv4.form; have HV4 := Lib.hid hv4; clear hv4 hb4)
      | (go_at_call 119; refine (HM.out _ _ HV4.out).mono ?_; rintro e w5 ⟨rfl, hb5⟩; have hB5 : Below W1.heap.size W1 w5 := hB4.trans (hb5.mono hB4.size); obtain ⟨_, _, _, _, k52, k53, k54, k55⟩ := HK.out w5 hB5; clear hb5))
    all_goals
      obtain ⟨k0, k1, kB⟩ := two_set w5 (w.heap.size + 2) (.bool n2) (.string s2) k52 k53
      have kB' := Lib.hid (show Below w.heap.size w _ from (HW1.out.trans (hB5.mono HWS.out)).trans (kB.mono (by omega)))
      clear kB
      generalize (w5.setCell ⟨w.heap.size + 2, 0, none⟩ (.bool n2)).setCell ⟨w.heap.size + 2, 1, none⟩ (.string s2) = w6 at k0 k1 kB' ⊢
      go_wp2_with fail
      exact bodyPost_ret (v := .tuple #[.agg #[.bool n2, .string s2], .int .i64 0]) (by simp [results, Tryz.results122, go_sem, k0, k1]) rfl ⟨rfl, kB'.out⟩
  · have HM := Lib.hid (HMA.out nb _ hz (by omega))
    have HMI := Lib.hid (HMY.out hle)
    clear hz HB1 HB2 HB3 HMA HCASE hx hy hle HMX HMY HPL
    have HF := Lib.hid (Tri.new w na sa nb sb)
    have HF1 := Lib.hid (HF.out.below (HFF.out _).2)
    have HF2 := Lib.hid (HF1.out.below (HGG.out _).2)
    obtain ⟨_, _, _, q3, _, _, _, _⟩ := HF1.out.cells
    obtain ⟨q4, _, q5, _, _, _, _, _⟩ := HF2.out.cells
    go_enter Tryz.func122, Tryz.ntmps122
    go_wp2_with fail
    generalize ((w.alloc (.cells #[.bool na, .string sa] 42)).alloc (.cells #[.bool nb, .string sb] 42)).alloc (.cells #[.bool false, .string ⟨#[]⟩] 42) = W0 at HF HF1 HF2 q3 q4 q5 ⊢
    have HX : Hid (RdB (G (F W0)) (vF W0) (Pl.dgs X)) := Lib.hid ((HFF.out W0).1.below (HGG.out (F W0)).2)
    have HY : Hid (RdB (G (F W0)) (vG (F W0)) (Pl.dgs Y)) := Lib.hid (HGG.out (F W0)).1
    generalize hW1 : G (F W0) = W1 at *
    generalize vF W0 = vx at *
    generalize vG (F W0) = vy at *
    clear hW1 q3 q4 q5 HF1
    have HW1 := Lib.hid HF2.out.low
    have HWS := Lib.hid (show w.heap.size ≤ W1.heap.size by have := HF2.out.size; omega)
    obtain ⟨ax, cx, rfl⟩ := HX.out.form
    obtain ⟨ay, cy, rfl⟩ := HY.out.form
    have HK := Lib.hid (fun (W : World) (hb : Below W1.heap.size W1 W) => (HF2.out.below hb).cells)
    obtain ⟨p0, p1, p2, p3, r0, r1, f0, f1⟩ := HF2.out.cells
    have BD := Lib.hid (show Below W1.heap.size W1 W1.drew from (Below.refl _ _).drew)
    have HKQ := Lib.hid (fun (W : World) (hb : Below W1.heap.size W1 W) => show W.cell? ⟨w.heap.size, 0, none⟩ = some (.bool na) ∧ W.cell? ⟨w.heap.size, 1, none⟩ = some (.string sa) ∧ W.cell? ⟨w.heap.size + 1, 0, none⟩ = some (.bool nb) ∧ W.cell? ⟨w.heap.size + 1, 1, none⟩ = some (.string sb) from ⟨(HK.out W hb).1, (HK.out W hb).2.1, (HK.out W hb).2.2.1, (HK.out W hb).2.2.2.1⟩)
    go_wp2_with fail
    refine (HCM.out _ _ _ HX.out HY.out).mono ?_
    rintro e w4 ⟨rfl, rfl⟩
    go_wp2_with fail
    go_region_held (fun W => W.cell? ⟨w.heap.size, 0, none⟩ = some (.bool na) ∧ W.cell? ⟨w.heap.size, 1, none⟩ = some (.string sa) ∧ W.cell? ⟨w.heap.size + 1, 0, none⟩ = some (.bool nb) ∧ W.cell? ⟨w.heap.size + 1, 1, none⟩ = some (.string sb)) (first | exact ⟨p0, p1, p2, p3⟩ | exact HKQ.out _ BD.out | exact HKQ.out _ hB4 | exact HKQ.out _ hB5 | (refine ⟨?_, ?_, ?_, ?_⟩ <;> simp [World.cell?_setCell_other, *])) (first
      | (go_at_call 155; refine (HMI.out _ _ _ (by first | exact HY.out.below BD.out | exact HY.out) (by first | exact HX.out.below BD.out | exact HX.out)).mono ?_; rintro e w4 ⟨v4, rfl, hv4, hb4⟩; have hB4 : Below W1.heap.size W1 w4 := (by first | exact BD.out.trans (hb4.mono BD.out.size) | exact hb4); obtain ⟨a4, c4, rfl⟩ := hv4.form; have HV4 := Lib.hid hv4; clear hv4 hb4)
      | (go_at_call 119; refine (HM.out _ _ HV4.out).mono ?_; rintro e w5 ⟨rfl, hb5⟩; have hB5 : Below W1.heap.size W1 w5 := hB4.trans (hb5.mono hB4.size); obtain ⟨_, _, _, _, k52, k53, k54, k55⟩ := HK.out w5 hB5; clear hb5))
    all_goals
      obtain ⟨k0, k1, kB⟩ := two_set w5 (w.heap.size + 2) (.bool n2) (.string s2) k52 k53
      have kB' := Lib.hid (show Below w.heap.size w _ from (HW1.out.trans (hB5.mono HWS.out)).trans (kB.mono (by omega)))
      clear kB
      generalize (w5.setCell ⟨w.heap.size + 2, 0, none⟩ (.bool n2)).setCell ⟨w.heap.size + 2, 1, none⟩ (.string s2) = w6 at k0 k1 kB' ⊢
      go_wp2_with fail
      exact bodyPost_ret (v := .tuple #[.agg #[.bool n2, .string s2], .int .i64 0]) (by simp [results, Tryz.results122, go_sem, k0, k1]) rfl ⟨rfl, kB'.out⟩
end Go.Proofs.YtgdohmaljbggjaaGreatDoor
namespace Go.Proofs.YtgdohmaljbggjaaGreatDoor
open Go.RowKit Go.Lib
/-- A block that holds a large number. -/
def Lg (W : World) (k : Nat) (neg : Bool) (s : ByteArray) : Prop := W.heap[k]? = some (.cells #[.bool neg, .string s] 42)
theorem Lg.new (w : World) (neg : Bool) (s : ByteArray) : Lg (w.alloc (.cells #[.bool neg, .string s] 42)) w.heap.size neg s := heap_alloc_at _ _
theorem Lg.lt {W : World} {k : Nat} {neg : Bool} {s : ByteArray} (h : Lg W k neg s) : k < W.heap.size := (Array.getElem?_eq_some_iff.1 h).1
theorem Lg.below {W W' : World} {k : Nat} {neg : Bool} {s : ByteArray} (h : Lg W k neg s) (hb : Below W.heap.size W W') : Lg W' k neg s := by
  unfold Lg; rw [hb.block _ h.lt]; exact h
theorem Lg.alloc {W : World} {k : Nat} {neg : Bool} {s : ByteArray} (h : Lg W k neg s) (o : Obj) : Lg (W.alloc o) k neg s := h.below ((Below.refl _ _).alloc (Nat.le_refl _) _)
theorem Lg.cells {W : World} {k : Nat} {neg : Bool} {s : ByteArray} (h : Lg W k neg s) : W.cell? ⟨k, 0, none⟩ = some (.bool neg) ∧ W.cell? ⟨k, 1, none⟩ = some (.string s) ∧ W.frozen? ⟨k, 0, none⟩ = false ∧ W.frozen? ⟨k, 1, none⟩ = false := by
  unfold Lg at h
  refine ⟨?_, ?_, ?_, ?_⟩
  · simp [World.cell?, h]
  · simp [World.cell?, h]
  · simp [World.frozen?, h]
  · simp [World.frozen?, h]
/-- Written whole. -/
theorem Lg.set {W : World} {k : Nat} {neg : Bool} {s : ByteArray} (h : Lg W k neg s) (n2 : Bool) (s2 : ByteArray) : Lg ((W.setCell ⟨k, 0, none⟩ (.bool n2)).setCell ⟨k, 1, none⟩ (.string s2)) k n2 s2 := by
  unfold Lg at *
  simp only [World.setCell, Array.getElem?_modify, if_pos, h]
  rfl
theorem Lg.other {W : World} {k j i : Nat} {neg : Bool} {s : ByteArray} {x : Value} (h : Lg W k neg s) (hne : j ≠ k) : Lg (W.setCell ⟨j, i, none⟩ x) k neg s := by
  unfold Lg at *
  simp only [World.setCell, Array.getElem?_modify, if_neg hne]
  exact h
set_option maxRecDepth 4000 in
set_option maxHeartbeats 4000000 in
theorem radd_any (x y : Int) (w : World) (hx : Pl.nb x.natAbs ≤ 20000) (hy : Pl.nb y.natAbs ≤ 20000) :
    Calls Tryz.prog 78 #[lof x, lof y] w fun e w' => e = .returned (.tuple #[lof (x + y), .int .i64 0]) ∧ Below w.heap.size w w' := by
  have HC : Hid (∀ w, Calls Tryz.prog 117 #[lof x, lof y] w fun e w' => e = .returned (.int .i64 0) ∧ Below w.heap.size w w') := Lib.hid (fun w => rboth_any _ _ _ _ w (good_int (by omega)) (good_int (by omega)))
  have HA := Lib.hid (fun w => raddi_any x y w hx hy)
  clear hx hy
  simp only [lof_is] at *
  generalize bs (Pl.dgs x.natAbs) = sa at *
  generalize bs (Pl.dgs y.natAbs) = sb at *
  generalize bs (Pl.dgs (x + y).natAbs) = s2 at *
  generalize decide (x < 0) = na at *
  generalize decide (y < 0) = nb at *
  generalize decide (x + y < 0) = n2 at *
  go_enter Tryz.func78, Tryz.ntmps78
  go_wp2_with fail
  refine (HC.out _).mono ?_
  rintro e w1 ⟨rfl, hb⟩
  have HF := Lib.hid ((Tri.new w na sa nb sb).below hb)
  obtain ⟨p0, p1, p2, p3, r0, r1, f0, f1⟩ := HF.out.cells
  clear hb HC
  go_wp2_with fail
  refine (HA.out _).mono ?_
  rintro e w2 ⟨rfl, hb⟩
  have HF2 := Lib.hid (HF.out.below hb)
  clear hb HA p0 p1 p2 p3 r0 r1 f0 f1 HF
  obtain ⟨p0, p1, p2, p3, r0, r1, f0, f1⟩ := HF2.out.cells
  go_wp2_with fail
  obtain ⟨k0, k1, kB⟩ := two_set w2 (w.heap.size + 2) (.bool n2) (.string s2) r0 r1
  have kB' := Lib.hid (show Below w.heap.size w _ from HF2.out.low.trans (kB.mono (by omega)))
  clear kB
  generalize (w2.setCell ⟨w.heap.size + 2, 0, none⟩ (.bool n2)).setCell ⟨w.heap.size + 2, 1, none⟩ (.string s2) = w6 at k0 k1 kB' ⊢
  exact bodyPost_ret (v := .tuple #[.agg #[.bool n2, .string s2], .int .i64 0]) (by simp [results, Tryz.results78, go_sem, k0, k1]) rfl ⟨rfl, kB'.out⟩
end Go.Proofs.YtgdohmaljbggjaaGreatDoor
