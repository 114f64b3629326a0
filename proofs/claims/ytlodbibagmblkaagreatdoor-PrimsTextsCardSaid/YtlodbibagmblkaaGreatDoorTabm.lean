/- Which literals are whole numbers, by the document: the contracts of palaverref09.Small, palaverref21.large. Which literals are whole numbers, by the document: the contracts of palaverref21.large and Value. Which literals are whole numbers, by the document: the contract of Value at 'I'. Large numbers compared: the contracts of number.cmp and Cmp. What the primitives that compare two integers do: Do at 3 .. 8. Whether two literals without items are the same. -/
import Derived.Test.YtlodbibagmblkaaGreatDoorTabl
import Derived.Test.YtlodbibagmblkaaGreatDoorTaan
import Derived.Test.YtlodbibagmblkaaGreatDoorTaas
namespace Go.Proofs.YtlodbibagmblkaaGreatDoor
open Go Go.RowKit Go.Lib
theorem Pl.le_drop {l : List UInt8} {k : Nat} (h : k < l.length) : Pl.le (l.drop k) = l[k].toNat + 256 * Pl.le (l.drop (k + 1)) := by
  rw [List.drop_eq_getElem_cons h, Pl.le]
set_option maxRecDepth 4000 in
set_option maxHeartbeats 2000000 in
theorem rsmall_any (n : Int) (w : World) (hn : Pl.Big n) :
    Calls Tryz.prog 22 #[lof n] w fun e w' => e = .returned (smallv n) ∧ Below w.heap.size w w' := by
  have HC : Hid (∀ W, Calls Tryz.prog 63 #[lof n] W fun e w' => e = .returned (.int .i64 0) ∧ Below W.heap.size W w') := Lib.hid (fun W => rcheck_any (decide (n < 0)) n.natAbs W hn (fun h => by have := of_decide_eq_true h; omega))
  obtain ⟨ng, hng⟩ : ∃ ng, decide (n < 0) = ng := ⟨_, rfl⟩
  have ha : lof n = .agg #[.bool ng, .string (bs (Pl.dgs n.natAbs))] := by unfold lof lv; rw [hng]
  rw [ha] at HC ⊢
  clear ha
  obtain ⟨l, hl⟩ : ∃ l, Pl.dgs n.natAbs = l := ⟨_, rfl⟩
  have hle : Pl.le l = n.natAbs := by rw [← hl, Pl.le_dgs]
  have hlong : 8 < l.length → 18446744073709551616 ≤ n.natAbs := fun h => by
    have h1 := Pl.canon_ge (Pl.canon_dgs n.natAbs) (by rw [hl]; intro e; rw [e] at h; simp at h)
    rw [hl, hle] at h1
    rw [show (18446744073709551616 : Nat) = 256 ^ 8 from rfl]
    exact Pl.le_p (a := 8) h1 (by omega)
  rw [hl] at HC ⊢
  clear hl hn
  have hsz : (bs l).size = l.length := rfl
  have HAT := Lib.hid (at_bs l)
  generalize bs l = s at *
  obtain ⟨N, hN⟩ : ∃ N, l.length = N := ⟨_, rfl⟩
  have HN := Lib.hid hN
  rw [hN] at hsz hlong
  clear hN
  obtain ⟨W1, hW1⟩ : ∃ W1, w.alloc (.cells #[.bool ng, .string s] 43) = W1 := ⟨_, rfl⟩
  have P0 : Hid (P2 W1 w.heap.size 43 (.bool ng) (.string s)) := Lib.hid (by rw [← hW1]; exact P2.new _ _ _ _)
  have HB1 : Hid (Below w.heap.size w W1) := Lib.hid (by rw [← hW1]; exact (Below.refl _ _).alloc (Nat.le_refl _) _)
  have hs1 : w.heap.size + 1 ≤ W1.heap.size := by rw [← hW1]; simp
  obtain ⟨p0, p1, _, _⟩ := P0.out.cells
  rcases Nat.lt_or_ge 8 N with h8 | h8
  · have hb := hlong h8
    have HV : Hid (smallv n = .tuple #[.int .i64 0, .bool false]) := Lib.hid (by
      unfold smallv
      rw [if_neg]
      unfold In64
      omega)
    have hd8 : decide (8 < (N : Int)) = true := decide_eq_true (by omega)
    clear hb hlong hle
    go_enter Tryz.func22, Tryz.ntmps22
    go_wp2_with fail
    refine (HC.out _).mono ?_
    rintro e w1 ⟨rfl, hb1⟩
    have P01 := Lib.hid (P0.out.below hb1)
    have HB2 := Lib.hid (chain HB1.out hb1 (by omega))
    clear p0 p1 hb1
    obtain ⟨p0, p1, _, _⟩ := P01.out.cells
    go_wp2_with fail
    go_ret2
    exact ⟨by rw [HV.out]; rfl, HB2.out⟩
  · have hd8 : decide (8 < (N : Int)) = false := decide_eq_false (by omega)
    have HLE := Lib.hid hle
    have HNG := Lib.hid hng
    clear hlong hle hng
    go_enter Tryz.func22, Tryz.ntmps22
    go_wp2_with fail
    refine (HC.out _).mono ?_
    rintro e w1 ⟨rfl, hb1⟩
    have P01 := Lib.hid (P0.out.below hb1)
    have HB2 := Lib.hid (chain HB1.out hb1 (by omega))
    clear p0 p1 hb1 hW1 P0
    obtain ⟨p0, p1, _, _⟩ := P01.out.cells
    go_wp2_with fail
    go_loop [4, 5] (fun x i => ∃ k : Nat, k ≤ N ∧ i = .int .i64 ((k : Int) - 1) ∧ x = .int .u64 (Pl.le (l.drop k) : Nat)) (fun _ i => (RowKit.intOf i + 1).toNat)
    case atStart => exact ⟨N, Nat.le_refl _, rfl, by rw [List.drop_of_length_le (by rw [HN.out]; exact Nat.le_refl _)]; rfl⟩
    case round =>
      obtain ⟨k, hk, rfl, rfl⟩ := hrel
      cases k with
      | succ k =>
        have hkl : k < l.length := by rw [HN.out]; omega
        have hd0 : decide ((0 : Int) ≤ ((k + 1 : Nat) : Int) - 1) = true := decide_eq_true (by omega)
        have hk1 : ((k + 1 : Nat) : Int) - 1 = (k : Int) := by omega
        rw [hk1] at *
        have q : k < s.size := by omega
        have ak : s[k]'q = l[k] := HAT.out.get hkl q (by omega)
        have HST := Lib.hid (Pl.le_drop hkl)
        have hlt := Pl.le_lt (l.drop (k + 1))
        rw [List.length_drop, HN.out] at hlt
        have h7 : Pl.le (l.drop (k + 1)) < 256 ^ 7 := Pl.lt_p hlt (by omega)
        have h7' : (256 : Nat) ^ 7 = 72057594037927936 := by decide
        rw [h7'] at h7
        have hcl := (l[k]'hkl).toNat_lt
        generalize Pl.le (l.drop (k + 1)) = V at *
        obtain ⟨c, hc⟩ : ∃ c, l[k]'hkl = c := ⟨_, rfl⟩
        rw [hc] at ak hcl HST
        obtain ⟨m, hm⟩ : ∃ m, c.toNat + 256 * V = m := ⟨_, rfl⟩
        rw [hm] at HST
        have hmI : (V : Int) * 256 + (c.toNat : Int) = (m : Int) := by omega
        have hw1 : IntKind.u64.wrap ((V : Int) * 256) = (V : Int) * 256 := by rw [IntKind.wrap_u64]; omega
        have hw2 : IntKind.u64.wrap ((V : Int) * 256 + (c.toNat : Int)) = (m : Int) := by rw [hmI, IntKind.wrap_u64]; omega
        have hw0 : IntKind.u64.wrap (c.toNat : Int) = (c.toNat : Int) := by rw [IntKind.wrap_u64]; omega
        clear hlt h7 h7' hcl hm hmI hc hkl
        go_wp2_with fail
        go_round
        case rel => exact ⟨k, by omega, by go_num, by rw [HST.out]⟩
        case measure => simp [RowKit.intOf]
      | zero =>
        have hd0 : decide ((0 : Int) ≤ ((0 : Nat) : Int) - 1) = false := by decide
        have h0 : ((0 : Nat) : Int) - 1 = -1 := by omega
        rw [h0] at *
        rw [List.drop_zero, HLE.out]
        have hng := HNG.out
        obtain ⟨V, hV⟩ : ∃ V, n.natAbs = V := ⟨_, rfl⟩
        have hVb : V < 18446744073709551616 := by
          rw [← hV, ← HLE.out]
          have h1 := Pl.le_lt l
          rw [HN.out] at h1
          have h2 := Pl.lt_p (b := 8) h1 (by omega)
          rwa [show (256 : Nat) ^ 8 = 18446744073709551616 from by decide] at h2
        rw [hV]
        cases ng
        · have hn0 := of_decide_eq_false hng
          rcases Nat.lt_or_ge V 9223372036854775808 with hv | hv
          · have HV : Hid (smallv n = .tuple #[.int .i64 V, .bool true]) := Lib.hid (by
              unfold smallv; rw [if_pos (by unfold In64; omega), show n = (V : Int) by omega])
            have hw : IntKind.i64.wrap (V : Int) = V := IntWalk.i64_in _ (by omega)
            have hd : decide (9223372036854775807 < (V : Int)) = false := decide_eq_false (by omega)
            clear hv hn0 hVb hng
            go_wp2_with fail
            go_ret2
            exact ⟨by rw [HV.out]; rfl, HB2.out⟩
          · have HV : Hid (smallv n = .tuple #[.int .i64 0, .bool false]) := Lib.hid (by
              unfold smallv; rw [if_neg (by unfold In64; omega)])
            have hd : decide (9223372036854775807 < (V : Int)) = true := decide_eq_true (by omega)
            clear hv hn0 hVb hng
            go_wp2_with fail
            go_ret2
            exact ⟨by rw [HV.out]; rfl, HB2.out⟩
        · have hn0 := of_decide_eq_true hng
          rcases Nat.lt_or_ge 9223372036854775808 V with hv | hv
          · have HV : Hid (smallv n = .tuple #[.int .i64 0, .bool false]) := Lib.hid (by
              unfold smallv; rw [if_neg (by unfold In64; omega)])
            have hd : decide (9223372036854775808 < (V : Int)) = true := decide_eq_true (by omega)
            clear hv hn0 hVb hng
            go_wp2_with fail
            go_ret2
            exact ⟨by rw [HV.out]; rfl, HB2.out⟩
          · have HV : Hid (smallv n = .tuple #[.int .i64 (-(V : Int)), .bool true]) := Lib.hid (by
              unfold smallv; rw [if_pos (by unfold In64; omega), show n = -(V : Int) by omega])
            have hd : decide (9223372036854775808 < (V : Int)) = false := decide_eq_false (by omega)
            have hw : IntKind.i64.wrap (IntKind.u64.wrap (-(V : Int))) = -(V : Int) := by rw [IntKind.wrap_u64, IntKind.wrap_i64]; omega
            clear hv hn0 hVb hng
            go_wp2_with fail
            go_ret2
            exact ⟨by rw [HV.out]; rfl, HB2.out⟩
/-- what large answers of a literal -/
def LargeP (k n : Int) (l : List UInt8) (e : Ending) : Prop :=
  (k = 4 ∧ e = .returned (.tuple #[lof n, .bool (decide (FitsI n))])) ∨ (k = 5 ∧ ∃ A, Pl.IntT 10 l A ∧ Pl.Big A ∧ e = .returned (.tuple #[lof A, .bool (!decide (FitsI A))])) ∨
  (k ≠ 4 ∧ (k = 5 → ∀ A, Pl.IntT 10 l A → ¬ Pl.Big A) ∧ e = .returned (.tuple #[lv false [], .bool false]))
set_option maxRecDepth 4000 in
set_option maxHeartbeats 4000000 in
theorem rlarge_four (n b : Int) (t : ByteArray) (xa : Option Addr) (xl xc : Nat) (w : World) (h1 : -9223372036854775808 ≤ n) (h2 : n ≤ 9223372036854775807) :
    Calls Tryz.prog 17 #[litv 4 n b t (.slice xa xl xc)] w fun e w' => e = .returned (.tuple #[lof n, .bool (decide (FitsI n))]) ∧ Below w.heap.size w w' := by
  have HOF := Lib.hid (fun W => rof_any n W h1 h2)
  obtain ⟨ng, S, ha⟩ : ∃ g s, lof n = .agg #[.bool g, .string s] := ⟨_, _, rfl⟩
  rw [ha] at HOF ⊢
  unfold litv
  clear ha
  obtain ⟨W2, hW2⟩ : ∃ W2, (w.alloc (.cells #[.int .u8 4, .int .i64 n, .int .u64 b, .string t, .slice xa xl xc] 26)).alloc (.cells #[.bool false, .string ⟨#[]⟩] 43) = W2 := ⟨_, rfl⟩
  have HL : Hid (P5 W2 w.heap.size (.int .u8 4) (.int .i64 n) (.int .u64 b) (.string t) (.slice xa xl xc)) := Lib.hid (by rw [← hW2]; exact (P5.new _ _ _ _ _ _).alloc _)
  have HR : Hid (P2 W2 (w.heap.size + 1) 43 (.bool false) (.string ⟨#[]⟩)) := Lib.hid (by
    rw [← hW2]
    have := P2.new (w.alloc (.cells #[.int .u8 4, .int .i64 n, .int .u64 b, .string t, .slice xa xl xc] 26)) 43 (.bool false) (.string ⟨#[]⟩)
    simpa using this)
  have HB2 : Hid (Below w.heap.size w W2) := Lib.hid (by rw [← hW2]; exact ((Below.refl _ _).alloc (Nat.le_refl _) _).alloc (by simp) _)
  have hs2 : w.heap.size + 2 ≤ W2.heap.size := by rw [← hW2]; simp
  obtain ⟨c0, c1, c2, c3, c4, _, _, _, _, _⟩ := HL.out.cells
  have BD := Lib.hid (show Below W2.heap.size W2 W2.drew from (Below.refl _ W2).drew)
  have HS : Hid (∀ W, Below W2.heap.size W2 W → W.cell? ⟨w.heap.size, 1, none⟩ = some (.int .i64 n)) := Lib.hid (fun W hb => (HL.out.below hb).cells.c1)
  have HS2 : Hid (∀ W, Below W2.heap.size W2 W → ∀ u v, ((W.setCell ⟨w.heap.size + 1, 0, none⟩ u).setCell ⟨w.heap.size + 1, 1, none⟩ v).cell? ⟨w.heap.size, 1, none⟩ = some (.int .i64 n)) := Lib.hid (fun W hb u v => by
    rw [World.cell?_setCell_other _ _ _ _ (by intro z; injection z with z; omega), World.cell?_setCell_other _ _ _ _ (by intro z; injection z with z; omega)]
    exact HS.out W hb)
  have hF : ∃ f1 f2, decide (-1152921504606846976 ≤ n) = f1 ∧ decide (n ≤ 1152921504606846975) = f2 ∧ decide (FitsI n) = (f1 && f2) := ⟨_, _, rfl, rfl, by unfold FitsI; exact Bool.decide_and _ _⟩
  obtain ⟨f1, f2, hf1, hf2, hff⟩ := hF
  rw [hff]
  clear hff
  cases f1
  case' false =>
    go_enter Tryz.func17, Tryz.ntmps17
    go_wp2_with fail
    first | go_region_with (go_at_call 20; (with_reducible refine (HOF.out _).mono ?_); rintro e w4 ⟨rfl, hb4d⟩; have hb4 : Below W2.heap.size W2 w4 := BD.out.trans hb4d; have PR4 := HR.out.below hb4; have hl4 := HS.out _ hb4; obtain ⟨r0, r1, g0, g1⟩ := PR4.cells; clear hb4d) | fail
  case' true => cases f2
  case' true.false =>
    go_enter Tryz.func17, Tryz.ntmps17
    go_wp2_with fail
    go_region_held3 (fun W => W.cell? ⟨w.heap.size, 1, none⟩ = some (.int .i64 n)) (first | with_reducible exact c1 | with_reducible exact HS.out _ BD.out | with_reducible exact HS.out _ hb4 | with_reducible exact HS2.out _ hb4 _ _) ((go_at_call 20; (with_reducible refine (HOF.out _).mono ?_); rintro e w4 ⟨rfl, hb4d⟩; have hb4 : Below W2.heap.size W2 w4 := BD.out.trans hb4d; have PR4 := HR.out.below hb4; have hl4 := HS.out _ hb4; obtain ⟨r0, r1, g0, g1⟩ := PR4.cells; clear hb4d))
  case' true.true =>
    go_enter Tryz.func17, Tryz.ntmps17
    go_wp2_with fail
    go_region_held3 (fun W => W.cell? ⟨w.heap.size, 1, none⟩ = some (.int .i64 n)) (first | with_reducible exact c1 | with_reducible exact HS.out _ BD.out | with_reducible exact HS.out _ hb4 | with_reducible exact HS2.out _ hb4 _ _) ((go_at_call 20; (with_reducible refine (HOF.out _).mono ?_); rintro e w4 ⟨rfl, hb4d⟩; have hb4 : Below W2.heap.size W2 w4 := BD.out.trans hb4d; have PR4 := HR.out.below hb4; have hl4 := HS.out _ hb4; obtain ⟨r0, r1, g0, g1⟩ := PR4.cells; clear hb4d))
  all_goals
    obtain ⟨k0, k1, _, _⟩ := (PR4.set (.bool ng) (.string S)).cells
    have hB4 := below_set2 (chain HB2.out hb4 (by omega)) (show w.heap.size ≤ w.heap.size + 1 by omega) (.bool ng) (.string S)
    go_wp2_with fail
    refine bodyPost_ret (v := .tuple #[.agg #[.bool ng, .string S], .bool _]) (by simp [results, Tryz.results17, go_sem, k0, k1]) rfl ⟨rfl, hB4⟩
end Go.Proofs.YtlodbibagmblkaaGreatDoor
namespace Go.Proofs.YtlodbibagmblkaaGreatDoor
open Go Go.RowKit Go.Lib
theorem toldv_no {n : Int} (h : ¬ Pl.Big n) : toldv n = .tuple #[lv false [], .int .i64 92] := by unfold toldv; exact if_neg h
set_option maxRecDepth 4000 in
set_option maxHeartbeats 4000000 in
theorem rlarge_rest (k n b : Int) (l : List UInt8) (xa : Option Addr) (xl xc : Nat) (w : World) (hk : k ≠ 4) (hl : l.length ≤ 300000) :
    Calls Tryz.prog 17 #[litv k n b (bs l) (.slice xa xl xc)] w fun e w' => LargeP k n l e ∧ Below w.heap.size w w' := by
  have HPA := Lib.hid (fun W => rparse_any l W hl)
  have HSM := Lib.hid (fun A W (h : Pl.Big A) => rsmall_any A W h)
  unfold litv
  have hk4 : (k == 4) = false := by rw [beq_eq_false_iff_ne]; exact hk
  obtain ⟨W2, hW2⟩ : ∃ W2, (w.alloc (.cells #[.int .u8 k, .int .i64 n, .int .u64 b, .string (bs l), .slice xa xl xc] 26)).alloc (.cells #[.bool false, .string ⟨#[]⟩] 43) = W2 := ⟨_, rfl⟩
  have HL : Hid (P5 W2 w.heap.size (.int .u8 k) (.int .i64 n) (.int .u64 b) (.string (bs l)) (.slice xa xl xc)) := Lib.hid (by rw [← hW2]; exact (P5.new _ _ _ _ _ _).alloc _)
  have HR : Hid (P2 W2 (w.heap.size + 1) 43 (.bool false) (.string ⟨#[]⟩)) := Lib.hid (by
    rw [← hW2]
    have := P2.new (w.alloc (.cells #[.int .u8 k, .int .i64 n, .int .u64 b, .string (bs l), .slice xa xl xc] 26)) 43 (.bool false) (.string ⟨#[]⟩)
    simpa using this)
  have HB2 : Hid (Below w.heap.size w W2) := Lib.hid (by rw [← hW2]; exact ((Below.refl _ _).alloc (Nat.le_refl _) _).alloc (by simp) _)
  have hs2 : w.heap.size + 2 ≤ W2.heap.size := by rw [← hW2]; simp
  obtain ⟨c0, c1, c2, c3, c4, _, _, _, _, _⟩ := HL.out.cells
  go_enter Tryz.func17, Tryz.ntmps17
  go_wp2_with fail
  refine (HPA.out _).mono ?_
  rintro e w3 ⟨hpar, hb3⟩
  have HB3 := Lib.hid (chain HB2.out hb3 (by omega))
  have HL3 := Lib.hid (HL.out.below hb3)
  have HR3 := Lib.hid (HR.out.below hb3)
  have hs3 := Nat.le_trans hs2 hb3.size
  clear c0 c1 c2 c3 c4 hb3 hW2 HL HR HB2
  obtain ⟨pg, pS, pe, rfl, hcs⟩ : ∃ g s r, e = .returned (.tuple #[.agg #[.bool g, .string s], .int .i64 r]) ∧ ((r = 0 ∧ ∃ A, Pl.IntT 10 l A ∧ Pl.Big A ∧ Value.agg #[.bool g, .string s] = lof A) ∨ (r ≠ 0 ∧ ∀ A, Pl.IntT 10 l A → ¬ Pl.Big A)) := by
    rcases hpar with ⟨A, hA, rfl⟩ | ⟨hno, rfl⟩
    · by_cases hB : Pl.Big A
      · exact ⟨_, _, _, by rw [toldv_bg hB]; rfl, .inl ⟨rfl, A, hA, hB, rfl⟩⟩
      · refine ⟨_, _, _, by rw [toldv_no hB]; rfl, .inr ⟨by decide, fun B h2 => ?_⟩⟩
        rw [Pl.intT_val (by decide) h2 hA]; exact hB
    · exact ⟨_, _, _, rfl, .inr ⟨by decide, fun A h => absurd h (hno A)⟩⟩
  have HCS := Lib.hid hcs
  clear hcs hpar
  obtain ⟨W4, hW4⟩ : ∃ W4, w3.alloc (.cells #[.bool pg, .string pS] 43) = W4 := ⟨_, rfl⟩
  have HN4 : Hid (P2 W4 w3.heap.size 43 (.bool pg) (.string pS)) := Lib.hid (by rw [← hW4]; exact P2.new _ _ _ _)
  have HB4 : Hid (Below w.heap.size w W4) := Lib.hid (by rw [← hW4]; exact HB3.out.alloc (by omega) _)
  have HL4 : Hid (P5 W4 w.heap.size (.int .u8 k) (.int .i64 n) (.int .u64 b) (.string (bs l)) (.slice xa xl xc)) := Lib.hid (by rw [← hW4]; exact HL3.out.alloc _)
  have HR4 : Hid (P2 W4 (w.heap.size + 1) 43 (.bool false) (.string ⟨#[]⟩)) := Lib.hid (by rw [← hW4]; exact HR3.out.alloc _)
  have hs4 : w3.heap.size + 1 ≤ W4.heap.size := by rw [← hW4]; simp
  clear HB3 HL3 HR3
  obtain ⟨c0, c1, c2, c3, c4, _, _, _, _, _⟩ := HL4.out.cells
  obtain ⟨n0, n1, _, _⟩ := HN4.out.cells
  obtain ⟨r0, r1, g0, g1⟩ := HR4.out.cells
  have HZ := Lib.hid (HR4.out.set (.bool false) (.string ⟨#[]⟩))
  have HZB := Lib.hid (below_set2 HB4.out (show w.heap.size ≤ w.heap.size + 1 by omega) (.bool false) (.string ⟨#[]⟩))
  by_cases hk5 : k = 5
  · have hk5' : (k != 5) = false := by rw [hk5]; rfl
    rcases HCS.out with ⟨hr, A, hA, hB, hag⟩ | ⟨hr, hno⟩
    · have hr' : (pe != 0) = false := by rw [hr]; rfl
      have HS2 := Lib.hid (fun W => HSM.out A W hB)
      rw [← hag] at HS2
      obtain ⟨sk, sb, hsv, hsc⟩ : ∃ sk sb, smallv A = .tuple #[.int .i64 sk, .bool sb] ∧ ((sb = true ∧ sk = A) ∨ (sb = false ∧ ¬ FitsI A)) := by
        unfold smallv
        by_cases h : In64 A
        · exact ⟨A, true, by rw [if_pos h], .inl ⟨rfl, rfl⟩⟩
        · exact ⟨0, false, by rw [if_neg h], .inr ⟨rfl, fun h2 => h (by unfold FitsI at h2; unfold In64; omega)⟩⟩
      rw [hsv] at HS2
      have HFIN : Hid (∀ q W', q = (!decide (FitsI A)) → Below w.heap.size w W' → LargeP k n l (.returned (.tuple #[.agg #[.bool pg, .string pS], .bool q])) ∧ Below w.heap.size w W') := Lib.hid (fun q W' hq hb => ⟨.inr (.inl ⟨hk5, A, hA, hB, by rw [hq, hag]⟩), hb⟩)
      have hway : (sb = false ∧ (!decide (FitsI A)) = true) ∨ (sb = true ∧ decide (sk < -1152921504606846976) = true ∧ (!decide (FitsI A)) = true) ∨ (sb = true ∧ decide (sk < -1152921504606846976) = false ∧ decide (1152921504606846975 < sk) = true ∧ (!decide (FitsI A)) = true) ∨ (sb = true ∧ decide (sk < -1152921504606846976) = false ∧ decide (1152921504606846975 < sk) = false ∧ (!decide (FitsI A)) = false) := by
        rcases hsc with ⟨rfl, rfl⟩ | ⟨rfl, hf⟩
        · by_cases h1 : sk < -1152921504606846976
          · exact .inr (.inl ⟨rfl, decide_eq_true h1, by rw [decide_eq_false (by unfold FitsI; omega)]; rfl⟩)
          · by_cases h2 : 1152921504606846975 < sk
            · exact .inr (.inr (.inl ⟨rfl, decide_eq_false h1, decide_eq_true h2, by rw [decide_eq_false (by unfold FitsI; omega)]; rfl⟩))
            · exact .inr (.inr (.inr ⟨rfl, decide_eq_false h1, decide_eq_false h2, by rw [decide_eq_true (by unfold FitsI; omega)]; rfl⟩))
        · exact .inl ⟨rfl, by rw [decide_eq_false hf]; rfl⟩
      have HWAY := Lib.hid hway
      clear hway hsc hsv hA hB hag hr hk5 hk HCS HPA HSM
      go_wp2_with fail
      refine (HS2.out _).mono ?_
      rintro e w5 ⟨rfl, hb5⟩
      have HN5 := Lib.hid (HN4.out.below hb5)
      have HR5 := Lib.hid (HR4.out.below hb5)
      have HB5 := Lib.hid (chain HB4.out hb5 (by omega))
      clear hb5 c0 c1 c2 c3 c4 n0 n1 r0 r1 g0 g1
      obtain ⟨n0, n1, _, _⟩ := HN5.out.cells
      obtain ⟨r0, r1, g0, g1⟩ := HR5.out.cells
      obtain ⟨k0, k1, _, _⟩ := (HR5.out.set (.bool pg) (.string pS)).cells
      have HBF := Lib.hid (below_set2 HB5.out (show w.heap.size ≤ w.heap.size + 1 by omega) (.bool pg) (.string pS))
      rcases HWAY.out with ⟨rfl, hq⟩ | ⟨rfl, d1, hq⟩ | ⟨rfl, d1, d2, hq⟩ | ⟨rfl, d1, d2, hq⟩
      all_goals
        have HQ := Lib.hid (HFIN.out _ _ hq.symm HBF.out)
        clear hq
        go_wp2_with fail
        refine bodyPost_ret (v := .tuple #[.agg #[.bool pg, .string pS], .bool _]) (by simp [results, Tryz.results17, go_sem, k0, k1]) rfl HQ.out
    · have hr' : (pe != 0) = true := by rw [bne_iff_ne]; exact hr
      have HFIN : Hid (∀ W', Below w.heap.size w W' → LargeP k n l (.returned (.tuple #[.agg #[.bool false, .string ⟨#[]⟩], .bool false])) ∧ Below w.heap.size w W') := Lib.hid (fun W' hb => ⟨.inr (.inr ⟨hk, fun _ => hno, rfl⟩), hb⟩)
      clear hno hr hk5 hk HCS HPA HSM
      obtain ⟨k0, k1, _, _⟩ := HZ.out.cells
      go_wp2_with fail
      refine bodyPost_ret (v := .tuple #[.agg #[.bool false, .string ⟨#[]⟩], .bool false]) (by simp [results, Tryz.results17, go_sem, k0, k1]) rfl (HFIN.out _ HZB.out)
  · have hk5' : (k != 5) = true := by rw [bne_iff_ne]; exact hk5
    have HFIN : Hid (∀ W', Below w.heap.size w W' → LargeP k n l (.returned (.tuple #[.agg #[.bool false, .string ⟨#[]⟩], .bool false])) ∧ Below w.heap.size w W') := Lib.hid (fun W' hb => ⟨.inr (.inr ⟨hk, fun h => absurd h hk5, rfl⟩), hb⟩)
    clear hk5 hk HCS HPA HSM
    obtain ⟨k0, k1, _, _⟩ := HZ.out.cells
    go_wp2_with fail
    refine bodyPost_ret (v := .tuple #[.agg #[.bool false, .string ⟨#[]⟩], .bool false]) (by simp [results, Tryz.results17, go_sem, k0, k1]) rfl (HFIN.out _ HZB.out)
theorem rlarge_any (k n b : Int) (l : List UInt8) (xa : Option Addr) (xl xc : Nat) (w : World) (hl : l.length ≤ 300000) (h1 : -9223372036854775808 ≤ n) (h2 : n ≤ 9223372036854775807) :
    Calls Tryz.prog 17 #[litv k n b (bs l) (.slice xa xl xc)] w fun e w' => LargeP k n l e ∧ Below w.heap.size w w' := by
  by_cases hk : k = 4
  · subst hk
    exact (rlarge_four n b _ xa xl xc w h1 h2).mono fun e w' ⟨he, hb⟩ => ⟨.inl ⟨rfl, he⟩, hb⟩
  · exact rlarge_rest k n b l xa xl xc w hk hl
end Go.Proofs.YtlodbibagmblkaaGreatDoor
namespace Go.Proofs.YtlodbibagmblkaaGreatDoor
open Go Go.RowKit Go.Lib
/-- a literal is a whole number -/
def IsI (k n b : Int) (l : List UInt8) (len : Nat) (A : Int) : Prop := len = 0 ∧ b = 0 ∧ ((k = 4 ∧ l = [] ∧ n = A ∧ FitsI A) ∨ (k = 5 ∧ n = 0 ∧ Pl.IntT 10 l A ∧ Pl.Big A ∧ ¬ FitsI A))
theorem isI_of {k n b : Int} {l : List UInt8} {e : Ending} (h : LargeP k n l e) (h4 : k = 4 → b = 0 ∧ l = []) (h5 : k = 5 → b = 0 ∧ n = 0) : ∃ g s q, e = .returned (.tuple #[.agg #[.bool g, .string s], .bool q]) ∧ (q = true ↔ ∃ A, IsI k n b l 0 A) := by
  rcases h with ⟨rfl, rfl⟩ | ⟨rfl, A, hA, hB, rfl⟩ | ⟨hk, hno, rfl⟩
  · refine ⟨_, _, _, rfl, ?_⟩
    rw [decide_eq_true_iff]
    exact ⟨fun hf => ⟨n, rfl, (h4 rfl).1, .inl ⟨rfl, (h4 rfl).2, rfl, hf⟩⟩, fun ⟨A, _, _, h⟩ => by
      rcases h with ⟨_, _, rfl, hf⟩ | ⟨h, _⟩
      · exact hf
      · omega⟩
  · refine ⟨_, _, _, rfl, ?_⟩
    rw [Bool.not_eq_true', decide_eq_false_iff_not]
    exact ⟨fun hf => ⟨A, rfl, (h5 rfl).1, .inr ⟨rfl, (h5 rfl).2, hA, hB, hf⟩⟩, fun ⟨B, _, _, h⟩ => by
      rcases h with ⟨h, _⟩ | ⟨_, _, h1, _, hf⟩
      · omega
      · rwa [← Pl.intT_val (by decide) h1 hA]⟩
  · refine ⟨_, _, _, rfl, ?_⟩
    exact ⟨fun h => (by cases h), fun ⟨A, _, _, h⟩ => by
      rcases h with ⟨h, _⟩ | ⟨h, _, h1, h2, _⟩
      · exact absurd h hk
      · exact absurd h2 (hno h A h1)⟩
def ValueP (k n b : Int) (l : List UInt8) (len : Nat) (e : Ending) : Prop := ∃ q, e = .returned (.bool q) ∧ (q = true ↔ ∃ A, IsI k n b l len A)
theorem valueP_no {k n b : Int} {l : List UInt8} {len : Nat} (h : 0 < len ∨ b ≠ 0 ∨ (k ≠ 4 ∧ k ≠ 5) ∨ (k = 4 ∧ l ≠ []) ∨ (k = 5 ∧ n ≠ 0)) : ValueP k n b l len (.returned (.bool false)) := by
  refine ⟨false, rfl, fun h => (by cases h), fun ⟨A, h1, h2, h3⟩ => ?_⟩
  rcases h3 with ⟨q1, q2, _⟩ | ⟨q1, q2, _⟩
  · rcases h with h | h | h | h | h
    · omega
    · omega
    · omega
    · exact absurd q2 h.2
    · omega
  · rcases h with h | h | h | h | h <;> omega
set_option maxRecDepth 4000 in
set_option maxHeartbeats 8000000 in
theorem rvalueI_any (k n b : Int) (l : List UInt8) (xa : Option Addr) (xl xc : Nat) (w : World) (hl : l.length ≤ 300000) (h1 : -9223372036854775808 ≤ n) (h2 : n ≤ 9223372036854775807) :
    Calls Tryz.prog 8 #[litv k n b (bs l) (.slice xa xl xc), .int .u8 73] w fun e w' => ValueP k n b l xl e ∧ Below w.heap.size w w' := by
  have HLG := Lib.hid (fun W => rlarge_any k n b l xa xl xc W hl h1 h2)
  unfold litv at *
  obtain ⟨W1, hW1⟩ : ∃ W1, w.alloc (.cells #[.int .u8 k, .int .i64 n, .int .u64 b, .string (bs l), .slice xa xl xc] 26) = W1 := ⟨_, rfl⟩
  have HL : Hid (P5 W1 w.heap.size (.int .u8 k) (.int .i64 n) (.int .u64 b) (.string (bs l)) (.slice xa xl xc)) := Lib.hid (by rw [← hW1]; exact P5.new _ _ _ _ _ _)
  have HB1 : Hid (Below w.heap.size w W1) := Lib.hid (by rw [← hW1]; exact (Below.refl _ _).alloc (Nat.le_refl _) _)
  have hs1 : w.heap.size + 1 ≤ W1.heap.size := by rw [← hW1]; simp
  obtain ⟨c0, c1, c2, c3, c4, _, _, _, _, _⟩ := HL.out.cells
  clear hl h1 h2
  obtain ⟨tx, htx⟩ : ∃ q, (bs l).toList.isEmpty = q := ⟨_, rfl⟩
  have HTX : Hid (tx = true ↔ l = []) := Lib.hid (by rw [← htx, ByteArray.toList_eq]; cases l <;> simp)
  generalize bs l = T at *
  by_cases hx : xl = 0
  case neg =>
    have HF := Lib.hid (valueP_no (k := k) (n := n) (b := b) (l := l) (len := xl) (.inl (by omega)))
    have hx0 : decide ((0 : Int) < (xl : Int)) = true := decide_eq_true (by omega)
    go_enter Tryz.func8, Tryz.ntmps8
    go_wp2_with fail
    go_ret
    exact ⟨HF.out, HB1.out⟩
  subst hx
  have hx0 : decide ((0 : Int) < ((0 : Nat) : Int)) = false := by decide
  have HNO : Hid (b ≠ 0 ∨ (k ≠ 4 ∧ k ≠ 5) ∨ (k = 4 ∧ tx = false) ∨ (k = 5 ∧ n ≠ 0) → ValueP k n b l 0 (.returned (.bool false))) := Lib.hid (fun h => valueP_no (by
    rcases h with h | h | ⟨h, h2⟩ | h
    · exact .inr (.inl h)
    · exact .inr (.inr (.inl h))
    · refine .inr (.inr (.inr (.inl ⟨h, fun e => ?_⟩)))
      rw [HTX.out.2 e] at h2; cases h2
    · exact .inr (.inr (.inr (.inr h)))))
  by_cases hk4 : k = 4
  · subst hk4
    by_cases hb : b = 0
    case neg =>
      have hb' : (b != 0) = true := by rw [bne_iff_ne]; exact hb
      have HF := Lib.hid (HNO.out (.inl hb))
      clear hb
      go_enter Tryz.func8, Tryz.ntmps8
      go_wp2_with fail
      go_ret
      exact ⟨HF.out, HB1.out⟩
    subst hb
    have HK : Hid (∀ e, LargeP 4 n l e → tx = true → ∃ g s q, e = .returned (.tuple #[.agg #[.bool g, .string s], .bool q]) ∧ (q = true ↔ ∃ A, IsI 4 n 0 l 0 A)) := Lib.hid (fun e h h4 => isI_of h (fun _ => ⟨rfl, HTX.out.1 h4⟩) (fun h => by omega))
    cases tx
    case false =>
      have HF := Lib.hid (HNO.out (.inr (.inr (.inl ⟨rfl, rfl⟩))))
      go_enter Tryz.func8, Tryz.ntmps8
      go_wp2_with fail
      go_ret
      exact ⟨HF.out, HB1.out⟩
    case true =>
      replace HK := Lib.hid (fun e h => HK.out e h rfl)
      go_enter Tryz.func8, Tryz.ntmps8
      go_wp2_with fail
      refine (HLG.out _).mono ?_
      rintro e w4 ⟨hlp, hb4⟩
      obtain ⟨g, S, q, rfl, hq⟩ := HK.out _ hlp
      have HQ := Lib.hid hq
      have HB4 := Lib.hid (chain HB1.out hb4 (by omega))
      clear hlp hq hb4
      go_wp2_with fail
      go_ret
      exact ⟨⟨q, rfl, HQ.out⟩, HB4.out.alloc HB4.out.size _⟩
  by_cases hk5 : k = 5
  · subst hk5
    by_cases hb : b = 0
    case neg =>
      have hb' : (b != 0) = true := by rw [bne_iff_ne]; exact hb
      have HF := Lib.hid (HNO.out (.inl hb))
      clear hb
      go_enter Tryz.func8, Tryz.ntmps8
      go_wp2_with fail
      go_ret
      exact ⟨HF.out, HB1.out⟩
    subst hb
    by_cases hn : n = 0
    case neg =>
      have hn' : (n != 0) = true := by rw [bne_iff_ne]; exact hn
      have HF := Lib.hid (HNO.out (.inr (.inr (.inr ⟨rfl, hn⟩))))
      clear hn
      go_enter Tryz.func8, Tryz.ntmps8
      go_wp2_with fail
      go_ret
      exact ⟨HF.out, HB1.out⟩
    subst hn
    have HK : Hid (∀ e, LargeP 5 0 l e → ∃ g s q, e = .returned (.tuple #[.agg #[.bool g, .string s], .bool q]) ∧ (q = true ↔ ∃ A, IsI 5 0 0 l 0 A)) := Lib.hid (fun e h => isI_of h (fun h => by omega) (fun _ => ⟨rfl, rfl⟩))
    go_enter Tryz.func8, Tryz.ntmps8
    go_wp2_with fail
    refine (HLG.out _).mono ?_
    rintro e w4 ⟨hlp, hb4⟩
    obtain ⟨g, S, q, rfl, hq⟩ := HK.out _ hlp
    have HQ := Lib.hid hq
    have HB4 := Lib.hid (chain HB1.out hb4 (by omega))
    clear hlp hq hb4
    go_wp2_with fail
    go_ret
    exact ⟨⟨q, rfl, HQ.out⟩, HB4.out.alloc HB4.out.size _⟩
  have HF := Lib.hid (HNO.out (.inr (.inl ⟨hk4, hk5⟩)))
  have HK : Hid (∀ e, LargeP k n l e → ∃ g s q, e = .returned (.tuple #[.agg #[.bool g, .string s], .bool q]) ∧ (q = true ↔ ∃ A, IsI k n b l 0 A)) := Lib.hid (fun e h => isI_of h (fun h => absurd h hk4) (fun h => absurd h hk5))
  clear HNO HTX
  by_cases hk6 : k = 6
  · subst hk6
    clear hk4 hk5
    by_cases hn : n = 0
    case neg =>
      have hn' : (n != 0) = true := by rw [bne_iff_ne]; exact hn
      clear hn
      go_enter Tryz.func8, Tryz.ntmps8
      go_wp2_with fail
      go_ret
      exact ⟨HF.out, HB1.out⟩
    subst hn
    cases tx
    case false =>
      go_enter Tryz.func8, Tryz.ntmps8
      go_wp2_with fail
      go_ret
      exact ⟨HF.out, HB1.out⟩
    case true =>
      go_enter Tryz.func8, Tryz.ntmps8
      go_wp2_with fail
      refine (HLG.out _).mono ?_
      rintro e w4 ⟨hlp, hb4⟩
      obtain ⟨g, S, q, rfl, hq⟩ := HK.out _ hlp
      have HQ := Lib.hid hq
      have HB4 := Lib.hid (chain HB1.out hb4 (by omega))
      clear hlp hq hb4
      go_wp2_with fail
      go_ret
      exact ⟨⟨q, rfl, HQ.out⟩, HB4.out.alloc HB4.out.size _⟩
  by_cases hk7 : k = 7
  · subst hk7
    clear hk4 hk5 hk6
    by_cases hb : b = 0
    case neg =>
      have hb' : (b != 0) = true := by rw [bne_iff_ne]; exact hb
      clear hb
      go_enter Tryz.func8, Tryz.ntmps8
      go_wp2_with fail
      go_ret
      exact ⟨HF.out, HB1.out⟩
    subst hb
    cases tx
    case false =>
      go_enter Tryz.func8, Tryz.ntmps8
      go_wp2_with fail
      go_ret
      exact ⟨HF.out, HB1.out⟩
    case true =>
      go_enter Tryz.func8, Tryz.ntmps8
      go_wp2_with fail
      refine (HLG.out _).mono ?_
      rintro e w4 ⟨hlp, hb4⟩
      obtain ⟨g, S, q, rfl, hq⟩ := HK.out _ hlp
      have HQ := Lib.hid hq
      have HB4 := Lib.hid (chain HB1.out hb4 (by omega))
      clear hlp hq hb4
      go_wp2_with fail
      go_ret
      exact ⟨⟨q, rfl, HQ.out⟩, HB4.out.alloc HB4.out.size _⟩
  by_cases hk8 : k = 8
  · subst hk8
    clear hk4 hk5 hk6 hk7
    by_cases hb : b = 0
    case neg =>
      have hb' : (b != 0) = true := by rw [bne_iff_ne]; exact hb
      clear hb
      go_enter Tryz.func8, Tryz.ntmps8
      go_wp2_with fail
      go_ret
      exact ⟨HF.out, HB1.out⟩
    subst hb
    by_cases hn : n = 0
    case neg =>
      have hn' : (n != 0) = true := by rw [bne_iff_ne]; exact hn
      clear hn
      go_enter Tryz.func8, Tryz.ntmps8
      go_wp2_with fail
      go_ret
      exact ⟨HF.out, HB1.out⟩
    subst hn
    go_enter Tryz.func8, Tryz.ntmps8
    go_wp2_with fail
    refine (HLG.out _).mono ?_
    rintro e w4 ⟨hlp, hb4⟩
    obtain ⟨g, S, q, rfl, hq⟩ := HK.out _ hlp
    have HQ := Lib.hid hq
    have HB4 := Lib.hid (chain HB1.out hb4 (by omega))
    clear hlp hq hb4
    go_wp2_with fail
    go_ret
    exact ⟨⟨q, rfl, HQ.out⟩, HB4.out.alloc HB4.out.size _⟩
  by_cases hk9 : k = 9
  · subst hk9
    clear hk4 hk5 hk6 hk7 hk8
    by_cases hb : b = 0
    case neg =>
      have hb' : (b != 0) = true := by rw [bne_iff_ne]; exact hb
      clear hb
      go_enter Tryz.func8, Tryz.ntmps8
      go_wp2_with fail
      go_ret
      exact ⟨HF.out, HB1.out⟩
    subst hb
    by_cases hn : n = 0
    case neg =>
      have hn' : (n != 0) = true := by rw [bne_iff_ne]; exact hn
      clear hn
      go_enter Tryz.func8, Tryz.ntmps8
      go_wp2_with fail
      go_ret
      exact ⟨HF.out, HB1.out⟩
    subst hn
    go_enter Tryz.func8, Tryz.ntmps8
    go_wp2_with fail
    refine (HLG.out _).mono ?_
    rintro e w4 ⟨hlp, hb4⟩
    obtain ⟨g, S, q, rfl, hq⟩ := HK.out _ hlp
    have HQ := Lib.hid hq
    have HB4 := Lib.hid (chain HB1.out hb4 (by omega))
    clear hlp hq hb4
    go_wp2_with fail
    go_ret
    exact ⟨⟨q, rfl, HQ.out⟩, HB4.out.alloc HB4.out.size _⟩
  have hk4' : (k != 4) = true := by rw [bne_iff_ne]; exact hk4
  have hk5' : (k != 5) = true := by rw [bne_iff_ne]; exact hk5
  have hk6' : (k != 6) = true := by rw [bne_iff_ne]; exact hk6
  have hk7' : (k != 7) = true := by rw [bne_iff_ne]; exact hk7
  have hk8' : (k != 8) = true := by rw [bne_iff_ne]; exact hk8
  have hk9' : (k != 9) = true := by rw [bne_iff_ne]; exact hk9
  clear hk4 hk5 hk6 hk7 hk8 hk9
  by_cases hb : b = 0
  case neg =>
    have hb' : (b != 0) = true := by rw [bne_iff_ne]; exact hb
    clear hb
    go_enter Tryz.func8, Tryz.ntmps8
    go_wp2_with fail
    go_ret
    exact ⟨HF.out, HB1.out⟩
  subst hb
  by_cases hn : n = 0
  case neg =>
    have hn' : (n != 0) = true := by rw [bne_iff_ne]; exact hn
    clear hn
    go_enter Tryz.func8, Tryz.ntmps8
    go_wp2_with fail
    go_ret
    exact ⟨HF.out, HB1.out⟩
  subst hn
  cases tx
  case false =>
    go_enter Tryz.func8, Tryz.ntmps8
    go_wp2_with fail
    go_ret
    exact ⟨HF.out, HB1.out⟩
  case true =>
    go_enter Tryz.func8, Tryz.ntmps8
    go_wp2_with fail
    refine (HLG.out _).mono ?_
    rintro e w4 ⟨hlp, hb4⟩
    obtain ⟨g, S, q, rfl, hq⟩ := HK.out _ hlp
    have HQ := Lib.hid hq
    have HB4 := Lib.hid (chain HB1.out hb4 (by omega))
    clear hlp hq hb4
    go_wp2_with fail
    go_ret
    exact ⟨⟨q, rfl, HQ.out⟩, HB4.out.alloc HB4.out.size _⟩
end Go.Proofs.YtlodbibagmblkaaGreatDoor
namespace Go.Proofs.YtlodbibagmblkaaGreatDoor
open Go.RowKit Go.Lib
end Go.Proofs.YtlodbibagmblkaaGreatDoor
namespace Go.Proofs.YtlodbibagmblkaaGreatDoor
open Go Go.RowKit Go.Lib
end Go.Proofs.YtlodbibagmblkaaGreatDoor
namespace Go.Proofs.YtlodbibagmblkaaGreatDoor
open Go Go.RowKit Go.Lib
theorem Pl.ba_eq {a b : ByteArray} : (a.toList == b.toList) = true ↔ a = b := by
  rw [beq_iff_eq, ByteArray.toList_eq, ByteArray.toList_eq]
  cases a; cases b; simp
set_option maxRecDepth 4000 in
set_option maxHeartbeats 2000000 in
theorem slf_any (k n b k' n' b' : Int) (t t' : ByteArray) (a a' : Option Addr) (c c' : Nat) (w : World) :
    Calls Tryz.prog 10 #[litv k n b t (.slice a 0 c), litv k' n' b' t' (.slice a' 0 c')] w fun e w' => e = .returned (.bool (decide (k = k' ∧ n = n' ∧ b = b' ∧ t = t'))) ∧ Below w.heap.size w w' := by
  unfold litv
  go_enter Tryz.func10, Tryz.ntmps10
  go_wp2_with fail
  any_goals
    go_ret
    refine ⟨congrArg (fun z => Ending.returned (.bool z)) (Eq.symm ?_), ((Below.refl _ _).alloc (Nat.le_refl _) _).alloc (by simp) _⟩
    rw [decide_eq_false_iff_not]
    rintro ⟨h1, h2, h3, h4⟩
    have h5 : t.toList = t'.toList := by rw [h4]
    contradiction
  rename_i e1 e2 e3 e4 K1 K2
  have HE := Lib.hid (show decide (k = k' ∧ n = n' ∧ b = b' ∧ t = t') = true from decide_eq_true ⟨e1, e2, e3, Pl.ba_eq.1 (by rw [e4]; exact beq_self_eq_true _)⟩)
  clear e1 e2 e3 e4
  obtain ⟨W0, hW0⟩ : ∃ W0, (w.alloc (.cells #[.int .u8 k', .int .i64 n', .int .u64 b', .string t, .slice a 0 c] 26)).alloc (.cells #[.int .u8 k', .int .i64 n', .int .u64 b', .string t', .slice a' 0 c'] 26) = W0 := ⟨_, rfl⟩
  have HB0 : Hid (Below w.heap.size w W0) := Lib.hid (by rw [← hW0]; exact ((Below.refl _ _).alloc (Nat.le_refl _) _).alloc (by simp) _)
  have c0 : W0.cell? ⟨w.heap.size, 4, none⟩ = some (.slice a 0 c) := by rw [← hW0]; simp [go_sem]
  have c1 : W0.cell? ⟨w.heap.size + 1, 4, none⟩ = some (.slice a' 0 c') := by rw [← hW0]; simp [go_sem]
  rw [hW0]
  clear hW0
  go_loopw [5] (fun iv wr => iv = .int .i64 0 ∧ wr = W0) (fun _ _ => 0)
  case atStart => exact ⟨rfl, rfl⟩
  case round =>
    obtain ⟨rfl, rfl⟩ := hrel
    go_wp2_with fail
    go_ret
    exact ⟨congrArg (fun z => Ending.returned (.bool z)) HE.out.symm, HB0.out⟩
end Go.Proofs.YtlodbibagmblkaaGreatDoor
