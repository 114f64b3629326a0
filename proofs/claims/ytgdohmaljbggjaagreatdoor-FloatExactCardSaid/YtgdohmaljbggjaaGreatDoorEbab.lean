/- The walk of FloatExact. -/
import Derived.Test.YtgdohmaljbggjaaGreatDoorEbaa
import Derived.Test.YtgdohmaljbggjaaGreatDoorOaan
namespace Go.Proofs.YtgdohmaljbggjaaGreatDoor
open Go.RowKit Go.Lib
/-- What Truncate answers of a float that is a whole number. -/
theorem truncate_whole {a : Nat} {n : Int} (h : Fl.Is a (n * 2 ^ Fl.E74)) (w : World) :
    Calls Tryz.prog 27 #[.int .u64 a] w fun en w' => en = .returned (.tuple #[lof n, .int .i64 0]) ∧ Below w.heap.size w w' := by
  have := truncate_fin a _ w h
  rw [cutI_mul] at this
  exact this
theorem of_whole (n : Int) (w : World) (h1 : -9223372036854775808 ≤ n) (h2 : n ≤ 9223372036854775807) :
    Calls Tryz.prog 33 #[.int .i64 n] w fun en w' => en = .returned (lof n) ∧ Below w.heap.size w w' := by
  have := ofn_any n w h1 h2
  rw [ofv_is h1 h2] at this
  exact this
/-- A block of the heap that holds a large number. -/
def Lat (W : World) (C : Nat) (n : Int) : Prop := W.heap[C]? = some (.cells #[.bool (decide (n < 0)), .string (bs (Pl.dgs n.natAbs))] 42)
theorem Lat.below {W W' : World} {C : Nat} {n : Int} (h : Lat W C n) (hb : Below W.heap.size W W') : Lat W' C n := by
  unfold Lat at *
  rw [hb.block _ (Array.getElem?_eq_some_iff.1 h).1]; exact h
theorem Lat.cells {W : World} {C : Nat} {n : Int} (h : Lat W C n) : W.cell? ⟨C, 0, none⟩ = some (.bool (decide (n < 0))) ∧ W.cell? ⟨C, 1, none⟩ = some (.string (bs (Pl.dgs n.natAbs))) ∧ C < W.heap.size := by
  refine ⟨?_, ?_, (Array.getElem?_eq_some_iff.1 h).1⟩
  · unfold Lat at h; simp [World.cell?, h]
  · unfold Lat at h; simp [World.cell?, h]
theorem run_large_neq (a b : Bool) (s t : ByteArray) (w : World) : (binOp .neq 42 (.agg #[.bool a, .string s]) (.agg #[.bool b, .string t])).run Tryz.prog w = .ok (.bool (!(a == b && s.toList == t.toList))) w := by
  have h := run_large_eq a b s t w
  rw [run_eql_struct] at h
  rw [run_neq_struct]
  generalize (Op.equalIn 10000 42 (.agg #[.bool a, .string s]) (.agg #[.bool b, .string t])).run Tryz.prog w = r at h ⊢
  cases r with
  | ok x w' => simp only [Result.andThen_ok, Result.ok.injEq, Value.bool.injEq] at h ⊢; rw [h.1, h.2]; simp
  | _ => simp [Result.andThen] at h
theorem lof_form (n : Int) : ∃ g S, lof n = .agg #[.bool g, .string S] := ⟨_, _, rfl⟩
theorem large_kept {W W' : World} {C : Nat} {g : Bool} {S : ByteArray} (h : W.heap[C]? = some (.cells #[.bool g, .string S] 42)) (hb : Below W.heap.size W W') : W'.heap[C]? = some (.cells #[.bool g, .string S] 42) := by
  rw [hb.block _ (Array.getElem?_eq_some_iff.1 h).1]; exact h
theorem large_cells {W : World} {C : Nat} {g : Bool} {S : ByteArray} (h : W.heap[C]? = some (.cells #[.bool g, .string S] 42)) : W.cell? ⟨C, 0, none⟩ = some (.bool g) ∧ W.cell? ⟨C, 1, none⟩ = some (.string S) ∧ C < W.heap.size :=
  ⟨by simp [World.cell?, h], by simp [World.cell?, h], (Array.getElem?_eq_some_iff.1 h).1⟩
theorem lat_new {w1 w2 : World} {n : Int} (h : w2 = w1.alloc (.cells #[.bool (decide (n < 0)), .string (bs (Pl.dgs n.natAbs))] 42)) : Lat w2 w1.heap.size n ∧ Below w1.heap.size w1 w2 := by
  subst h
  exact ⟨heap_alloc_at _ _, (Below.refl _ _).alloc (Nat.le_refl _) _⟩
theorem exact_far (n m : Int) (w : World) (he : Env w) (h : n < -67108864 ∨ 67108864 < n ∨ m < -67108864 ∨ 67108864 < m) :
    Calls Tryz.prog 8 #[.int .i64 n, .int .i64 m] w fun e w' => e = .returned (.bool true) ∧ Below w.heap.size w w' := by
  have HW := Lib.hid (works_any w he)
  obtain ⟨d1, hd1⟩ : ∃ d, decide (n < -67108864) = d := ⟨_, rfl⟩
  obtain ⟨d2, hd2⟩ : ∃ d, decide (67108864 < n) = d := ⟨_, rfl⟩
  obtain ⟨d3, hd3⟩ : ∃ d, decide (m < -67108864) = d := ⟨_, rfl⟩
  obtain ⟨d4, hd4⟩ : ∃ d, decide (67108864 < m) = d := ⟨_, rfl⟩
  have hl : d1 = true ∨ (d1 = false ∧ d2 = true) ∨ (d1 = false ∧ d2 = false ∧ d3 = true) ∨ (d1 = false ∧ d2 = false ∧ d3 = false ∧ d4 = true) := by
    cases d1 <;> cases d2 <;> cases d3 <;> cases d4 <;> simp at * <;> omega
  clear h he
  rcases hl with rfl | ⟨rfl, rfl⟩ | ⟨rfl, rfl, rfl⟩ | ⟨rfl, rfl, rfl, rfl⟩
  all_goals
    go_enter Tryz.func8, Tryz.ntmps8
    go_wp2_with fail
    refine HW.out.mono ?_
    rintro e w1 ⟨rfl, hb⟩
    go_wp2_with fail
    go_ret
    exact ⟨rfl, hb⟩
set_option maxRecDepth 20000 in
set_option maxHeartbeats 4000000 in
theorem exact_near (n m : Int) (w : World) (he : Env w) (hn : -67108864 ≤ n ∧ n ≤ 67108864) (hm : -67108864 ≤ m ∧ m ≤ 67108864) :
    Calls Tryz.prog 8 #[.int .i64 n, .int .i64 m] w fun e w' => e = .returned (.bool true) ∧ Below w.heap.size w w' := by
  have HW := Lib.hid (works_any w he)
  have hnm : (n * m).natAbs ≤ 4503599627370496 := by
    rw [Int.natAbs_mul]
    exact Nat.mul_le_mul (show n.natAbs ≤ 67108864 by omega) (show m.natAbs ≤ 67108864 by omega)
  have hA : Fl.Is (Fl.fint n) (n * 2 ^ Fl.E74) := Fl.is_int (by omega)
  have hB : Fl.Is (Fl.fint m) (m * 2 ^ Fl.E74) := Fl.is_int (by omega)
  have HA := Lib.hid (fun w => ofsmall_any n w)
  have HB := Lib.hid (fun w => ofsmall_any m w)
  have hS : Fl.Is (Fl.fadd (Fl.fint n) (Fl.fint m)) ((n + m) * 2 ^ Fl.E74) := by
    have := Fl.is_add hA hB (by rw [← Int.add_mul]; exact Fl.fits_int (by omega))
    rw [← Int.add_mul] at this
    exact this
  have H1 := Lib.hid (fun w => add_any (Fl.fint n) (Fl.fint m) w)
  have HT1 := Lib.hid (fun w => truncate_whole hS w)
  have hP : Fl.Is (Fl.fmul (Fl.fint n) (Fl.fint m)) ((n * m) * 2 ^ Fl.E74) := by
    refine Fl.is_mul hA hB ?_ (Fl.fits_int (by omega))
    ac_rfl
  have H2 := Lib.hid (fun w => mul_any (Fl.fint n) (Fl.fint m) w)
  have HT2 := Lib.hid (fun w => truncate_whole hP w)
  have O1 := Lib.hid (fun w => of_whole (n + m) w (by omega) (by omega))
  have O2 := Lib.hid (fun w => of_whole (n * m) w (by omega) (by omega))
  generalize Fl.fint n = a at *
  generalize Fl.fint m = b at *
  generalize Fl.fadd a b = ab at *
  generalize Fl.fmul a b = mb at *
  have hcase : ((m != 0) = false) ∨ ((m != 0) = true ∧ m ≠ 0 ∧ (n.tmod m == 0) = false) ∨ ((m != 0) = true ∧ m ≠ 0 ∧ (n.tmod m == 0) = true ∧ IntKind.i64.wrap (n.tdiv m) = n.tdiv m ∧ Hid (∀ w, Calls Tryz.prog 34 #[.int .u64 a, .int .u64 b] w fun e w' => e = .returned (.int .u64 (Fl.fdiv a b : Nat)) ∧ Below w.heap.size w w') ∧ Hid (∀ w, Calls Tryz.prog 27 #[.int .u64 (Fl.fdiv a b : Nat)] w fun e w' => e = .returned (.tuple #[lof (n.tdiv m), .int .i64 0]) ∧ Below w.heap.size w w') ∧ Hid (∀ w, Calls Tryz.prog 33 #[.int .i64 (n.tdiv m)] w fun e w' => e = .returned (lof (n.tdiv m)) ∧ Below w.heap.size w w')) := by
    by_cases h0 : m = 0
    · left; simp [h0]
    · right
      cases h : (n.tmod m == 0)
      · exact .inl ⟨by simpa using h0, h0, rfl⟩
      · have hq : m * n.tdiv m = n := by
          have := Int.mul_tdiv_add_tmod n m
          have : n.tmod m = 0 := by simpa using h
          omega
        have hqa : (n.tdiv m).natAbs ≤ 67108864 := by
          have h1 := congrArg Int.natAbs hq
          rw [Int.natAbs_mul] at h1
          have h2 : 1 * (n.tdiv m).natAbs ≤ m.natAbs * (n.tdiv m).natAbs := Nat.mul_le_mul_right _ (by omega)
          omega
        refine .inr ⟨by simpa using h0, h0, rfl, by rw [IntKind.wrap_i64]; omega, Lib.hid (fun w => div_any a b w), Lib.hid (fun w => truncate_whole ?_ w), Lib.hid (fun w => of_whole _ w (by omega) (by omega))⟩
        have hp : (0 : Int) < 2 ^ Fl.E74 := Int.pow_pos (by decide)
        refine Fl.is_div hA hB (Int.mul_ne_zero h0 (by omega)) ?_ (Fl.fits_int (by omega))
        generalize (2 : Int) ^ Fl.E74 = P at *
        generalize n.tdiv m = q at *
        rw [← hq]
        ac_rfl
  have hsq : Fl.Is (Fl.fmul a a) ((n * n) * 2 ^ Fl.E74) := Fl.is_mul hA hA (by ac_rfl) (Fl.fits_int (by
    rw [Int.natAbs_mul]
    have := Nat.mul_le_mul (show n.natAbs ≤ 67108864 by omega) (show n.natAbs ≤ 67108864 by omega)
    omega))
  have hrt : Fl.Is (Fl.fsqrt (Fl.fmul a a)) ((n.natAbs : Int) * 2 ^ Fl.E74) := by
    have hE := Fl.E74_is
    have := Fl.is_sqrt (y := n.natAbs * 2 ^ Fl.E74) hsq (by
      push_cast
      have h1 : (n.natAbs : Int) * (n.natAbs : Int) = n * n := Int.natAbs_mul_self
      generalize (2 : Int) ^ Fl.E74 = P
      rw [← h1]
      ac_rfl) ⟨_, _, rfl, by omega, by omega⟩
    push_cast at this
    exact this
  have H4 := Lib.hid (fun w => mul_any a a w)
  have H5 := Lib.hid (fun w => sqrt_any (Fl.fmul a a) w)
  have HT5 := Lib.hid (fun w => truncate_whole hrt w)
  generalize Fl.fsqrt (Fl.fmul a a) = rt at *
  generalize Fl.fmul a a = sq at *
  have hsign : (decide (n < 0) = true ∧ Hid (∀ w, Calls Tryz.prog 33 #[.int .i64 (-n)] w fun e w' => e = .returned (lof (n.natAbs : Int)) ∧ Below w.heap.size w w')) ∨ (decide (n < 0) = false ∧ Hid (∀ w, Calls Tryz.prog 33 #[.int .i64 n] w fun e w' => e = .returned (lof (n.natAbs : Int)) ∧ Below w.heap.size w w')) := by
    by_cases h : n < 0
    · refine .inl ⟨decide_eq_true h, Lib.hid fun w => ?_⟩
      have := of_whole (-n) w (by omega) (by omega)
      rw [show ((n.natAbs : Nat) : Int) = -n by omega]
      exact this
    · refine .inr ⟨decide_eq_false h, Lib.hid fun w => ?_⟩
      have := of_whole n w (by omega) (by omega)
      rw [show ((n.natAbs : Nat) : Int) = n by omega]
      exact this
  clear hsq hrt
  obtain ⟨N, hN⟩ : ∃ N, w.heap.size = N := ⟨_, rfl⟩
  have HB0 : Hid (Below N w w) := Lib.hid (Below.refl _ _)
  have HN0 := Lib.hid (Nat.le_of_eq hN.symm)
  rw [hN]
  clear hN he
  have hd1 : decide (n < -67108864) = false := decide_eq_false (by omega)
  have hd2 : decide (67108864 < n) = false := decide_eq_false (by omega)
  have hd3 : decide (m < -67108864) = false := decide_eq_false (by omega)
  have hd4 : decide (67108864 < m) = false := decide_eq_false (by omega)
  go_enter Tryz.func8, Tryz.ntmps8
  go_wp2_with fail
  refine HW.out.mono ?_
  rintro e w1 ⟨rfl, hb⟩
  have HB1 := Lib.hid (HB0.out.trans (hb.mono HN0.out))
  have HN1 := Lib.hid (Nat.le_trans HN0.out hb.size)
  clear hb HB0 HN0 HW
  go_wp2_with fail
  refine (HA.out _).mono ?_
  rintro e w' ⟨rfl, rfl⟩
  go_wp2_with fail
  refine (HB.out _).mono ?_
  rintro e w' ⟨rfl, rfl⟩
  go_wp2_with fail
  refine (H1.out _).mono ?_
  rintro e w2 ⟨rfl, hb⟩
  have HB2 := Lib.hid (HB1.out.trans (hb.mono HN1.out))
  have HN2 := Lib.hid (Nat.le_trans HN1.out hb.size)
  clear hb HB1 HN1
  go_wp2_with fail
  refine (HT1.out _).mono ?_
  rintro e w3 ⟨rfl, hb⟩
  have HB3 := Lib.hid (HB2.out.trans (hb.mono HN2.out))
  have HN3 := Lib.hid (Nat.le_trans HN2.out hb.size)
  clear hb HB2 HN2
  obtain ⟨g1, S1, hL⟩ := lof_form (n + m)
  have HL1 := Lib.hid hL
  rw [hL]
  rw [hL] at O1
  clear hL
  go_wp2_with fail
  obtain ⟨C1, hC⟩ : ∃ C, w3.heap.size = C := ⟨_, rfl⟩
  have hb : Below w3.heap.size w3 (w3.alloc (.cells #[.bool g1, .string S1] 42)) := (Below.refl _ _).alloc (Nat.le_refl _) _
  have hh : (w3.alloc (.cells #[.bool g1, .string S1] 42)).heap[w3.heap.size]? = some (.cells #[.bool g1, .string S1] 42) := heap_alloc_at _ _
  rw [hC] at hh ⊢
  generalize w3.alloc (.cells #[.bool g1, .string S1] 42) = w4 at hb hh ⊢
  have HB4 := Lib.hid (HB3.out.trans (hb.mono HN3.out))
  have HN4 := Lib.hid (Nat.le_trans HN3.out hb.size)
  have HC4 := Lib.hid hh
  clear hb hh hC HB3 HN3
  refine (H2.out _).mono ?_
  rintro e w5 ⟨rfl, hb⟩
  have HB5 := Lib.hid (HB4.out.trans (hb.mono HN4.out))
  have HN5 := Lib.hid (Nat.le_trans HN4.out hb.size)
  have HC5 := Lib.hid (large_kept HC4.out hb)
  clear hb HB4 HN4 HC4
  go_wp2_with fail
  refine (HT2.out _).mono ?_
  rintro e w6 ⟨rfl, hb⟩
  have HB6 := Lib.hid (HB5.out.trans (hb.mono HN5.out))
  have HN6 := Lib.hid (Nat.le_trans HN5.out hb.size)
  have HC6 := Lib.hid (large_kept HC5.out hb)
  clear hb HB5 HN5 HC5
  obtain ⟨g2, S2, hL⟩ := lof_form (n * m)
  have HL2 := Lib.hid hL
  rw [hL]
  rw [hL] at O2
  clear hL
  go_wp2_with fail
  obtain ⟨C2, hC⟩ : ∃ C, w6.heap.size = C := ⟨_, rfl⟩
  have hb : Below w6.heap.size w6 (w6.alloc (.cells #[.bool g2, .string S2] 42)) := (Below.refl _ _).alloc (Nat.le_refl _) _
  have hh : (w6.alloc (.cells #[.bool g2, .string S2] 42)).heap[w6.heap.size]? = some (.cells #[.bool g2, .string S2] 42) := heap_alloc_at _ _
  rw [hC] at hh ⊢
  generalize w6.alloc (.cells #[.bool g2, .string S2] 42) = w7 at hb hh ⊢
  have HB7 := Lib.hid (HB6.out.trans (hb.mono HN6.out))
  have HN7 := Lib.hid (Nat.le_trans HN6.out hb.size)
  have HC7 := Lib.hid (large_kept HC6.out hb)
  obtain ⟨c0, c1, hc1⟩ := large_cells HC7.out
  obtain ⟨c2, c3, hc2⟩ := large_cells hh
  clear hb hh hC HB6 HN6 HC6 HC7
  have hg := guard_large
  have hq1 : ∀ w, (binOp .neq 42 (.agg #[.bool g1, .string S1]) (.agg #[.bool g1, .string S1])).run Tryz.prog w = .ok (.bool false) w := fun w => by rw [run_large_neq]; simp
  have hq2 : ∀ w, (binOp .neq 42 (.agg #[.bool g2, .string S2]) (.agg #[.bool g2, .string S2])).run Tryz.prog w = .ok (.bool false) w := fun w => by rw [run_large_neq]; simp
  have hw1 : IntKind.i64.wrap (n + m) = n + m := by rw [IntKind.wrap_i64]; omega
  have hw2 : IntKind.i64.wrap (n * m) = n * m := by rw [IntKind.wrap_i64]; omega
  have HFC := Lib.hid (fun (W : World) (hb : Below w7.heap.size w7 W) => show W.cell? ⟨C1, 0, none⟩ = some (.bool g1) ∧ W.cell? ⟨C1, 1, none⟩ = some (.string S1) ∧ W.cell? ⟨C2, 0, none⟩ = some (.bool g2) ∧ W.cell? ⟨C2, 1, none⟩ = some (.string S2) from ⟨by rw [hb.cell (p := ⟨C1, 0, none⟩) hc1]; exact c0, by rw [hb.cell (p := ⟨C1, 1, none⟩) hc1]; exact c1, by rw [hb.cell (p := ⟨C2, 0, none⟩) hc2]; exact c2, by rw [hb.cell (p := ⟨C2, 1, none⟩) hc2]; exact c3⟩)
  go_region_held3 (fun W => W.cell? ⟨C1, 0, none⟩ = some (.bool g1) ∧ W.cell? ⟨C1, 1, none⟩ = some (.string S1) ∧ W.cell? ⟨C2, 0, none⟩ = some (.bool g2) ∧ W.cell? ⟨C2, 1, none⟩ = some (.string S2)) (first | exact ⟨c0, c1, c2, c3⟩ | (refine ⟨?_, ?_, ?_, ?_⟩ <;> assumption)) (first | (have hb8' := hb8; clear hb8'; go_at_call 33; refine (O2.out _).mono ?_; rintro e w9 ⟨rfl, hbd⟩; have hb9 : Below w7.heap.size w7 w9 := hb8.trans (hbd.mono hb8.size); clear hbd; obtain ⟨e0, e1, e2, e3⟩ := HFC.out w9 hb9) | (go_at_call 33; refine (O1.out _).mono ?_; rintro e w8 ⟨rfl, hbd⟩; have hb8 : Below w7.heap.size w7 w8 := (Below.refl _ w7).drew.trans hbd; clear hbd; obtain ⟨d0, d1, d2, d3⟩ := HFC.out w8 hb8))
  have HB9 := Lib.hid (HB7.out.trans (hb9.mono HN7.out))
  have HN9 := Lib.hid (Nat.le_trans HN7.out hb9.size)
  clear hb8 hb9 HB7 HN7 d0 d1 d2 d3 e0 e1 e2 e3 HFC c0 c1 c2 c3 hc1 hc2 hq1 hq2 O1 O2 H1 H2 HT1 HT2 HL1 HL2 hS hP hA hB HA HB hd1 hd2 hd3 hd4 hw1 hw2 hg
  rcases hcase with hz | ⟨hz, hz0, hr⟩ | ⟨hz, hz0, hr, hw3, H3, HT3, O3⟩
  · go_wp2_with fail
    rcases hsign with ⟨hs, O5⟩ | ⟨hs, O5⟩
    all_goals
      refine (H4.out _).mono ?_
      rintro e w20 ⟨rfl, hb⟩
      have HB20 := Lib.hid (HB9.out.trans (hb.mono HN9.out))
      have HN20 := Lib.hid (Nat.le_trans HN9.out hb.size)
      clear hb HB9 HN9
      go_wp2_with fail
      refine (H5.out _).mono ?_
      rintro e w21 ⟨rfl, hb⟩
      have HB21 := Lib.hid (HB20.out.trans (hb.mono HN20.out))
      have HN21 := Lib.hid (Nat.le_trans HN20.out hb.size)
      clear hb HB20 HN20
      go_wp2_with fail
      refine (HT5.out _).mono ?_
      rintro e w22 ⟨rfl, hb⟩
      have HB22 := Lib.hid (HB21.out.trans (hb.mono HN21.out))
      have HN22 := Lib.hid (Nat.le_trans HN21.out hb.size)
      clear hb HB21 HN21
      obtain ⟨g5, S5, hL⟩ := lof_form (n.natAbs : Int)
      rw [hL]
      rw [hL] at O5
      clear hL
      go_wp2_with fail
      obtain ⟨C5, hC⟩ : ∃ C, w22.heap.size = C := ⟨_, rfl⟩
      have hb : Below w22.heap.size w22 (w22.alloc (.cells #[.bool g5, .string S5] 42)) := (Below.refl _ _).alloc (Nat.le_refl _) _
      have hh : (w22.alloc (.cells #[.bool g5, .string S5] 42)).heap[w22.heap.size]? = some (.cells #[.bool g5, .string S5] 42) := heap_alloc_at _ _
      rw [hC] at hh ⊢
      generalize w22.alloc (.cells #[.bool g5, .string S5] 42) = w23 at hb hh ⊢
      have HB23 := Lib.hid (HB22.out.trans (hb.mono HN22.out))
      have HN23 := Lib.hid (Nat.le_trans HN22.out hb.size)
      obtain ⟨c0, c1, hc1⟩ := large_cells hh
      clear hb hh hC HB22 HN22
      have hg := guard_large
      have hq1 : ∀ w, (binOp .eql 42 (.agg #[.bool g5, .string S5]) (.agg #[.bool g5, .string S5])).run Tryz.prog w = .ok (.bool true) w := fun w => by rw [run_large_eq]; simp
      have HFC := Lib.hid (fun (W : World) (hb : Below w23.heap.size w23 W) => show W.cell? ⟨C5, 0, none⟩ = some (.bool g5) ∧ W.cell? ⟨C5, 1, none⟩ = some (.string S5) from ⟨by rw [hb.cell (p := ⟨C5, 0, none⟩) hc1]; exact c0, by rw [hb.cell (p := ⟨C5, 1, none⟩) hc1]; exact c1⟩)
      go_region_held3 (fun W => W.cell? ⟨C5, 0, none⟩ = some (.bool g5) ∧ W.cell? ⟨C5, 1, none⟩ = some (.string S5)) (first | exact ⟨c0, c1⟩ | (refine ⟨?_, ?_⟩ <;> assumption)) (first | (go_at_call 33; refine (O5.out _).mono ?_; rintro e w24 ⟨rfl, hbd⟩; have hb : Below w23.heap.size w23 w24 := (Below.refl _ w23).drew.trans hbd; clear hbd; obtain ⟨d0, d1⟩ := HFC.out w24 hb))
      have HB24 := Lib.hid (HB23.out.trans (hb.mono HN23.out))
      have HN24 := Lib.hid (Nat.le_trans HN23.out hb.size)
      clear hb HB23 HN23 HFC c0 c1 hc1 hq1 d0 d1
      go_wp2_with fail
      go_ret
      exact ⟨rfl, HB24.out⟩
  · go_wp2_with fail
    rcases hsign with ⟨hs, O5⟩ | ⟨hs, O5⟩
    all_goals
      refine (H4.out _).mono ?_
      rintro e w20 ⟨rfl, hb⟩
      have HB20 := Lib.hid (HB9.out.trans (hb.mono HN9.out))
      have HN20 := Lib.hid (Nat.le_trans HN9.out hb.size)
      clear hb HB9 HN9
      go_wp2_with fail
      refine (H5.out _).mono ?_
      rintro e w21 ⟨rfl, hb⟩
      have HB21 := Lib.hid (HB20.out.trans (hb.mono HN20.out))
      have HN21 := Lib.hid (Nat.le_trans HN20.out hb.size)
      clear hb HB20 HN20
      go_wp2_with fail
      refine (HT5.out _).mono ?_
      rintro e w22 ⟨rfl, hb⟩
      have HB22 := Lib.hid (HB21.out.trans (hb.mono HN21.out))
      have HN22 := Lib.hid (Nat.le_trans HN21.out hb.size)
      clear hb HB21 HN21
      obtain ⟨g5, S5, hL⟩ := lof_form (n.natAbs : Int)
      rw [hL]
      rw [hL] at O5
      clear hL
      go_wp2_with fail
      obtain ⟨C5, hC⟩ : ∃ C, w22.heap.size = C := ⟨_, rfl⟩
      have hb : Below w22.heap.size w22 (w22.alloc (.cells #[.bool g5, .string S5] 42)) := (Below.refl _ _).alloc (Nat.le_refl _) _
      have hh : (w22.alloc (.cells #[.bool g5, .string S5] 42)).heap[w22.heap.size]? = some (.cells #[.bool g5, .string S5] 42) := heap_alloc_at _ _
      rw [hC] at hh ⊢
      generalize w22.alloc (.cells #[.bool g5, .string S5] 42) = w23 at hb hh ⊢
      have HB23 := Lib.hid (HB22.out.trans (hb.mono HN22.out))
      have HN23 := Lib.hid (Nat.le_trans HN22.out hb.size)
      obtain ⟨c0, c1, hc1⟩ := large_cells hh
      clear hb hh hC HB22 HN22
      have hg := guard_large
      have hq1 : ∀ w, (binOp .eql 42 (.agg #[.bool g5, .string S5]) (.agg #[.bool g5, .string S5])).run Tryz.prog w = .ok (.bool true) w := fun w => by rw [run_large_eq]; simp
      have HFC := Lib.hid (fun (W : World) (hb : Below w23.heap.size w23 W) => show W.cell? ⟨C5, 0, none⟩ = some (.bool g5) ∧ W.cell? ⟨C5, 1, none⟩ = some (.string S5) from ⟨by rw [hb.cell (p := ⟨C5, 0, none⟩) hc1]; exact c0, by rw [hb.cell (p := ⟨C5, 1, none⟩) hc1]; exact c1⟩)
      go_region_held3 (fun W => W.cell? ⟨C5, 0, none⟩ = some (.bool g5) ∧ W.cell? ⟨C5, 1, none⟩ = some (.string S5)) (first | exact ⟨c0, c1⟩ | (refine ⟨?_, ?_⟩ <;> assumption)) (first | (go_at_call 33; refine (O5.out _).mono ?_; rintro e w24 ⟨rfl, hbd⟩; have hb : Below w23.heap.size w23 w24 := (Below.refl _ w23).drew.trans hbd; clear hbd; obtain ⟨d0, d1⟩ := HFC.out w24 hb))
      have HB24 := Lib.hid (HB23.out.trans (hb.mono HN23.out))
      have HN24 := Lib.hid (Nat.le_trans HN23.out hb.size)
      clear hb HB23 HN23 HFC c0 c1 hc1 hq1 d0 d1
      go_wp2_with fail
      go_ret
      exact ⟨rfl, HB24.out⟩
  · go_wp2_with fail
    refine (H3.out _).mono ?_
    rintro e w10 ⟨rfl, hb⟩
    have HB10 := Lib.hid (HB9.out.trans (hb.mono HN9.out))
    have HN10 := Lib.hid (Nat.le_trans HN9.out hb.size)
    clear hb HB9 HN9
    go_wp2_with fail
    refine (HT3.out _).mono ?_
    rintro e w11 ⟨rfl, hb⟩
    have HB11 := Lib.hid (HB10.out.trans (hb.mono HN10.out))
    have HN11 := Lib.hid (Nat.le_trans HN10.out hb.size)
    clear hb HB10 HN10
    obtain ⟨g3, S3, hL⟩ := lof_form (n.tdiv m)
    rw [hL]
    rw [hL] at O3
    clear hL
    go_wp2_with fail
    obtain ⟨C3, hC⟩ : ∃ C, w11.heap.size = C := ⟨_, rfl⟩
    have hb : Below w11.heap.size w11 (w11.alloc (.cells #[.bool g3, .string S3] 42)) := (Below.refl _ _).alloc (Nat.le_refl _) _
    have hh : (w11.alloc (.cells #[.bool g3, .string S3] 42)).heap[w11.heap.size]? = some (.cells #[.bool g3, .string S3] 42) := heap_alloc_at _ _
    rw [hC] at hh ⊢
    generalize w11.alloc (.cells #[.bool g3, .string S3] 42) = w12 at hb hh ⊢
    have HB12 := Lib.hid (HB11.out.trans (hb.mono HN11.out))
    have HN12 := Lib.hid (Nat.le_trans HN11.out hb.size)
    obtain ⟨c0, c1, hc1⟩ := large_cells hh
    clear hb hh hC HB11 HN11
    have hg := guard_large
    have hq1 : ∀ w, (binOp .neq 42 (.agg #[.bool g3, .string S3]) (.agg #[.bool g3, .string S3])).run Tryz.prog w = .ok (.bool false) w := fun w => by rw [run_large_neq]; simp
    have HFC := Lib.hid (fun (W : World) (hb : Below w12.heap.size w12 W) => show W.cell? ⟨C3, 0, none⟩ = some (.bool g3) ∧ W.cell? ⟨C3, 1, none⟩ = some (.string S3) from ⟨by rw [hb.cell (p := ⟨C3, 0, none⟩) hc1]; exact c0, by rw [hb.cell (p := ⟨C3, 1, none⟩) hc1]; exact c1⟩)
    go_region_held3 (fun W => W.cell? ⟨C3, 0, none⟩ = some (.bool g3) ∧ W.cell? ⟨C3, 1, none⟩ = some (.string S3)) (first | exact ⟨c0, c1⟩ | (refine ⟨?_, ?_⟩ <;> assumption)) (first | (go_at_call 33; refine (O3.out _).mono ?_; rintro e w13 ⟨rfl, hbd⟩; have hb : Below w12.heap.size w12 w13 := (Below.refl _ w12).drew.trans hbd; clear hbd; obtain ⟨d0, d1⟩ := HFC.out w13 hb))
    have HB13 := Lib.hid (HB12.out.trans (hb.mono HN12.out))
    have HN13 := Lib.hid (Nat.le_trans HN12.out hb.size)
    clear hb HB12 HN12 HFC c0 c1 hc1 hq1 d0 d1
    have HB9 := HB13
    have HN9 := HN13
    clear HB13 HN13 hg
    go_wp2_with fail
    rcases hsign with ⟨hs, O5⟩ | ⟨hs, O5⟩
    all_goals
      refine (H4.out _).mono ?_
      rintro e w20 ⟨rfl, hb⟩
      have HB20 := Lib.hid (HB9.out.trans (hb.mono HN9.out))
      have HN20 := Lib.hid (Nat.le_trans HN9.out hb.size)
      clear hb HB9 HN9
      go_wp2_with fail
      refine (H5.out _).mono ?_
      rintro e w21 ⟨rfl, hb⟩
      have HB21 := Lib.hid (HB20.out.trans (hb.mono HN20.out))
      have HN21 := Lib.hid (Nat.le_trans HN20.out hb.size)
      clear hb HB20 HN20
      go_wp2_with fail
      refine (HT5.out _).mono ?_
      rintro e w22 ⟨rfl, hb⟩
      have HB22 := Lib.hid (HB21.out.trans (hb.mono HN21.out))
      have HN22 := Lib.hid (Nat.le_trans HN21.out hb.size)
      clear hb HB21 HN21
      obtain ⟨g5, S5, hL⟩ := lof_form (n.natAbs : Int)
      rw [hL]
      rw [hL] at O5
      clear hL
      go_wp2_with fail
      obtain ⟨C5, hC⟩ : ∃ C, w22.heap.size = C := ⟨_, rfl⟩
      have hb : Below w22.heap.size w22 (w22.alloc (.cells #[.bool g5, .string S5] 42)) := (Below.refl _ _).alloc (Nat.le_refl _) _
      have hh : (w22.alloc (.cells #[.bool g5, .string S5] 42)).heap[w22.heap.size]? = some (.cells #[.bool g5, .string S5] 42) := heap_alloc_at _ _
      rw [hC] at hh ⊢
      generalize w22.alloc (.cells #[.bool g5, .string S5] 42) = w23 at hb hh ⊢
      have HB23 := Lib.hid (HB22.out.trans (hb.mono HN22.out))
      have HN23 := Lib.hid (Nat.le_trans HN22.out hb.size)
      obtain ⟨c0, c1, hc1⟩ := large_cells hh
      clear hb hh hC HB22 HN22
      have hg := guard_large
      have hq1 : ∀ w, (binOp .eql 42 (.agg #[.bool g5, .string S5]) (.agg #[.bool g5, .string S5])).run Tryz.prog w = .ok (.bool true) w := fun w => by rw [run_large_eq]; simp
      have HFC := Lib.hid (fun (W : World) (hb : Below w23.heap.size w23 W) => show W.cell? ⟨C5, 0, none⟩ = some (.bool g5) ∧ W.cell? ⟨C5, 1, none⟩ = some (.string S5) from ⟨by rw [hb.cell (p := ⟨C5, 0, none⟩) hc1]; exact c0, by rw [hb.cell (p := ⟨C5, 1, none⟩) hc1]; exact c1⟩)
      go_region_held3 (fun W => W.cell? ⟨C5, 0, none⟩ = some (.bool g5) ∧ W.cell? ⟨C5, 1, none⟩ = some (.string S5)) (first | exact ⟨c0, c1⟩ | (refine ⟨?_, ?_⟩ <;> assumption)) (first | (go_at_call 33; refine (O5.out _).mono ?_; rintro e w24 ⟨rfl, hbd⟩; have hb : Below w23.heap.size w23 w24 := (Below.refl _ w23).drew.trans hbd; clear hbd; obtain ⟨d0, d1⟩ := HFC.out w24 hb))
      have HB24 := Lib.hid (HB23.out.trans (hb.mono HN23.out))
      have HN24 := Lib.hid (Nat.le_trans HN23.out hb.size)
      clear hb HB23 HN23 HFC c0 c1 hc1 hq1 d0 d1
      go_wp2_with fail
      go_ret
      exact ⟨rfl, HB24.out⟩
theorem exact_any (n m : Int) (w : World) (_ : -9223372036854775808 ≤ n) (_ : n ≤ 9223372036854775807) (_ : -9223372036854775808 ≤ m) (_ : m ≤ 9223372036854775807) (he : Env w) :
    Calls Tryz.prog 8 #[.int .i64 n, .int .i64 m] w fun e w' => e = .returned (.bool true) ∧ Below w.heap.size w w' := by
  by_cases h : n < -67108864 ∨ 67108864 < n ∨ m < -67108864 ∨ 67108864 < m
  · exact exact_far n m w he h
  · exact exact_near n m w he (by omega) (by omega)
end Go.Proofs.YtgdohmaljbggjaaGreatDoor
