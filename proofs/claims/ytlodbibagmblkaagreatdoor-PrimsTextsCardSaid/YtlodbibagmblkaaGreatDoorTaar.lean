/- A large integer as a value: the contract of of (printed by gen_pol.py). A string or a symbol as a value: the contract of of (printed by gen_pol.py). Rows of values that the call owns; functions by their values. A primitive done: the contract of Do. Which primitives the table has. A primitive that fails, since an argument is no value: the contract of Do. -/
import Derived.Test.YtlodbibagmblkaaGreatDoorTaan
import Derived.Test.YtlodbibagmblkaaGreatDoorTaaq
namespace Go.Proofs.YtlodbibagmblkaaGreatDoor
open Go.RowKit Go.Lib
set_option maxRecDepth 4000 in
set_option maxHeartbeats 4000000 in
theorem of_large (l : List UInt8) (n : Int) (ia : Option Addr) (ic : Nat) (w : World) (hl : l.length ≤ 300000) (hn : Pl.Big n) (ht : Pl.IntT 10 l n) :
    Calls Tryz.prog 19 #[litv 5 0 0 (bs l) (.slice ia 0 ic), .int .u8 73] w fun e w' => e = .returned (.tuple #[valv 5 0 0 (bs l) (.slice ia 0 ic) (decide (n < 0)) (bs (Pl.dgs n.natAbs)), .bool (!decide (FitsI n))]) ∧ Below w.heap.size w w' := by
  have HPA : Hid (∀ W, Calls Tryz.prog 59 #[.string (bs l), .int .i64 10] W fun e w' => e = .returned (.tuple #[.agg #[.bool (decide (n < 0)), .string (bs (Pl.dgs n.natAbs))], .int .i64 0]) ∧ Below W.heap.size W w') := Lib.hid (fun W => (lparse_any l W hl).mono fun e w' h => by
    obtain ⟨h1, h2⟩ := h
    refine ⟨?_, h2⟩
    rcases h1 with ⟨m, hm, rfl⟩ | ⟨hno, _⟩
    · have e := Pl.intT_val (by decide) ht hm
      subst e
      unfold toldv
      rw [if_pos hn]
      rfl
    · exact absurd ht (hno n))
  have HSM : Hid (∀ W, Calls Tryz.prog 60 #[.agg #[.bool (decide (n < 0)), .string (bs (Pl.dgs n.natAbs))]] W fun e w' => e = .returned (smallv n) ∧ Below W.heap.size W w') := Lib.hid (fun W => lsmall_any n W hn)
  have HFT := Lib.hid (fun W => fits_any n W)
  generalize decide (n < 0) = g at *
  generalize bs (Pl.dgs n.natAbs) = S at *
  generalize bs l = t at *
  have HO := Lib.hid (OfW.new w 5 0 0 t (.slice ia 0 ic))
  obtain ⟨W4, hW4⟩ : ∃ W4, (((w.alloc (.cells #[.int .u8 5, .int .i64 0, .int .u64 0, .string t, .slice ia 0 ic] 26)).alloc (.cells #[.int .u8 0, .int .i64 0, .int .u64 0, .string ⟨#[]⟩, .slice none 0 0, .bool false, .string ⟨#[]⟩] 54)).alloc (.cells #[.int .u8 5, .int .i64 0, .int .u64 0, .string t, .slice ia 0 ic, .bool false, .string ⟨#[]⟩] 54)).alloc (.cells #[.int .u8 5, .int .i64 0, .int .u64 0, .string t, .slice ia 0 ic] 26) = W4 := ⟨_, rfl⟩
  rw [hW4] at HO
  unfold litv valv
  obtain ⟨a0, a1, a2, a3, a4, _, _, _, _, _⟩ := HO.out.l.cells
  have key : (FitsI n ∧ smallv n = .tuple #[.int .i64 n, .bool true]) ∨ (¬ FitsI n ∧ smallv n = .tuple #[.int .i64 n, .bool true]) ∨ (¬ FitsI n ∧ smallv n = .tuple #[.int .i64 0, .bool false]) := by
    unfold smallv
    by_cases h1 : FitsI n
    · exact .inl ⟨h1, by rw [if_pos]; unfold FitsI at h1; unfold In64; omega⟩
    · by_cases h2 : In64 n
      · exact .inr (.inl ⟨h1, by rw [if_pos h2]⟩)
      · exact .inr (.inr ⟨h1, by rw [if_neg h2]⟩)
  rcases key with ⟨h1, h2⟩ | ⟨h1, h2⟩ | ⟨h1, h2⟩
  · rw [show decide (FitsI n) = true from decide_eq_true h1] at HFT ⊢
    rw [h2] at HSM
    go_enter Tryz.func19, Tryz.ntmps19
    go_wp2_with fail
    refine (HPA.out _).mono ?_
    rintro e w5 ⟨rfl, hb5⟩
    obtain ⟨W6, hW6⟩ : ∃ W6, w5.alloc (.cells #[.bool g, .string S] 43) = W6 := ⟨_, rfl⟩
    have hb6 : Below w5.heap.size w5 W6 := by rw [← hW6]; exact (Below.refl _ _).alloc (Nat.le_refl _) _
    have H6 := Lib.hid ((HO.out.below hb5).below hb6)
    have C6 : Hid (P2 W6 w5.heap.size 43 (.bool g) (.string S)) := Lib.hid (by rw [← hW6]; exact P2.new _ _ _ _)
    have hsz := (HO.out.below hb5).size
    clear hb5 hb6 a0 a1 a2 a3 a4
    obtain ⟨c0, c1, _, _⟩ := C6.out.cells
    go_wp2_with fail
    refine (HSM.out _).mono ?_
    rintro e w7 ⟨rfl, hb7⟩
    have H7 := Lib.hid (H6.out.below hb7)
    have C7 := Lib.hid (C6.out.below hb7)
    have H9 := Lib.hid (H7.out.large g S)
    clear c0 c1 hb7 hW6
    obtain ⟨c0, c1, _, _⟩ := C7.out.cells
    obtain ⟨u0, u1, u2, u3, u4, u5, u6, _, _, _, _, _, u15, u16⟩ := H7.out.u.cells
    obtain ⟨W9, hW9⟩ : ∃ W9, (w7.setCell ⟨w.heap.size + 2, 5, none⟩ (.bool g)).setCell ⟨w.heap.size + 2, 6, none⟩ (.string S) = W9 := ⟨_, rfl⟩
    rw [hW9] at H9
    obtain ⟨a0, a1, a2, a3, a4, _, _, _, _, _⟩ := H9.out.l.cells
    obtain ⟨q0, q1, q2, q3, q4, q5, q6, q7, q8, q9⟩ := H9.out.q.cells
    have H8 := Lib.hid H9.out.empty
    obtain ⟨W8, hW8⟩ : ∃ W8, W9.setCell ⟨w.heap.size + 3, 3, none⟩ (.string ⟨#[]⟩) = W8 := ⟨_, rfl⟩
    rw [hW8] at H8
    go_wp2_with fail
    refine (HFT.out _).mono ?_
    rintro e w10 ⟨rfl, rfl⟩
    clear u0 u1 u2 u3 u4 u5 u6 u15 u16
    obtain ⟨u0, u1, u2, u3, u4, u5, u6, _, _, _, _, _, _, _⟩ := H8.out.u.cells
    obtain ⟨s0, s1, s2, s3, s4, _, _, _, _, _⟩ := H8.out.q.cells
    obtain ⟨r0, r1, r2, r3, r4, r5, r6, f0, f1, f2, f3, f4, f5, f6⟩ := H8.out.r.cells
    go_wp2_with fail
    go_region
    go_wp2_with fail
    have hk := (H8.out.r.set (.int .u8 5) (.int .i64 0) (.int .u64 0) (.string t) (.slice ia 0 ic) (.bool g) (.string S)).drew.cells
    have hB := (below_set7 H8.out.low (show w.heap.size ≤ w.heap.size + 1 by omega) (.int .u8 5) (.int .i64 0) (.int .u64 0) (.string t) (.slice ia 0 ic) (.bool g) (.string S)).drew
    clear u0 u1 u2 u3 u4 u5 u6 s0 s1 s2 s3 s4 r0 r1 r2 r3 r4 r5 r6 f0 f1 f2 f3 f4 f5 f6 c0 c1
    generalize hWf : (set7 W8 (w.heap.size + 1) (.int .u8 5) (.int .i64 0) (.int .u64 0) (.string t) (.slice ia 0 ic) (.bool g) (.string S)).drew = Wf at hk hB
    clear hWf
    obtain ⟨k0, k1, k2, k3, k4, k5, k6, _, _, _, _, _, _, _⟩ := hk
    exact bodyPost_ret (v := .tuple #[.agg #[.int .u8 5, .int .i64 0, .int .u64 0, .string t, .slice ia 0 ic, .bool g, .string S], .bool false]) (by simp [results, Tryz.results19, go_sem, k0, k1, k2, k3, k4, k5, k6]) rfl ⟨rfl, hB⟩
  · rw [show decide (FitsI n) = false from decide_eq_false h1] at HFT ⊢
    rw [h2] at HSM
    go_enter Tryz.func19, Tryz.ntmps19
    go_wp2_with fail
    refine (HPA.out _).mono ?_
    rintro e w5 ⟨rfl, hb5⟩
    obtain ⟨W6, hW6⟩ : ∃ W6, w5.alloc (.cells #[.bool g, .string S] 43) = W6 := ⟨_, rfl⟩
    have hb6 : Below w5.heap.size w5 W6 := by rw [← hW6]; exact (Below.refl _ _).alloc (Nat.le_refl _) _
    have H6 := Lib.hid ((HO.out.below hb5).below hb6)
    have C6 : Hid (P2 W6 w5.heap.size 43 (.bool g) (.string S)) := Lib.hid (by rw [← hW6]; exact P2.new _ _ _ _)
    have hsz := (HO.out.below hb5).size
    clear hb5 hb6 a0 a1 a2 a3 a4
    obtain ⟨c0, c1, _, _⟩ := C6.out.cells
    go_wp2_with fail
    refine (HSM.out _).mono ?_
    rintro e w7 ⟨rfl, hb7⟩
    have H7 := Lib.hid (H6.out.below hb7)
    have C7 := Lib.hid (C6.out.below hb7)
    have H9 := Lib.hid (H7.out.large g S)
    clear c0 c1 hb7 hW6
    obtain ⟨c0, c1, _, _⟩ := C7.out.cells
    obtain ⟨u0, u1, u2, u3, u4, u5, u6, _, _, _, _, _, u15, u16⟩ := H7.out.u.cells
    obtain ⟨W9, hW9⟩ : ∃ W9, (w7.setCell ⟨w.heap.size + 2, 5, none⟩ (.bool g)).setCell ⟨w.heap.size + 2, 6, none⟩ (.string S) = W9 := ⟨_, rfl⟩
    rw [hW9] at H9
    obtain ⟨a0, a1, a2, a3, a4, _, _, _, _, _⟩ := H9.out.l.cells
    obtain ⟨q0, q1, q2, q3, q4, q5, q6, q7, q8, q9⟩ := H9.out.q.cells
    have H8 := Lib.hid H9.out.empty
    obtain ⟨W8, hW8⟩ : ∃ W8, W9.setCell ⟨w.heap.size + 3, 3, none⟩ (.string ⟨#[]⟩) = W8 := ⟨_, rfl⟩
    rw [hW8] at H8
    go_wp2_with fail
    refine (HFT.out _).mono ?_
    rintro e w10 ⟨rfl, rfl⟩
    clear u0 u1 u2 u3 u4 u5 u6 u15 u16
    obtain ⟨u0, u1, u2, u3, u4, u5, u6, _, _, _, _, _, _, _⟩ := H8.out.u.cells
    obtain ⟨s0, s1, s2, s3, s4, _, _, _, _, _⟩ := H8.out.q.cells
    obtain ⟨r0, r1, r2, r3, r4, r5, r6, f0, f1, f2, f3, f4, f5, f6⟩ := H8.out.r.cells
    go_wp2_with fail
    go_region
    go_wp2_with fail
    have hk := (H8.out.r.set (.int .u8 5) (.int .i64 0) (.int .u64 0) (.string t) (.slice ia 0 ic) (.bool g) (.string S)).drew.cells
    have hB := (below_set7 H8.out.low (show w.heap.size ≤ w.heap.size + 1 by omega) (.int .u8 5) (.int .i64 0) (.int .u64 0) (.string t) (.slice ia 0 ic) (.bool g) (.string S)).drew
    clear u0 u1 u2 u3 u4 u5 u6 s0 s1 s2 s3 s4 r0 r1 r2 r3 r4 r5 r6 f0 f1 f2 f3 f4 f5 f6 c0 c1
    generalize hWf : (set7 W8 (w.heap.size + 1) (.int .u8 5) (.int .i64 0) (.int .u64 0) (.string t) (.slice ia 0 ic) (.bool g) (.string S)).drew = Wf at hk hB
    clear hWf
    obtain ⟨k0, k1, k2, k3, k4, k5, k6, _, _, _, _, _, _, _⟩ := hk
    exact bodyPost_ret (v := .tuple #[.agg #[.int .u8 5, .int .i64 0, .int .u64 0, .string t, .slice ia 0 ic, .bool g, .string S], .bool true]) (by simp [results, Tryz.results19, go_sem, k0, k1, k2, k3, k4, k5, k6]) rfl ⟨rfl, hB⟩
  · rw [show decide (FitsI n) = false from decide_eq_false h1] at HFT ⊢
    rw [h2] at HSM
    go_enter Tryz.func19, Tryz.ntmps19
    go_wp2_with fail
    refine (HPA.out _).mono ?_
    rintro e w5 ⟨rfl, hb5⟩
    obtain ⟨W6, hW6⟩ : ∃ W6, w5.alloc (.cells #[.bool g, .string S] 43) = W6 := ⟨_, rfl⟩
    have hb6 : Below w5.heap.size w5 W6 := by rw [← hW6]; exact (Below.refl _ _).alloc (Nat.le_refl _) _
    have H6 := Lib.hid ((HO.out.below hb5).below hb6)
    have C6 : Hid (P2 W6 w5.heap.size 43 (.bool g) (.string S)) := Lib.hid (by rw [← hW6]; exact P2.new _ _ _ _)
    have hsz := (HO.out.below hb5).size
    clear hb5 hb6 a0 a1 a2 a3 a4
    obtain ⟨c0, c1, _, _⟩ := C6.out.cells
    go_wp2_with fail
    refine (HSM.out _).mono ?_
    rintro e w7 ⟨rfl, hb7⟩
    have H7 := Lib.hid (H6.out.below hb7)
    have C7 := Lib.hid (C6.out.below hb7)
    have H9 := Lib.hid (H7.out.large g S)
    clear c0 c1 hb7 hW6
    obtain ⟨c0, c1, _, _⟩ := C7.out.cells
    obtain ⟨u0, u1, u2, u3, u4, u5, u6, _, _, _, _, _, u15, u16⟩ := H7.out.u.cells
    obtain ⟨W9, hW9⟩ : ∃ W9, (w7.setCell ⟨w.heap.size + 2, 5, none⟩ (.bool g)).setCell ⟨w.heap.size + 2, 6, none⟩ (.string S) = W9 := ⟨_, rfl⟩
    rw [hW9] at H9
    obtain ⟨a0, a1, a2, a3, a4, _, _, _, _, _⟩ := H9.out.l.cells
    obtain ⟨q0, q1, q2, q3, q4, q5, q6, q7, q8, q9⟩ := H9.out.q.cells
    have H8 := Lib.hid H9.out.empty
    obtain ⟨W8, hW8⟩ : ∃ W8, W9.setCell ⟨w.heap.size + 3, 3, none⟩ (.string ⟨#[]⟩) = W8 := ⟨_, rfl⟩
    rw [hW8] at H8
    obtain ⟨v0, v1, v2, v3, v4, v5, v6, _, _, _, _, _, _, _⟩ := H8.out.u.cells
    obtain ⟨s0, s1, s2, s3, s4, _, _, _, _, _⟩ := H8.out.q.cells
    obtain ⟨r0, r1, r2, r3, r4, r5, r6, f0, f1, f2, f3, f4, f5, f6⟩ := H8.out.r.cells
    go_wp2_with fail
    go_region
    go_wp2_with fail
    have hk := (H8.out.r.set (.int .u8 5) (.int .i64 0) (.int .u64 0) (.string t) (.slice ia 0 ic) (.bool g) (.string S)).drew.cells
    have hB := (below_set7 H8.out.low (show w.heap.size ≤ w.heap.size + 1 by omega) (.int .u8 5) (.int .i64 0) (.int .u64 0) (.string t) (.slice ia 0 ic) (.bool g) (.string S)).drew
    clear v0 v1 v2 v3 v4 v5 v6 s0 s1 s2 s3 s4 r0 r1 r2 r3 r4 r5 r6 f0 f1 f2 f3 f4 f5 f6 c0 c1
    generalize hWf : (set7 W8 (w.heap.size + 1) (.int .u8 5) (.int .i64 0) (.int .u64 0) (.string t) (.slice ia 0 ic) (.bool g) (.string S)).drew = Wf at hk hB
    clear hWf
    obtain ⟨k0, k1, k2, k3, k4, k5, k6, _, _, _, _, _, _, _⟩ := hk
    exact bodyPost_ret (v := .tuple #[.agg #[.int .u8 5, .int .i64 0, .int .u64 0, .string t, .slice ia 0 ic, .bool g, .string S], .bool true]) (by simp [results, Tryz.results19, go_sem, k0, k1, k2, k3, k4, k5, k6]) rfl ⟨rfl, hB⟩
end Go.Proofs.YtlodbibagmblkaaGreatDoor
namespace Go.Proofs.YtlodbibagmblkaaGreatDoor
open Go.RowKit Go.Lib
set_option maxRecDepth 4000 in
set_option maxHeartbeats 4000000 in
theorem of_str (t : ByteArray) (ia : Option Addr) (ic : Nat) (w : World) (ht : t.size ≤ 65536) :
    Calls Tryz.prog 19 #[litv 8 0 0 t (.slice ia 0 ic), .int .u8 83] w fun e w' => e = .returned (.tuple #[valv 8 0 0 t (.slice ia 0 ic) false ⟨#[]⟩, .bool true]) ∧ Below w.heap.size w w' := by
  have hd : decide ((t.size : Int) ≤ 65536) = true := decide_eq_true (by omega)
  have HO := Lib.hid (OfW.new w 8 0 0 t (.slice ia 0 ic))
  obtain ⟨W4, hW4⟩ : ∃ W4, (((w.alloc (.cells #[.int .u8 8, .int .i64 0, .int .u64 0, .string t, .slice ia 0 ic] 26)).alloc (.cells #[.int .u8 0, .int .i64 0, .int .u64 0, .string ⟨#[]⟩, .slice none 0 0, .bool false, .string ⟨#[]⟩] 54)).alloc (.cells #[.int .u8 8, .int .i64 0, .int .u64 0, .string t, .slice ia 0 ic, .bool false, .string ⟨#[]⟩] 54)).alloc (.cells #[.int .u8 8, .int .i64 0, .int .u64 0, .string t, .slice ia 0 ic] 26) = W4 := ⟨_, rfl⟩
  rw [hW4] at HO
  unfold litv valv
  obtain ⟨a0, a1, a2, a3, a4, _, _, _, _, _⟩ := HO.out.l.cells
  have H8 := Lib.hid HO.out.empty
  obtain ⟨W8, hW8⟩ : ∃ W8, W4.setCell ⟨w.heap.size + 3, 3, none⟩ (.string ⟨#[]⟩) = W8 := ⟨_, rfl⟩
  rw [hW8] at H8
  obtain ⟨q0, q1, q2, q3, q4, q5, q6, q7, q8, q9⟩ := HO.out.q.cells
  go_enter Tryz.func19, Tryz.ntmps19
  obtain ⟨u0, u1, u2, u3, u4, u5, u6, _, _, _, _, _, _, _⟩ := H8.out.u.cells
  obtain ⟨s0, s1, s2, s3, s4, _, _, _, _, _⟩ := H8.out.q.cells
  obtain ⟨r0, r1, r2, r3, r4, r5, r6, f0, f1, f2, f3, f4, f5, f6⟩ := H8.out.r.cells
  go_wp2_with fail
  go_region
  go_wp2_with fail
  have hk := (H8.out.r.set (.int .u8 8) (.int .i64 0) (.int .u64 0) (.string t) (.slice ia 0 ic) (.bool false) (.string ⟨#[]⟩)).drew.cells
  have hB := (below_set7 H8.out.low (show w.heap.size ≤ w.heap.size + 1 by omega) (.int .u8 8) (.int .i64 0) (.int .u64 0) (.string t) (.slice ia 0 ic) (.bool false) (.string ⟨#[]⟩)).drew
  clear u0 u1 u2 u3 u4 u5 u6 s0 s1 s2 s3 s4 r0 r1 r2 r3 r4 r5 r6 f0 f1 f2 f3 f4 f5 f6 a0 a1 a2 a3 a4 q0 q1 q2 q3 q4 q5 q6 q7 q8 q9
  generalize hWf : (set7 W8 (w.heap.size + 1) (.int .u8 8) (.int .i64 0) (.int .u64 0) (.string t) (.slice ia 0 ic) (.bool false) (.string ⟨#[]⟩)).drew = Wf at hk hB
  clear hWf
  obtain ⟨k0, k1, k2, k3, k4, k5, k6, _, _, _, _, _, _, _⟩ := hk
  exact bodyPost_ret (v := .tuple #[.agg #[.int .u8 8, .int .i64 0, .int .u64 0, .string t, .slice ia 0 ic, .bool false, .string ⟨#[]⟩], .bool true]) (by simp [results, Tryz.results19, go_sem, k0, k1, k2, k3, k4, k5, k6]) rfl ⟨rfl, hB⟩
end Go.Proofs.YtlodbibagmblkaaGreatDoor
namespace Go.Proofs.YtlodbibagmblkaaGreatDoor
open Go Go.RowKit Go.Lib
theorem info_val : (Tryz.prog.info? 54).map (fun i => (i.zero, i.size, i.bytes)) = some (some (.agg #[.int .u8 0, .int .i64 0, .int .u64 0, .string ⟨#[]⟩, .slice none 0 0, .bool false, .string ⟨#[]⟩]), 7, 88) := by kernel_rfl
theorem zero_prim (w : World) : (zeroValue 48).run Tryz.prog w = .ok (.agg #[.string ⟨#[]⟩, .nilFunc]) w := by kernel_rfl
theorem callFunc_go {f : FuncId} {fn : Func} {c : Code} (hf : Tryz.prog.funcs[f]? = some fn) (hname : (fn.name == "runtime.NumGoroutine") = false) (hb : fn.body = some c) (args : Array Value) (w : World) : (callFunc f args).run Tryz.prog w = .ok (.enter f args) w := by
  have h1 : fn.name ≠ "runtime.NumGoroutine" := by simpa using hname
  simp [callFunc, hf, h1, hb]
/-- values in a row -/
def pvs (l : List PV) : List Value := l.flatMap PV.cells
theorem PV.cells_len (x : PV) : x.cells.length = 7 := rfl
theorem pvs_snoc (l : List PV) (x : PV) : pvs (l ++ [x]) = pvs l ++ x.cells := by simp [pvs]
theorem pvs_get {l : List PV} {i : Nat} {x : PV} (h : l[i]? = some x) {j : Nat} {u : Value} (hu : x.cells[j]? = some u) : (pvs l)[i * 7 + j]? = some u := by
  induction l generalizing i with
  | nil => simp at h
  | cons y l ih =>
    unfold pvs
    rw [List.flatMap_cons]
    cases i with
    | zero =>
      simp at h; subst h
      have hj : j < y.cells.length := (List.getElem?_eq_some_iff.1 hu).1
      rw [Nat.zero_mul, Nat.zero_add, List.getElem?_append_left hj]
      exact hu
    | succ i =>
      rw [List.getElem?_append_right (by rw [PV.cells_len]; omega), PV.cells_len, show (i + 1) * 7 + j - 7 = i * 7 + j by omega]
      exact ih (by simpa using h)
def OwnV (w : World) (base : Nat) (v : Value) (l : List PV) : Prop := Owns w base 54 7 v l.length (pvs l)
theorem OwnV.row {w : World} {base : Nat} {v : Value} {l : List PV} (h : OwnV w base v l) (h0 : l ≠ []) : VRow w v l := by
  have hn : 0 < l.length := List.length_pos_iff.2 h0
  obtain ⟨g, cap, rfl, _, hg, _⟩ := Owns.some_of h hn
  exact ⟨g, cap, rfl, hg, fun i x hx j u hu => Owns.cellAt h (pvs_get hx hu)⟩
theorem wpList_appv {ops : Array Oper} {rest : List Oper} {o : Oper} {a : Act} {Q : Exit → Act → World → Prop} {w : World} (hgd : o.guard = none) (s x : Operand)
    (ho : o.op = .call { callee := .builtin .append, args := #[s, x], argTypes := #[52, 52] }) (base : Nat) (v : Value) (l : List PV) (hs : a.eval s = v) (hown : OwnV w base v l)
    (y : PV) (cs : Array Value) (hc : cs.toList = y.cells) (hx : a.eval x = .slice (some ⟨w.heap.size, 0, none⟩) 1 1) (hv : y.v.oneCell' = true) (hlen : l.length ≤ 1000) (hbase : base ≤ w.heap.size)
    (h : ∀ v' w', OwnV w' base v' (l ++ [y]) → Grow w v w' v' → wpList Tryz.prog ops Q rest (a.put o.dst v') w') : wpList Tryz.prog ops Q (o :: rest) a (w.alloc (.cells cs 54)) := by
  obtain ⟨i0, hi, hz0, hz1, hz2⟩ := info_parts info_val
  refine wpList_append_owns hgd s x 52 ho base 54 i0 _ 7 88 Tryz.underlying52 hi hz0 hz1 hz2 rfl v l.length (pvs l) hs (Owns.alloc hown _) ⟨w.heap.size, 0, none⟩ 1 1 y.cells hx rfl ?_ ?_ (by unfold maxLen; omega) (by omega) (by simp; omega) ?_
  · intro j u hj
    rw [add_plain, Nat.zero_add, World.cell?_alloc_new, ← Array.getElem?_toList, hc]
    exact hj
  · intro u hu
    unfold PV.cells at hu
    simp only [List.mem_cons, List.not_mem_nil, or_false] at hu
    rcases hu with rfl | rfl | rfl | rfl | rfl | rfl | rfl <;> first | rfl | exact hv
  · intro v' w' ho' hg'
    refine h v' w' ?_ ((Grow.alloc w v _).trans hg')
    unfold OwnV
    rw [List.length_append, pvs_snoc]
    exact ho'
end Go.Proofs.YtlodbibagmblkaaGreatDoor
namespace Go.Proofs.YtlodbibagmblkaaGreatDoor
open Go Go.RowKit Go.Lib
/-- a literal's cells -/
structure PT where
  k : Int
  n : Int
  b : Int
  t : ByteArray
  v : Value
def PT.cells (x : PT) : List Value := [.int .u8 x.k, .int .i64 x.n, .int .u64 x.b, .string x.t, x.v]
def PT.lit (x : PT) : Value := litv x.k x.n x.b x.t x.v
/-- a slice value that reads as literals -/
def TRow (w : World) (v : Value) (l : List PT) : Prop := ∃ g cap, v = .slice (some ⟨g, 0, none⟩) l.length cap ∧ g < w.heap.size ∧ ∀ (i : Nat) (x : PT), l[i]? = some x → ∀ (j : Nat) (u : Value), x.cells[j]? = some u → w.cell? ⟨g, i * 5 + j, none⟩ = some u
/-- what comes out of a primitive -/
def Came (w : World) (P : Int → Int → Int → ByteArray → Bool → Prop) (e : Ending) (w' : World) : Prop := ∃ k n b t is, P k n b t is ∧ e = .returned (.tuple #[litv k n b t (.slice none 0 0), .bool is]) ∧ Below w.heap.size w w'
/-- .. of Do: what fails answers nothing -/
def Done (w : World) (P : Int → Int → Int → ByteArray → Bool → Prop) (e : Ending) (w' : World) : Prop := ∃ k n b t is, P k n b t is ∧ e = .returned (.tuple #[if is then litv k n b t (.slice none 0 0) else nolit, .bool is]) ∧ Below w.heap.size w w'
/-- the table has a primitive that does so of values -/
def HasP (w0 : World) (n : Int) (ks : ByteArray) (fn : Nat) (vs : List PV) (P : Int → Int → Int → ByteArray → Bool → Prop) : Prop :=
  ∀ W, Below w0.heap.size w0 W → Calls Tryz.prog 18 #[] W fun e W' => ∃ b L caps, e = .returned (.map (some b)) ∧ MapAt W' b L ∧ Below W.heap.size W W' ∧ lk L n = some (primv ks (.func (.func fn) #[] caps)) ∧
    ∀ W2 v, Below W'.heap.size W' W2 → VRow W2 v vs → Calls Tryz.prog fn (#[v] ++ caps) W2 (Came W2 P)
set_option maxRecDepth 4000 in
set_option maxHeartbeats 8000000 in
theorem do_all (n : Int) (ks : ByteArray) (fn : Nat) (vs : List PV) (ls : List PT) (P : Int → Int → Int → ByteArray → Bool → Prop) (av : Value) (w : World) (hn : -1000000 ≤ n ∧ n ≤ 1000000) (hl : TRow w av ls) (hks : ks.size = ls.length) (hvl : vs.length = ls.length) (h0 : 0 < ls.length) (h10 : ls.length ≤ 100)
    (hcf : ∀ args W, (callFunc fn args).run Tryz.prog W = .ok (.enter fn args) W) (hT : HasP w n ks fn vs P) (hov : ∀ y ∈ vs, ∃ a l c, y.v = .slice a l c) (hxv : ∀ x ∈ ls, ∃ a l c, x.v = .slice a l c)
    (hof : ∀ (i : Nat) (x : PT) (y : PV) (h : i < ks.size), ls[i]? = some x → vs[i]? = some y → ∀ W, Calls Tryz.prog 19 #[x.lit, .int .u8 (ks[i]'h).toNat] W fun e W' => e = .returned (.tuple #[valv y.k y.n y.b y.t y.v y.g y.s, .bool true]) ∧ Below W.heap.size W W') :
    Calls Tryz.prog 11 #[.int .i64 n, av] w (Done w P) := by
  obtain ⟨ga, ca, rfl, hga, hca⟩ := hl
  obtain ⟨m, hm⟩ : ∃ m, ls.length = m := ⟨_, rfl⟩
  have HM := Lib.hid hm
  rw [hm] at hks hvl h0 h10 ⊢
  have HVL := Lib.hid hvl
  have HCA := Lib.hid hca
  have HOF := Lib.hid hof
  have HT := Lib.hid hT
  have HCF := Lib.hid hcf
  have HOV := Lib.hid hov
  have HXV := Lib.hid hxv
  clear hm hvl hca hof hT hcf hov hxv
  obtain ⟨W1, hW1⟩ : ∃ W1, w.alloc (.cells #[.int .u8 0, .int .i64 0, .int .u64 0, .string ⟨#[]⟩, .slice none 0 0] 26) = W1 := ⟨_, rfl⟩
  have HP : Hid (P5 W1 w.heap.size (.int .u8 0) (.int .i64 0) (.int .u64 0) (.string ⟨#[]⟩) (.slice none 0 0)) := Lib.hid (by rw [← hW1]; exact P5.new _ _ _ _ _ _)
  have HB : Hid (Below w.heap.size w W1) := Lib.hid (by rw [← hW1]; exact (Below.refl _ _).alloc (Nat.le_refl _) _)
  have hs1 : w.heap.size + 1 ≤ W1.heap.size := by rw [← hW1]; simp
  have hzp := zero_prim
  go_enter Tryz.func11, Tryz.ntmps11
  go_wp2_with fail
  refine (HT.out _ HB.out).mono ?_
  rintro e w2 ⟨b, L, caps, rfl, hmap, hb2, hlk, hclo⟩
  have hlook := look_ok hmap (t := 50) Tryz.underlying50 (hzp w2) n hn
  rw [hlk] at hlook
  simp only [primv] at hlook
  have HCL := Lib.hid hclo
  have HP2 := Lib.hid (HP.out.below hb2)
  have HB2 := Lib.hid (chain HB.out hb2 (by omega))
  have hs2 : w.heap.size + 1 ≤ w2.heap.size := Nat.le_trans hs1 hb2.size
  obtain ⟨W3, hW3⟩ : ∃ W3, w2.alloc (.cells #[.string ks, .func (.func fn) #[] caps] 48) = W3 := ⟨_, rfl⟩
  have hb3 : Below w2.heap.size w2 W3 := by rw [← hW3]; exact (Below.refl _ _).alloc (Nat.le_refl _) _
  have HK : Hid (P2 W3 w2.heap.size 48 (.string ks) (.func (.func fn) #[] caps)) := Lib.hid (by rw [← hW3]; exact P2.new _ _ _ _)
  have HP3 := Lib.hid (HP2.out.below hb3)
  have HB3 := Lib.hid (chain HB2.out hb3 (by omega))
  have HBT := Lib.hid hb3
  have hs3 : w2.heap.size + 1 ≤ W3.heap.size := by rw [← hW3]; simp
  clear hb2 hmap hlk hclo hb3 hW1 HP HB HP2 HB2
  obtain ⟨k0, k1, _, _⟩ := HK.out.cells
  have hkI : ((ks.size : Int) == (m : Int)) = true := by rw [beq_iff_eq]; omega
  have hksI : (ks.size : Int) = (m : Int) := by omega
  go_wp2_with fail
  go_loopw [8, 33] (fun vv i wr => ∃ j : Nat, j ≤ m ∧ i = .int .i64 j ∧ OwnV wr W3.heap.size vv (vs.take j) ∧ Below W3.heap.size W3 wr) (fun _ i _ => m - (RowKit.intOf i).toNat)
  case atStart => exact ⟨0, Nat.zero_le _, rfl, by rw [List.take_zero]; exact Owns.nil _ _ _ _, Below.refl _ _⟩
  case round =>
    obtain ⟨j, hj, rfl, hown, hb⟩ := hrel
    have HOW := Lib.hid hown
    have HBR := Lib.hid hb
    have hsr := hb.size
    obtain ⟨oa, oc, rfl⟩ := hown.form
    have htl : (vs.take j).length = j := by rw [List.length_take, HVL.out]; omega
    rw [htl] at HOW ⊢
    clear hown hb
    by_cases hlt : j < m
    · obtain ⟨x, hx⟩ : ∃ x, ls[j]? = some x := ⟨_, List.getElem?_eq_getElem (by rw [HM.out]; exact hlt)⟩
      obtain ⟨y, hy⟩ : ∃ y, vs[j]? = some y := ⟨_, List.getElem?_eq_getElem (by rw [HVL.out]; exact hlt)⟩
      have hq : j < ks.size := by omega
      have HO := Lib.hid (HOF.out j x y hq hx hy)
      obtain ⟨ya, yl, yc, hyv⟩ := HOV.out y (List.mem_of_getElem? hy)
      obtain ⟨xa, xl, xc, hxv⟩ := HXV.out x (List.mem_of_getElem? hx)
      have HTS : Hid (vs.take (j + 1) = vs.take j ++ [y]) := Lib.hid (by
        have hjl : j < vs.length := by rw [HVL.out]; exact hlt
        rw [List.take_succ_eq_append_getElem hjl]
        rw [List.getElem?_eq_getElem hjl] at hy
        injection hy with hy
        rw [hy])
      have hcx : ∀ (q : Nat) (u : Value), x.cells[q]? = some u → wr.cell? ⟨ga, j * 5 + q, none⟩ = some u := fun q u hu => by
        rw [HBR.out.cell (p := ⟨ga, j * 5 + q, none⟩) (by show ga < _; omega), HB3.out.cell (p := ⟨ga, j * 5 + q, none⟩) hga]
        exact HCA.out j x hx q u hu
      have a0 : wr.cell? ⟨ga, j * 5, none⟩ = some (.int .u8 x.k) := hcx 0 _ rfl
      have a1 := hcx 1 _ rfl
      have a2 := hcx 2 _ rfl
      have a3 := hcx 3 _ rfl
      have a4 := hcx 4 _ rfl
      have hkk : wr.cell? ⟨w2.heap.size, 0, none⟩ = some (.string ks) := by rw [HBR.out.cell (p := ⟨w2.heap.size, 0, none⟩) (by show w2.heap.size < _; omega)]; exact k0
      obtain ⟨kc, hkc⟩ : ∃ kc, ks[j]'hq = kc := ⟨_, rfl⟩
      rw [hkc] at HO
      clear hcx hx hy
      obtain ⟨xk, xn, xb, xt, xv⟩ := x
      obtain ⟨yk, yn, yb, yt, yv, yg, ys⟩ := y
      simp only at hxv hyv a0 a1 a2 a3 a4
      subst hxv hyv
      obtain ⟨W5, hW5⟩ : ∃ W5, wr.alloc (.cells #[.int .u8 xk, .int .i64 xn, .int .u64 xb, .string xt, .slice xa xl xc] 26) = W5 := ⟨_, rfl⟩
      have hb5 : Below wr.heap.size wr W5 := by rw [← hW5]; exact (Below.refl _ _).alloc (Nat.le_refl _) _
      have HX5 : Hid (P5 W5 wr.heap.size (.int .u8 xk) (.int .i64 xn) (.int .u64 xb) (.string xt) (.slice xa xl xc)) := Lib.hid (by rw [← hW5]; exact P5.new _ _ _ _ _ _)
      have hs5 : wr.heap.size + 1 ≤ W5.heap.size := by rw [← hW5]; simp
      have hk5 : W5.cell? ⟨w2.heap.size, 0, none⟩ = some (.string ks) := by rw [hb5.cell (p := ⟨w2.heap.size, 0, none⟩) (by show w2.heap.size < _; omega)]; exact hkk
      have HB5 := Lib.hid hb5
      clear hb5
      have HS : Hid (∀ W, Below W5.heap.size W5 W → W.cell? ⟨wr.heap.size, 0, none⟩ = some (.int .u8 xk) ∧ W.cell? ⟨wr.heap.size, 1, none⟩ = some (.int .i64 xn) ∧ W.cell? ⟨wr.heap.size, 2, none⟩ = some (.int .u64 xb) ∧ W.cell? ⟨wr.heap.size, 3, none⟩ = some (.string xt) ∧ W.cell? ⟨wr.heap.size, 4, none⟩ = some (.slice xa xl xc) ∧ W.cell? ⟨w2.heap.size, 0, none⟩ = some (.string ks)) := Lib.hid (fun W hb => ⟨(HX5.out.below hb).cells.c0, (HX5.out.below hb).cells.c1, (HX5.out.below hb).cells.c2, (HX5.out.below hb).cells.c3, (HX5.out.below hb).cells.c4, by rw [hb.cell (p := ⟨w2.heap.size, 0, none⟩) (by show w2.heap.size < _; omega)]; exact hk5⟩)
      have HS7 : Hid (∀ W, Below W5.heap.size W5 W → ∀ A, W5.heap.size ≤ A → ∀ a b c d e f g, (set7 W A a b c d e f g).cell? ⟨wr.heap.size, 0, none⟩ = some (.int .u8 xk) ∧ (set7 W A a b c d e f g).cell? ⟨wr.heap.size, 1, none⟩ = some (.int .i64 xn) ∧ (set7 W A a b c d e f g).cell? ⟨wr.heap.size, 2, none⟩ = some (.int .u64 xb) ∧ (set7 W A a b c d e f g).cell? ⟨wr.heap.size, 3, none⟩ = some (.string xt) ∧ (set7 W A a b c d e f g).cell? ⟨wr.heap.size, 4, none⟩ = some (.slice xa xl xc) ∧ (set7 W A a b c d e f g).cell? ⟨w2.heap.size, 0, none⟩ = some (.string ks)) := Lib.hid (fun W hb A hA a b c d e f g => HS.out _ (below_set7 hb hA a b c d e f g))
      unfold set7 at HS7
      have BD := Lib.hid (show Below W5.heap.size W5 W5.drew from (Below.refl _ W5).drew)
      have BA := Lib.hid (show Below W5.heap.size W5 (W5.alloc (.cells #[.int .u8 0, .int .i64 0, .int .u64 0, .string ⟨#[]⟩, .slice none 0 0, .bool false, .string ⟨#[]⟩] 54)).drew from ((Below.refl _ W5).alloc (Nat.le_refl _) _).drew)
      have PA := Lib.hid (show P7 (W5.alloc (.cells #[.int .u8 0, .int .i64 0, .int .u64 0, .string ⟨#[]⟩, .slice none 0 0, .bool false, .string ⟨#[]⟩] 54)).drew W5.heap.size (.int .u8 0) (.int .i64 0) (.int .u64 0) (.string ⟨#[]⟩) (.slice none 0 0) (.bool false) (.string ⟨#[]⟩) from (P7.new W5 _ _ _ _ _ _ _).drew)
      obtain ⟨x0, x1, x2, x3, x4, _, _, _, _, _⟩ := HX5.out.cells
      unfold PT.lit litv valv at HO
      simp only at HO
      go_wp2_with fail
      go_region_held3 (fun W => W.cell? ⟨wr.heap.size, 0, none⟩ = some (.int .u8 xk) ∧ W.cell? ⟨wr.heap.size, 1, none⟩ = some (.int .i64 xn) ∧ W.cell? ⟨wr.heap.size, 2, none⟩ = some (.int .u64 xb) ∧ W.cell? ⟨wr.heap.size, 3, none⟩ = some (.string xt) ∧ W.cell? ⟨wr.heap.size, 4, none⟩ = some (.slice xa xl xc) ∧ W.cell? ⟨w2.heap.size, 0, none⟩ = some (.string ks)) (first | with_reducible exact ⟨x0, x1, x2, x3, x4, hk5⟩ | with_reducible exact HS.out _ BD.out | with_reducible exact HS.out _ BA.out | with_reducible exact HS.out _ hb6 | (with_reducible refine HS.out _ ?_; exact hb6.alloc hb6.size _) | (with_reducible refine HS7.out _ hb6 _ ?_ _ _ _ _ _ _ _; omega)) ((go_at_call 19; (with_reducible refine (HO.out _).mono ?_); rintro e w6 ⟨rfl, hb6d⟩; (first | (have PA6 := Lib.hid (PA.out.below hb6d); have hb6 : Below W5.heap.size W5 w6 := BA.out.trans (hb6d.mono BA.out.size); obtain ⟨z0, z1, z2, z3, z4, z5, z6, y0, y1, y2, y3, y4, y5, y6⟩ := PA6.out.cells) | (have hb6 : Below W5.heap.size W5 w6 := BD.out.trans hb6d)); clear hb6d))
      all_goals
        clear x0 x1 x2 x3 x4 a0 a1 a2 a3 a4 hkk hk5 HS HS7
        first
        | (have HV := Lib.hid (PA6.out.set (.int .u8 yk) (.int .i64 yn) (.int .u64 yb) (.string yt) (.slice ya yl yc) (.bool yg) (.string ys))
           have HBX := Lib.hid (below_set7 hb6 (Nat.le_refl _) (.int .u8 yk) (.int .i64 yn) (.int .u64 yb) (.string yt) (.slice ya yl yc) (.bool yg) (.string ys))
           clear z0 z1 z2 z3 z4 z5 z6 y0 y1 y2 y3 y4 y5 y6 PA6
           unfold set7 at HV HBX
           generalize hWx : ((((((w6.setCell ⟨W5.heap.size, 0, none⟩ (.int .u8 yk)).setCell ⟨W5.heap.size, 1, none⟩ (.int .i64 yn)).setCell ⟨W5.heap.size, 2, none⟩ (.int .u64 yb)).setCell ⟨W5.heap.size, 3, none⟩ (.string yt)).setCell ⟨W5.heap.size, 4, none⟩ (.slice ya yl yc)).setCell ⟨W5.heap.size, 5, none⟩ (.bool yg)).setCell ⟨W5.heap.size, 6, none⟩ (.string ys) = Wx at HV HBX ⊢
           clear hWx)
        | (have HV := Lib.hid (P7.new w6 (.int .u8 yk) (.int .i64 yn) (.int .u64 yb) (.string yt) (.slice ya yl yc) (.bool yg) (.string ys))
           have HBX := Lib.hid (hb6.alloc hb6.size (.cells #[.int .u8 yk, .int .i64 yn, .int .u64 yb, .string yt, .slice ya yl yc, .bool yg, .string ys] 54))
           generalize hWx : w6.alloc (.cells #[.int .u8 yk, .int .i64 yn, .int .u64 yb, .string yt, .slice ya yl yc, .bool yg, .string ys] 54) = Wx at HV HBX ⊢
           clear hWx)
        clear hb6
        have HBW := Lib.hid (HB5.out.trans (HBX.out.mono (by omega)))
        have HOX : Hid (OwnV Wx W3.heap.size (.slice oa j oc) (vs.take j)) := Lib.hid (Owns.below HOW.out HBW.out (fun k hk => (Owns.lt HOW.out k hk).2))
        have hsx := HBW.out.size
        obtain ⟨v0, v1, v2, v3, v4, v5, v6, _, _, _, _, _, _, _⟩ := HV.out.cells
        go_wp2_with (at_builtin; refine wpList_appv rfl (.tmp 50) (.tmp 52) rfl W3.heap.size _ (vs.take j) rfl HOX.out ⟨yk, yn, yb, yt, .slice ya yl yc, yg, ys⟩ _ rfl rfl rfl (by rw [htl]; omega) (by omega) ?_)
        intro v8 w8 ho8 hg8
        have HO8 : Hid (OwnV w8 W3.heap.size v8 (vs.take (j + 1))) := Lib.hid (by rw [HTS.out]; exact ho8)
        have HB8 := Lib.hid (hg8.below (HBR.out.trans (HBW.out.mono hsr)) (by omega) (fun k hk => (Owns.lt HOX.out k hk).1))
        obtain ⟨oa8, oc8, rfl⟩ := ho8.form
        clear ho8 hg8
        go_wp2_with fail
        go_roundw
        case rel => exact ⟨j + 1, by omega, by go_num, HO8.out, HB8.out⟩
        case measure => simp [RowKit.intOf]; omega
    · obtain rfl : j = m := by omega
      have htk : vs.take j = vs := List.take_of_length_le (by rw [HVL.out]; exact Nat.le_refl _)
      have hvr : VRow wr (.slice oa j oc) vs := by
        have h1 := HOW.out
        rw [htk] at h1
        exact h1.row (by intro e; have := HVL.out; rw [e] at this; simp at this; omega)
      have HCO := Lib.hid (HCL.out wr (.slice oa j oc) (HBT.out.trans (HBR.out.mono (by omega))) hvr)
      have hcf := HCF.out
      have hk1 : wr.cell? ⟨w2.heap.size, 1, none⟩ = some (.func (.func fn) #[] caps) := by rw [HBR.out.cell (p := ⟨w2.heap.size, 1, none⟩) (by show w2.heap.size < _; omega)]; exact k1
      have HPR := Lib.hid (HP3.out.under HBR.out (by omega))
      have HBF := Lib.hid (HB3.out.trans (HBR.out.mono (by omega)))
      clear hvr htk
      go_wp2_with fail
      refine HCO.out.mono ?_
      rintro e w9 ⟨k9, n9, b9, t9, is9, hP9, rfl, hb9⟩
      have HP9 := Lib.hid (HPR.out.below hb9)
      have HB9 := Lib.hid (HBF.out.trans (hb9.mono (by omega)))
      have HPP := Lib.hid hP9
      have HPZ := Lib.hid (HP9.out.alloc (.cells #[.int .u8 k9, .int .i64 n9, .int .u64 b9, .string t9, .slice none 0 0] 26))
      have HBZ := Lib.hid (HB9.out.alloc (by have := HP9.out.lt; omega) (.cells #[.int .u8 k9, .int .i64 n9, .int .u64 b9, .string t9, .slice none 0 0] 26))
      clear hb9 hP9 HP9 HB9 HPR HBF k0 k1 hk1 hcf HCL HT HOF HCF HXV HOV HCA HCO HOW HBR HBT HB3 HK HVL HM hlook hzp hW3 hksI hkI
      obtain ⟨c0, c1, c2, c3, c4, f0, f1, f2, f3, f4⟩ := HPZ.out.cells
      unfold litv
      cases is9
      · go_wp2_with fail
        obtain ⟨r0, r1, r2, r3, r4, _, _, _, _, _⟩ := (HPZ.out.set (.int .u8 0) (.int .i64 0) (.int .u64 0) (.string ⟨#[]⟩) (.slice none 0 0)).cells
        exact bodyPost_ret (v := .tuple #[.agg #[.int .u8 0, .int .i64 0, .int .u64 0, .string ⟨#[]⟩, .slice none 0 0], .bool false]) (by simp [results, Tryz.results11, go_sem, r0, r1, r2, r3, r4]) rfl ⟨k9, n9, b9, t9, false, HPP.out, rfl, below_set5 HBZ.out (Nat.le_refl _) _ _ _ _ _⟩
      · go_wp2_with fail
        obtain ⟨r0, r1, r2, r3, r4, _, _, _, _, _⟩ := (HPZ.out.set (.int .u8 k9) (.int .i64 n9) (.int .u64 b9) (.string t9) (.slice none 0 0)).cells
        exact bodyPost_ret (v := .tuple #[.agg #[.int .u8 k9, .int .i64 n9, .int .u64 b9, .string t9, .slice none 0 0], .bool true]) (by simp [results, Tryz.results11, go_sem, r0, r1, r2, r3, r4]) rfl ⟨k9, n9, b9, t9, true, HPP.out, rfl, below_set5 HBZ.out (Nat.le_refl _) _ _ _ _ _⟩
end Go.Proofs.YtlodbibagmblkaaGreatDoor
namespace Go.Proofs.YtlodbibagmblkaaGreatDoor
open Go Go.RowKit Go.Lib
/-- a literal comes out for sure -/
def Just (k0 n0 : Int) (t0 : ByteArray) (is0 : Bool) (k n b : Int) (t : ByteArray) (is : Bool) : Prop := k = k0 ∧ n = n0 ∧ b = 0 ∧ t = t0 ∧ is = is0
theorem came_just {w w' : World} {e : Ending} {k n : Int} {t : ByteArray} {is : Bool} (h : LitOk w (litv k n 0 t (.slice none 0 0)) is e w') : Came w (Just k n t is) e w' := ⟨k, n, 0, t, is, ⟨rfl, rfl, rfl, rfl, rfl⟩, h.1, h.2⟩
/-- a primitive of the table's strings -/
theorem has_text {w0 : World} {n : Int} {ks : ByteArray} {fn : Nat} {vs : List PV} {P : Int → Int → Int → ByteArray → Bool → Prop} (hk : lk textsL n = some (primv ks (.func (.func fn) #[] #[]))) (hc : ∀ W v, VRow W v vs → Calls Tryz.prog fn #[v] W (Came W P)) : HasP w0 n ks fn vs P := fun W _ =>
  (table_any W).mono fun e W' ⟨b, L, h1, h2, h3, h4⟩ => ⟨b, L, #[], h1, h2, h4, h3.tx n _ hk, fun W2 v _ hv => by simpa using hc W2 v hv⟩
/-- a primitive that captured nothing -/
theorem has_entry {w0 : World} {n : Int} {ks : ByteArray} {fn : Nat} {vs : List PV} {P : Int → Int → Int → ByteArray → Bool → Prop} (hk : ∀ w L, TabOk w L → lk L n = some (primv ks (.func (.func fn) #[] #[]))) (hc : ∀ W v, Below w0.heap.size w0 W → VRow W v vs → Calls Tryz.prog fn #[v] W (Came W P)) : HasP w0 n ks fn vs P := fun W hW =>
  (table_any W).mono fun e W' ⟨b, L, h1, h2, h3, h4⟩ => ⟨b, L, #[], h1, h2, h4, hk W' L h3, fun W2 v hb hv => by
    have h5 := hW.trans (h4.mono hW.size)
    simpa using hc W2 v (h5.trans (hb.mono h5.size)) hv⟩
/-- a primitive of two integers -/
theorem has_ints {w0 : World} {n : Int} {f : Nat} {vs : List PV} {P : Int → Int → Int → ByteArray → Bool → Prop} (hi : ∀ w L, TabOk w L → InsAt w L n f)
    (hc : ∀ W v p, VRow W v vs → W.cell? ⟨p, 0, none⟩ = some (.func (.func f) #[] #[]) → p < W.heap.size → Calls Tryz.prog 24 #[v, .pointer (some ⟨p, 0, none⟩)] W (Came W P)) : HasP w0 n ⟨#[73, 73]⟩ 24 vs P := fun W _ =>
  (table_any W).mono fun e W' ⟨b, L, h1, h2, h3, h4⟩ => by
    obtain ⟨p, q1, q2, q3⟩ := hi W' L h3
    exact ⟨b, L, #[.pointer (some ⟨p, 0, none⟩)], h1, h2, h4, q1, fun W2 v hb hv => by
      have := hc W2 v p hv (by rw [hb.cell (p := ⟨p, 0, none⟩) q3]; exact q2) (Nat.lt_of_lt_of_le q3 hb.size)
      simpa using this⟩
end Go.Proofs.YtlodbibagmblkaaGreatDoor
namespace Go.Proofs.YtlodbibagmblkaaGreatDoor
open Go Go.RowKit Go.Lib
set_option maxRecDepth 4000 in
set_option maxHeartbeats 8000000 in
theorem do_bad (n : Int) (ks : ByteArray) (i0 : Nat) (vs : List PV) (ls : List PT) (av : Value) (w : World) (hn : -1000000 ≤ n ∧ n ≤ 1000000) (hl : TRow w av ls) (hks : ks.size = ls.length) (hvl : vs.length = ls.length) (h0 : 0 < ls.length) (h10 : ls.length ≤ 100)
    (hi0 : i0 < ls.length) (hT : ∀ W, Calls Tryz.prog 18 #[] W fun e W' => ∃ b L fn caps, e = .returned (.map (some b)) ∧ MapAt W' b L ∧ Below W.heap.size W W' ∧ lk L n = some (primv ks (.func (.func fn) #[] caps))) (hov : ∀ y ∈ vs, ∃ a l c, y.v = .slice a l c) (hxv : ∀ x ∈ ls, ∃ a l c, x.v = .slice a l c)
    (hof : ∀ (i : Nat) (x : PT) (y : PV) (h : i < ks.size), ls[i]? = some x → vs[i]? = some y → ∀ W, Calls Tryz.prog 19 #[x.lit, .int .u8 (ks[i]'h).toNat] W fun e W' => e = .returned (.tuple #[valv y.k y.n y.b y.t y.v y.g y.s, .bool (decide (i ≠ i0))]) ∧ Below W.heap.size W W') :
    Calls Tryz.prog 11 #[.int .i64 n, av] w fun e w' => e = .returned (.tuple #[nolit, .bool false]) ∧ Below w.heap.size w w' := by
  obtain ⟨ga, ca, rfl, hga, hca⟩ := hl
  obtain ⟨m, hm⟩ : ∃ m, ls.length = m := ⟨_, rfl⟩
  have HM := Lib.hid hm
  rw [hm] at hks hvl h0 h10 hi0 ⊢
  have HVL := Lib.hid hvl
  have HCA := Lib.hid hca
  have HOF := Lib.hid hof
  have HT := Lib.hid hT
  have HOV := Lib.hid hov
  have HXV := Lib.hid hxv
  clear hm hvl hca hof hT hov hxv
  obtain ⟨W1, hW1⟩ : ∃ W1, w.alloc (.cells #[.int .u8 0, .int .i64 0, .int .u64 0, .string ⟨#[]⟩, .slice none 0 0] 26) = W1 := ⟨_, rfl⟩
  have HP : Hid (P5 W1 w.heap.size (.int .u8 0) (.int .i64 0) (.int .u64 0) (.string ⟨#[]⟩) (.slice none 0 0)) := Lib.hid (by rw [← hW1]; exact P5.new _ _ _ _ _ _)
  have HB : Hid (Below w.heap.size w W1) := Lib.hid (by rw [← hW1]; exact (Below.refl _ _).alloc (Nat.le_refl _) _)
  have hs1 : w.heap.size + 1 ≤ W1.heap.size := by rw [← hW1]; simp
  have hzp := zero_prim
  go_enter Tryz.func11, Tryz.ntmps11
  go_wp2_with fail
  refine (HT.out _).mono ?_
  rintro e w2 ⟨b, L, fn, caps, rfl, hmap, hb2, hlk⟩
  have hlook := look_ok hmap (t := 50) Tryz.underlying50 (hzp w2) n hn
  rw [hlk] at hlook
  simp only [primv] at hlook
  have HP2 := Lib.hid (HP.out.below hb2)
  have HB2 := Lib.hid (chain HB.out hb2 (by omega))
  have hs2 : w.heap.size + 1 ≤ w2.heap.size := Nat.le_trans hs1 hb2.size
  obtain ⟨W3, hW3⟩ : ∃ W3, w2.alloc (.cells #[.string ks, .func (.func fn) #[] caps] 48) = W3 := ⟨_, rfl⟩
  have hb3 : Below w2.heap.size w2 W3 := by rw [← hW3]; exact (Below.refl _ _).alloc (Nat.le_refl _) _
  have HK : Hid (P2 W3 w2.heap.size 48 (.string ks) (.func (.func fn) #[] caps)) := Lib.hid (by rw [← hW3]; exact P2.new _ _ _ _)
  have HP3 := Lib.hid (HP2.out.below hb3)
  have HB3 := Lib.hid (chain HB2.out hb3 (by omega))
  have HBT := Lib.hid hb3
  have hs3 : w2.heap.size + 1 ≤ W3.heap.size := by rw [← hW3]; simp
  clear hb2 hmap hlk hb3 hW1 HP HB HP2 HB2
  obtain ⟨k0, k1, _, _⟩ := HK.out.cells
  have hkI : ((ks.size : Int) == (m : Int)) = true := by rw [beq_iff_eq]; omega
  have hksI : (ks.size : Int) = (m : Int) := by omega
  go_wp2_with fail
  go_loopw [8, 33] (fun vv i wr => ∃ j : Nat, j ≤ i0 ∧ i = .int .i64 j ∧ OwnV wr W3.heap.size vv (vs.take j) ∧ Below W3.heap.size W3 wr) (fun _ i _ => m - (RowKit.intOf i).toNat)
  case atStart => exact ⟨0, Nat.zero_le _, rfl, by rw [List.take_zero]; exact Owns.nil _ _ _ _, Below.refl _ _⟩
  case round =>
    obtain ⟨j, hj, rfl, hown, hb⟩ := hrel
    have HOW := Lib.hid hown
    have HBR := Lib.hid hb
    have hsr := hb.size
    obtain ⟨oa, oc, rfl⟩ := hown.form
    have htl : (vs.take j).length = j := by rw [List.length_take, HVL.out]; omega
    rw [htl] at HOW ⊢
    clear hown hb
    have hlt : j < m := by omega
    · obtain ⟨x, hx⟩ : ∃ x, ls[j]? = some x := ⟨_, List.getElem?_eq_getElem (by rw [HM.out]; exact hlt)⟩
      obtain ⟨y, hy⟩ : ∃ y, vs[j]? = some y := ⟨_, List.getElem?_eq_getElem (by rw [HVL.out]; exact hlt)⟩
      have hq : j < ks.size := by omega
      have HO := Lib.hid (HOF.out j x y hq hx hy)
      obtain ⟨ya, yl, yc, hyv⟩ := HOV.out y (List.mem_of_getElem? hy)
      obtain ⟨xa, xl, xc, hxv⟩ := HXV.out x (List.mem_of_getElem? hx)
      have HTS : Hid (vs.take (j + 1) = vs.take j ++ [y]) := Lib.hid (by
        have hjl : j < vs.length := by rw [HVL.out]; exact hlt
        rw [List.take_succ_eq_append_getElem hjl]
        rw [List.getElem?_eq_getElem hjl] at hy
        injection hy with hy
        rw [hy])
      have hcx : ∀ (q : Nat) (u : Value), x.cells[q]? = some u → wr.cell? ⟨ga, j * 5 + q, none⟩ = some u := fun q u hu => by
        rw [HBR.out.cell (p := ⟨ga, j * 5 + q, none⟩) (by show ga < _; omega), HB3.out.cell (p := ⟨ga, j * 5 + q, none⟩) hga]
        exact HCA.out j x hx q u hu
      have a0 : wr.cell? ⟨ga, j * 5, none⟩ = some (.int .u8 x.k) := hcx 0 _ rfl
      have a1 := hcx 1 _ rfl
      have a2 := hcx 2 _ rfl
      have a3 := hcx 3 _ rfl
      have a4 := hcx 4 _ rfl
      have hkk : wr.cell? ⟨w2.heap.size, 0, none⟩ = some (.string ks) := by rw [HBR.out.cell (p := ⟨w2.heap.size, 0, none⟩) (by show w2.heap.size < _; omega)]; exact k0
      obtain ⟨kc, hkc⟩ : ∃ kc, ks[j]'hq = kc := ⟨_, rfl⟩
      rw [hkc] at HO
      obtain ⟨is, his⟩ : ∃ is, decide (j ≠ i0) = is := ⟨_, rfl⟩
      rw [his] at HO
      clear hcx hx hy
      obtain ⟨xk, xn, xb, xt, xv⟩ := x
      obtain ⟨yk, yn, yb, yt, yv, yg, ys⟩ := y
      simp only at hxv hyv a0 a1 a2 a3 a4
      subst hxv hyv
      obtain ⟨W5, hW5⟩ : ∃ W5, wr.alloc (.cells #[.int .u8 xk, .int .i64 xn, .int .u64 xb, .string xt, .slice xa xl xc] 26) = W5 := ⟨_, rfl⟩
      have hb5 : Below wr.heap.size wr W5 := by rw [← hW5]; exact (Below.refl _ _).alloc (Nat.le_refl _) _
      have HX5 : Hid (P5 W5 wr.heap.size (.int .u8 xk) (.int .i64 xn) (.int .u64 xb) (.string xt) (.slice xa xl xc)) := Lib.hid (by rw [← hW5]; exact P5.new _ _ _ _ _ _)
      have hs5 : wr.heap.size + 1 ≤ W5.heap.size := by rw [← hW5]; simp
      have hk5 : W5.cell? ⟨w2.heap.size, 0, none⟩ = some (.string ks) := by rw [hb5.cell (p := ⟨w2.heap.size, 0, none⟩) (by show w2.heap.size < _; omega)]; exact hkk
      have HB5 := Lib.hid hb5
      clear hb5
      have HS : Hid (∀ W, Below W5.heap.size W5 W → W.cell? ⟨wr.heap.size, 0, none⟩ = some (.int .u8 xk) ∧ W.cell? ⟨wr.heap.size, 1, none⟩ = some (.int .i64 xn) ∧ W.cell? ⟨wr.heap.size, 2, none⟩ = some (.int .u64 xb) ∧ W.cell? ⟨wr.heap.size, 3, none⟩ = some (.string xt) ∧ W.cell? ⟨wr.heap.size, 4, none⟩ = some (.slice xa xl xc) ∧ W.cell? ⟨w2.heap.size, 0, none⟩ = some (.string ks)) := Lib.hid (fun W hb => ⟨(HX5.out.below hb).cells.c0, (HX5.out.below hb).cells.c1, (HX5.out.below hb).cells.c2, (HX5.out.below hb).cells.c3, (HX5.out.below hb).cells.c4, by rw [hb.cell (p := ⟨w2.heap.size, 0, none⟩) (by show w2.heap.size < _; omega)]; exact hk5⟩)
      have HS7 : Hid (∀ W, Below W5.heap.size W5 W → ∀ A, W5.heap.size ≤ A → ∀ a b c d e f g, (set7 W A a b c d e f g).cell? ⟨wr.heap.size, 0, none⟩ = some (.int .u8 xk) ∧ (set7 W A a b c d e f g).cell? ⟨wr.heap.size, 1, none⟩ = some (.int .i64 xn) ∧ (set7 W A a b c d e f g).cell? ⟨wr.heap.size, 2, none⟩ = some (.int .u64 xb) ∧ (set7 W A a b c d e f g).cell? ⟨wr.heap.size, 3, none⟩ = some (.string xt) ∧ (set7 W A a b c d e f g).cell? ⟨wr.heap.size, 4, none⟩ = some (.slice xa xl xc) ∧ (set7 W A a b c d e f g).cell? ⟨w2.heap.size, 0, none⟩ = some (.string ks)) := Lib.hid (fun W hb A hA a b c d e f g => HS.out _ (below_set7 hb hA a b c d e f g))
      unfold set7 at HS7
      have BD := Lib.hid (show Below W5.heap.size W5 W5.drew from (Below.refl _ W5).drew)
      have BA := Lib.hid (show Below W5.heap.size W5 (W5.alloc (.cells #[.int .u8 0, .int .i64 0, .int .u64 0, .string ⟨#[]⟩, .slice none 0 0, .bool false, .string ⟨#[]⟩] 54)).drew from ((Below.refl _ W5).alloc (Nat.le_refl _) _).drew)
      have PA := Lib.hid (show P7 (W5.alloc (.cells #[.int .u8 0, .int .i64 0, .int .u64 0, .string ⟨#[]⟩, .slice none 0 0, .bool false, .string ⟨#[]⟩] 54)).drew W5.heap.size (.int .u8 0) (.int .i64 0) (.int .u64 0) (.string ⟨#[]⟩) (.slice none 0 0) (.bool false) (.string ⟨#[]⟩) from (P7.new W5 _ _ _ _ _ _ _).drew)
      obtain ⟨x0, x1, x2, x3, x4, _, _, _, _, _⟩ := HX5.out.cells
      unfold PT.lit litv valv at HO
      simp only at HO
      go_wp2_with fail
      go_region_held3 (fun W => W.cell? ⟨wr.heap.size, 0, none⟩ = some (.int .u8 xk) ∧ W.cell? ⟨wr.heap.size, 1, none⟩ = some (.int .i64 xn) ∧ W.cell? ⟨wr.heap.size, 2, none⟩ = some (.int .u64 xb) ∧ W.cell? ⟨wr.heap.size, 3, none⟩ = some (.string xt) ∧ W.cell? ⟨wr.heap.size, 4, none⟩ = some (.slice xa xl xc) ∧ W.cell? ⟨w2.heap.size, 0, none⟩ = some (.string ks)) (first | with_reducible exact ⟨x0, x1, x2, x3, x4, hk5⟩ | with_reducible exact HS.out _ BD.out | with_reducible exact HS.out _ BA.out | with_reducible exact HS.out _ hb6 | (with_reducible refine HS.out _ ?_; exact hb6.alloc hb6.size _) | (with_reducible refine HS7.out _ hb6 _ ?_ _ _ _ _ _ _ _; omega)) ((go_at_call 19; (with_reducible refine (HO.out _).mono ?_); rintro e w6 ⟨rfl, hb6d⟩; (first | (have PA6 := Lib.hid (PA.out.below hb6d); have hb6 : Below W5.heap.size W5 w6 := BA.out.trans (hb6d.mono BA.out.size); obtain ⟨z0, z1, z2, z3, z4, z5, z6, y0, y1, y2, y3, y4, y5, y6⟩ := PA6.out.cells) | (have hb6 : Below W5.heap.size W5 w6 := BD.out.trans hb6d)); clear hb6d))
      all_goals
        clear x0 x1 x2 x3 x4 a0 a1 a2 a3 a4 hkk hk5 HS HS7
        first
        | (have HV := Lib.hid (PA6.out.set (.int .u8 yk) (.int .i64 yn) (.int .u64 yb) (.string yt) (.slice ya yl yc) (.bool yg) (.string ys))
           have HBX := Lib.hid (below_set7 hb6 (Nat.le_refl _) (.int .u8 yk) (.int .i64 yn) (.int .u64 yb) (.string yt) (.slice ya yl yc) (.bool yg) (.string ys))
           clear z0 z1 z2 z3 z4 z5 z6 y0 y1 y2 y3 y4 y5 y6 PA6
           unfold set7 at HV HBX
           generalize hWx : ((((((w6.setCell ⟨W5.heap.size, 0, none⟩ (.int .u8 yk)).setCell ⟨W5.heap.size, 1, none⟩ (.int .i64 yn)).setCell ⟨W5.heap.size, 2, none⟩ (.int .u64 yb)).setCell ⟨W5.heap.size, 3, none⟩ (.string yt)).setCell ⟨W5.heap.size, 4, none⟩ (.slice ya yl yc)).setCell ⟨W5.heap.size, 5, none⟩ (.bool yg)).setCell ⟨W5.heap.size, 6, none⟩ (.string ys) = Wx at HV HBX ⊢
           clear hWx)
        | (have HV := Lib.hid (P7.new w6 (.int .u8 yk) (.int .i64 yn) (.int .u64 yb) (.string yt) (.slice ya yl yc) (.bool yg) (.string ys))
           have HBX := Lib.hid (hb6.alloc hb6.size (.cells #[.int .u8 yk, .int .i64 yn, .int .u64 yb, .string yt, .slice ya yl yc, .bool yg, .string ys] 54))
           generalize hWx : w6.alloc (.cells #[.int .u8 yk, .int .i64 yn, .int .u64 yb, .string yt, .slice ya yl yc, .bool yg, .string ys] 54) = Wx at HV HBX ⊢
           clear hWx)
        clear hb6
        have HBW := Lib.hid (HB5.out.trans (HBX.out.mono (by omega)))
        have HOX : Hid (OwnV Wx W3.heap.size (.slice oa j oc) (vs.take j)) := Lib.hid (Owns.below HOW.out HBW.out (fun k hk => (Owns.lt HOW.out k hk).2))
        have hsx := HBW.out.size
        cases is
        · have HPR := Lib.hid (HP3.out.under (HBR.out.trans (HBW.out.mono hsr)) (by omega))
          have HBF := Lib.hid (HB3.out.trans ((HBR.out.trans (HBW.out.mono hsr)).mono (by omega)))
          obtain ⟨c0, c1, c2, c3, c4, f0, f1, f2, f3, f4⟩ := HPR.out.cells
          clear hlook hzp hW3 hksI hkI k0 k1 HOX HBX HV
          go_wp2_with fail
          obtain ⟨r0, r1, r2, r3, r4, _, _, _, _, _⟩ := (HPR.out.set (.int .u8 0) (.int .i64 0) (.int .u64 0) (.string ⟨#[]⟩) (.slice none 0 0)).cells
          exact bodyPost_ret (v := .tuple #[.agg #[.int .u8 0, .int .i64 0, .int .u64 0, .string ⟨#[]⟩, .slice none 0 0], .bool false]) (by simp [results, Tryz.results11, go_sem, r0, r1, r2, r3, r4]) rfl ⟨rfl, below_set5 HBF.out (Nat.le_refl _) _ _ _ _ _⟩
        · have hji := of_decide_eq_true his
          obtain ⟨v0, v1, v2, v3, v4, v5, v6, _, _, _, _, _, _, _⟩ := HV.out.cells
          go_wp2_with (at_builtin; refine wpList_appv rfl (.tmp 50) (.tmp 52) rfl W3.heap.size _ (vs.take j) rfl HOX.out ⟨yk, yn, yb, yt, .slice ya yl yc, yg, ys⟩ _ rfl rfl rfl (by rw [htl]; omega) (by omega) ?_)
          intro v8 w8 ho8 hg8
          have HO8 : Hid (OwnV w8 W3.heap.size v8 (vs.take (j + 1))) := Lib.hid (by rw [HTS.out]; exact ho8)
          have HB8 := Lib.hid (hg8.below (HBR.out.trans (HBW.out.mono hsr)) (by omega) (fun k hk => (Owns.lt HOX.out k hk).1))
          obtain ⟨oa8, oc8, rfl⟩ := ho8.form
          clear ho8 hg8
          go_wp2_with fail
          go_roundw
          case rel => exact ⟨j + 1, by omega, by go_num, HO8.out, HB8.out⟩
          case measure => simp [RowKit.intOf]; omega
end Go.Proofs.YtlodbibagmblkaaGreatDoor
