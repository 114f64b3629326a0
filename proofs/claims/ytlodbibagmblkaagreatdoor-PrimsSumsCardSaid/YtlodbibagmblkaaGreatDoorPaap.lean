/- What the primitives 11 to 14 ask: the closures table$3 .. table$6 (printed by gen_clj.py). A quotient cut down, mended: the contract of Div. Products of words: the contract of nat.mul. Plain: the guess of a word of a quotient (Knuth's algorithm D). Plain: a multiple of words taken away in place, and mended (Knuth's algorithm D). A multiple of words taken away in place: what its contract speaks of. -/
import Derived.Test.YtlodbibagmblkaaGreatDoorPaak
import Derived.Test.YtlodbibagmblkaaGreatDoorPaal
import Derived.Test.YtlodbibagmblkaaGreatDoorPaah
import Derived.Test.YtlodbibagmblkaaGreatDoorPaad
import Derived.WalkKit
namespace Go.Proofs.YtlodbibagmblkaaGreatDoor
open Go.RowKit Go.Lib
set_option maxRecDepth 4000 in
set_option maxHeartbeats 4000000 in
theorem pick11 (ag bg qg rg : Bool) (as_ bs_ qs rs : ByteArray) (en : Int) (w : World) (hq : ∀ W, Calls Tryz.prog 30 #[.agg #[.bool ag, .string as_], .agg #[.bool bg, .string bs_]] W fun e w' => e = .returned (.tuple #[.agg #[.bool qg, .string qs], .agg #[.bool rg, .string rs], .int .i64 en]) ∧ Below W.heap.size W w') :
    Calls Tryz.prog 31 #[.agg #[.bool ag, .string as_], .agg #[.bool bg, .string bs_]] w fun e w' => e = .returned (.tuple #[.agg #[.bool rg, .string rs], .int .i64 en]) ∧ Below w.heap.size w w' := by
  have HQ := Lib.hid hq
  clear hq
  obtain ⟨W3, hW3⟩ : ∃ W3, ((w.alloc (.cells #[.bool ag, .string as_] 43)).alloc (.cells #[.bool bg, .string bs_] 43)).alloc (.cells #[.bool false, .string ⟨#[]⟩] 43) = W3 := ⟨_, rfl⟩
  have P0 : Hid (P2 W3 w.heap.size 43 (.bool ag) (.string as_)) := Lib.hid (by rw [← hW3]; exact ((P2.new _ _ _ _).alloc _).alloc _)
  have P1 : Hid (P2 W3 (w.heap.size + 1) 43 (.bool bg) (.string bs_)) := Lib.hid (by
    rw [← hW3]
    have := (P2.new (w.alloc (.cells #[.bool ag, .string as_] 43)) 43 (.bool bg) (.string bs_)).alloc (.cells #[.bool false, .string ⟨#[]⟩] 43)
    simpa using this)
  have R0 : Hid (P2 W3 (w.heap.size + 2) 43 (.bool false) (.string ⟨#[]⟩)) := Lib.hid (by
    rw [← hW3]
    have := P2.new ((w.alloc (.cells #[.bool ag, .string as_] 43)).alloc (.cells #[.bool bg, .string bs_] 43)) 43 (.bool false) (.string ⟨#[]⟩)
    simpa using this)
  have HB3 : Hid (Below w.heap.size w W3) := Lib.hid (by rw [← hW3]; exact (((Below.refl _ _).alloc (Nat.le_refl _) _).alloc (by simp) _).alloc (by simp; omega) _)
  have hs3 : w.heap.size + 3 ≤ W3.heap.size := by rw [← hW3]; simp
  obtain ⟨p0, p1, _, _⟩ := P0.out.cells
  obtain ⟨q0, q1, _, _⟩ := P1.out.cells
  go_enter Tryz.func31, Tryz.ntmps31
  go_wp2_with fail
  refine (HQ.out _).mono ?_
  rintro e w4 ⟨rfl, hb4⟩
  have hs4 : w.heap.size + 3 ≤ w4.heap.size := Nat.le_trans hs3 hb4.size
  obtain ⟨W5, hW5⟩ : ∃ W5, (w4.alloc (.cells #[.bool qg, .string qs] 43)).alloc (.cells #[.bool rg, .string rs] 43) = W5 := ⟨_, rfl⟩
  have hb5 : Below w4.heap.size w4 W5 := by rw [← hW5]; exact ((Below.refl _ _).alloc (Nat.le_refl _) _).alloc (by simp) _
  have HB5 := Lib.hid (chain (chain HB3.out hb4 (by omega)) hb5 (by omega))
  have R05 := Lib.hid ((R0.out.below hb4).below hb5)
  have PQ : Hid (P2 W5 w4.heap.size 43 (.bool qg) (.string qs)) := Lib.hid (by rw [← hW5]; exact (P2.new _ _ _ _).alloc _)
  have PR : Hid (P2 W5 (w4.heap.size + 1) 43 (.bool rg) (.string rs)) := Lib.hid (P2.at1 hW5)
  clear p0 p1 q0 q1 P0 P1 R0 HB3 hs3 hW3 hb4 hb5
  obtain ⟨a0, a1, _, _⟩ := PQ.out.cells
  obtain ⟨b0, b1, _, _⟩ := PR.out.cells
  obtain ⟨r0, r1, f0, f1⟩ := R05.out.cells
  have F0 := Lib.hid (R05.out.set (.bool rg) (.string rs))
  have ZB := Lib.hid (below_set2 HB5.out (show w.heap.size ≤ w.heap.size + 2 by omega) (.bool rg) (.string rs))
  go_wp2_with fail
  obtain ⟨k0, k1, _, _⟩ := F0.out.cells
  refine bodyPost_ret (v := .tuple #[.agg #[.bool rg, .string rs], .int .i64 en]) (by simp [results, Tryz.results31, go_sem, k0, k1]) rfl ⟨rfl, ZB.out⟩
set_option maxRecDepth 4000 in
set_option maxHeartbeats 4000000 in
theorem pick12 (ag bg qg rg : Bool) (as_ bs_ qs rs : ByteArray) (en : Int) (w : World) (hq : ∀ W, Calls Tryz.prog 30 #[.agg #[.bool ag, .string as_], .agg #[.bool bg, .string bs_]] W fun e w' => e = .returned (.tuple #[.agg #[.bool qg, .string qs], .agg #[.bool rg, .string rs], .int .i64 en]) ∧ Below W.heap.size W w') :
    Calls Tryz.prog 32 #[.agg #[.bool ag, .string as_], .agg #[.bool bg, .string bs_]] w fun e w' => e = .returned (.tuple #[.agg #[.bool qg, .string qs], .int .i64 en]) ∧ Below w.heap.size w w' := by
  have HQ := Lib.hid hq
  clear hq
  obtain ⟨W3, hW3⟩ : ∃ W3, ((w.alloc (.cells #[.bool ag, .string as_] 43)).alloc (.cells #[.bool bg, .string bs_] 43)).alloc (.cells #[.bool false, .string ⟨#[]⟩] 43) = W3 := ⟨_, rfl⟩
  have P0 : Hid (P2 W3 w.heap.size 43 (.bool ag) (.string as_)) := Lib.hid (by rw [← hW3]; exact ((P2.new _ _ _ _).alloc _).alloc _)
  have P1 : Hid (P2 W3 (w.heap.size + 1) 43 (.bool bg) (.string bs_)) := Lib.hid (by
    rw [← hW3]
    have := (P2.new (w.alloc (.cells #[.bool ag, .string as_] 43)) 43 (.bool bg) (.string bs_)).alloc (.cells #[.bool false, .string ⟨#[]⟩] 43)
    simpa using this)
  have R0 : Hid (P2 W3 (w.heap.size + 2) 43 (.bool false) (.string ⟨#[]⟩)) := Lib.hid (by
    rw [← hW3]
    have := P2.new ((w.alloc (.cells #[.bool ag, .string as_] 43)).alloc (.cells #[.bool bg, .string bs_] 43)) 43 (.bool false) (.string ⟨#[]⟩)
    simpa using this)
  have HB3 : Hid (Below w.heap.size w W3) := Lib.hid (by rw [← hW3]; exact (((Below.refl _ _).alloc (Nat.le_refl _) _).alloc (by simp) _).alloc (by simp; omega) _)
  have hs3 : w.heap.size + 3 ≤ W3.heap.size := by rw [← hW3]; simp
  obtain ⟨p0, p1, _, _⟩ := P0.out.cells
  obtain ⟨q0, q1, _, _⟩ := P1.out.cells
  go_enter Tryz.func32, Tryz.ntmps32
  go_wp2_with fail
  refine (HQ.out _).mono ?_
  rintro e w4 ⟨rfl, hb4⟩
  have hs4 : w.heap.size + 3 ≤ w4.heap.size := Nat.le_trans hs3 hb4.size
  obtain ⟨W5, hW5⟩ : ∃ W5, (w4.alloc (.cells #[.bool qg, .string qs] 43)).alloc (.cells #[.bool rg, .string rs] 43) = W5 := ⟨_, rfl⟩
  have hb5 : Below w4.heap.size w4 W5 := by rw [← hW5]; exact ((Below.refl _ _).alloc (Nat.le_refl _) _).alloc (by simp) _
  have HB5 := Lib.hid (chain (chain HB3.out hb4 (by omega)) hb5 (by omega))
  have R05 := Lib.hid ((R0.out.below hb4).below hb5)
  have PQ : Hid (P2 W5 w4.heap.size 43 (.bool qg) (.string qs)) := Lib.hid (by rw [← hW5]; exact (P2.new _ _ _ _).alloc _)
  have PR : Hid (P2 W5 (w4.heap.size + 1) 43 (.bool rg) (.string rs)) := Lib.hid (P2.at1 hW5)
  clear p0 p1 q0 q1 P0 P1 R0 HB3 hs3 hW3 hb4 hb5
  obtain ⟨a0, a1, _, _⟩ := PQ.out.cells
  obtain ⟨b0, b1, _, _⟩ := PR.out.cells
  obtain ⟨r0, r1, f0, f1⟩ := R05.out.cells
  have F0 := Lib.hid (R05.out.set (.bool qg) (.string qs))
  have ZB := Lib.hid (below_set2 HB5.out (show w.heap.size ≤ w.heap.size + 2 by omega) (.bool qg) (.string qs))
  go_wp2_with fail
  obtain ⟨k0, k1, _, _⟩ := F0.out.cells
  refine bodyPost_ret (v := .tuple #[.agg #[.bool qg, .string qs], .int .i64 en]) (by simp [results, Tryz.results32, go_sem, k0, k1]) rfl ⟨rfl, ZB.out⟩
set_option maxRecDepth 4000 in
set_option maxHeartbeats 4000000 in
theorem pick13 (ag bg qg rg : Bool) (as_ bs_ qs rs : ByteArray) (en : Int) (w : World) (hq : ∀ W, Calls Tryz.prog 34 #[.agg #[.bool ag, .string as_], .agg #[.bool bg, .string bs_]] W fun e w' => e = .returned (.tuple #[.agg #[.bool qg, .string qs], .agg #[.bool rg, .string rs], .int .i64 en]) ∧ Below W.heap.size W w') :
    Calls Tryz.prog 33 #[.agg #[.bool ag, .string as_], .agg #[.bool bg, .string bs_]] w fun e w' => e = .returned (.tuple #[.agg #[.bool qg, .string qs], .int .i64 en]) ∧ Below w.heap.size w w' := by
  have HQ := Lib.hid hq
  clear hq
  obtain ⟨W3, hW3⟩ : ∃ W3, ((w.alloc (.cells #[.bool ag, .string as_] 43)).alloc (.cells #[.bool bg, .string bs_] 43)).alloc (.cells #[.bool false, .string ⟨#[]⟩] 43) = W3 := ⟨_, rfl⟩
  have P0 : Hid (P2 W3 w.heap.size 43 (.bool ag) (.string as_)) := Lib.hid (by rw [← hW3]; exact ((P2.new _ _ _ _).alloc _).alloc _)
  have P1 : Hid (P2 W3 (w.heap.size + 1) 43 (.bool bg) (.string bs_)) := Lib.hid (by
    rw [← hW3]
    have := (P2.new (w.alloc (.cells #[.bool ag, .string as_] 43)) 43 (.bool bg) (.string bs_)).alloc (.cells #[.bool false, .string ⟨#[]⟩] 43)
    simpa using this)
  have R0 : Hid (P2 W3 (w.heap.size + 2) 43 (.bool false) (.string ⟨#[]⟩)) := Lib.hid (by
    rw [← hW3]
    have := P2.new ((w.alloc (.cells #[.bool ag, .string as_] 43)).alloc (.cells #[.bool bg, .string bs_] 43)) 43 (.bool false) (.string ⟨#[]⟩)
    simpa using this)
  have HB3 : Hid (Below w.heap.size w W3) := Lib.hid (by rw [← hW3]; exact (((Below.refl _ _).alloc (Nat.le_refl _) _).alloc (by simp) _).alloc (by simp; omega) _)
  have hs3 : w.heap.size + 3 ≤ W3.heap.size := by rw [← hW3]; simp
  obtain ⟨p0, p1, _, _⟩ := P0.out.cells
  obtain ⟨q0, q1, _, _⟩ := P1.out.cells
  go_enter Tryz.func33, Tryz.ntmps33
  go_wp2_with fail
  refine (HQ.out _).mono ?_
  rintro e w4 ⟨rfl, hb4⟩
  have hs4 : w.heap.size + 3 ≤ w4.heap.size := Nat.le_trans hs3 hb4.size
  obtain ⟨W5, hW5⟩ : ∃ W5, (w4.alloc (.cells #[.bool qg, .string qs] 43)).alloc (.cells #[.bool rg, .string rs] 43) = W5 := ⟨_, rfl⟩
  have hb5 : Below w4.heap.size w4 W5 := by rw [← hW5]; exact ((Below.refl _ _).alloc (Nat.le_refl _) _).alloc (by simp) _
  have HB5 := Lib.hid (chain (chain HB3.out hb4 (by omega)) hb5 (by omega))
  have R05 := Lib.hid ((R0.out.below hb4).below hb5)
  have PQ : Hid (P2 W5 w4.heap.size 43 (.bool qg) (.string qs)) := Lib.hid (by rw [← hW5]; exact (P2.new _ _ _ _).alloc _)
  have PR : Hid (P2 W5 (w4.heap.size + 1) 43 (.bool rg) (.string rs)) := Lib.hid (P2.at1 hW5)
  clear p0 p1 q0 q1 P0 P1 R0 HB3 hs3 hW3 hb4 hb5
  obtain ⟨a0, a1, _, _⟩ := PQ.out.cells
  obtain ⟨b0, b1, _, _⟩ := PR.out.cells
  obtain ⟨r0, r1, f0, f1⟩ := R05.out.cells
  have F0 := Lib.hid (R05.out.set (.bool qg) (.string qs))
  have ZB := Lib.hid (below_set2 HB5.out (show w.heap.size ≤ w.heap.size + 2 by omega) (.bool qg) (.string qs))
  go_wp2_with fail
  obtain ⟨k0, k1, _, _⟩ := F0.out.cells
  refine bodyPost_ret (v := .tuple #[.agg #[.bool qg, .string qs], .int .i64 en]) (by simp [results, Tryz.results33, go_sem, k0, k1]) rfl ⟨rfl, ZB.out⟩
set_option maxRecDepth 4000 in
set_option maxHeartbeats 4000000 in
theorem pick14 (ag bg qg rg : Bool) (as_ bs_ qs rs : ByteArray) (en : Int) (w : World) (hq : ∀ W, Calls Tryz.prog 34 #[.agg #[.bool ag, .string as_], .agg #[.bool bg, .string bs_]] W fun e w' => e = .returned (.tuple #[.agg #[.bool qg, .string qs], .agg #[.bool rg, .string rs], .int .i64 en]) ∧ Below W.heap.size W w') :
    Calls Tryz.prog 35 #[.agg #[.bool ag, .string as_], .agg #[.bool bg, .string bs_]] w fun e w' => e = .returned (.tuple #[.agg #[.bool rg, .string rs], .int .i64 en]) ∧ Below w.heap.size w w' := by
  have HQ := Lib.hid hq
  clear hq
  obtain ⟨W3, hW3⟩ : ∃ W3, ((w.alloc (.cells #[.bool ag, .string as_] 43)).alloc (.cells #[.bool bg, .string bs_] 43)).alloc (.cells #[.bool false, .string ⟨#[]⟩] 43) = W3 := ⟨_, rfl⟩
  have P0 : Hid (P2 W3 w.heap.size 43 (.bool ag) (.string as_)) := Lib.hid (by rw [← hW3]; exact ((P2.new _ _ _ _).alloc _).alloc _)
  have P1 : Hid (P2 W3 (w.heap.size + 1) 43 (.bool bg) (.string bs_)) := Lib.hid (by
    rw [← hW3]
    have := (P2.new (w.alloc (.cells #[.bool ag, .string as_] 43)) 43 (.bool bg) (.string bs_)).alloc (.cells #[.bool false, .string ⟨#[]⟩] 43)
    simpa using this)
  have R0 : Hid (P2 W3 (w.heap.size + 2) 43 (.bool false) (.string ⟨#[]⟩)) := Lib.hid (by
    rw [← hW3]
    have := P2.new ((w.alloc (.cells #[.bool ag, .string as_] 43)).alloc (.cells #[.bool bg, .string bs_] 43)) 43 (.bool false) (.string ⟨#[]⟩)
    simpa using this)
  have HB3 : Hid (Below w.heap.size w W3) := Lib.hid (by rw [← hW3]; exact (((Below.refl _ _).alloc (Nat.le_refl _) _).alloc (by simp) _).alloc (by simp; omega) _)
  have hs3 : w.heap.size + 3 ≤ W3.heap.size := by rw [← hW3]; simp
  obtain ⟨p0, p1, _, _⟩ := P0.out.cells
  obtain ⟨q0, q1, _, _⟩ := P1.out.cells
  go_enter Tryz.func35, Tryz.ntmps35
  go_wp2_with fail
  refine (HQ.out _).mono ?_
  rintro e w4 ⟨rfl, hb4⟩
  have hs4 : w.heap.size + 3 ≤ w4.heap.size := Nat.le_trans hs3 hb4.size
  obtain ⟨W5, hW5⟩ : ∃ W5, (w4.alloc (.cells #[.bool qg, .string qs] 43)).alloc (.cells #[.bool rg, .string rs] 43) = W5 := ⟨_, rfl⟩
  have hb5 : Below w4.heap.size w4 W5 := by rw [← hW5]; exact ((Below.refl _ _).alloc (Nat.le_refl _) _).alloc (by simp) _
  have HB5 := Lib.hid (chain (chain HB3.out hb4 (by omega)) hb5 (by omega))
  have R05 := Lib.hid ((R0.out.below hb4).below hb5)
  have PQ : Hid (P2 W5 w4.heap.size 43 (.bool qg) (.string qs)) := Lib.hid (by rw [← hW5]; exact (P2.new _ _ _ _).alloc _)
  have PR : Hid (P2 W5 (w4.heap.size + 1) 43 (.bool rg) (.string rs)) := Lib.hid (P2.at1 hW5)
  clear p0 p1 q0 q1 P0 P1 R0 HB3 hs3 hW3 hb4 hb5
  obtain ⟨a0, a1, _, _⟩ := PQ.out.cells
  obtain ⟨b0, b1, _, _⟩ := PR.out.cells
  obtain ⟨r0, r1, f0, f1⟩ := R05.out.cells
  have F0 := Lib.hid (R05.out.set (.bool rg) (.string rs))
  have ZB := Lib.hid (below_set2 HB5.out (show w.heap.size ≤ w.heap.size + 2 by omega) (.bool rg) (.string rs))
  go_wp2_with fail
  obtain ⟨k0, k1, _, _⟩ := F0.out.cells
  refine bodyPost_ret (v := .tuple #[.agg #[.bool rg, .string rs], .int .i64 en]) (by simp [results, Tryz.results35, go_sem, k0, k1]) rfl ⟨rfl, ZB.out⟩
end Go.Proofs.YtlodbibagmblkaaGreatDoor
namespace Go.Proofs.YtlodbibagmblkaaGreatDoor
open Go.RowKit Go.Lib
set_option maxHeartbeats 1000000 in
theorem lofn_any2 (n : Int) (w : World) (h1 : -9223372036854775808 ≤ n) (h2 : n ≤ 9223372036854775807) :
    Calls Tryz.prog 57 #[.int .i64 n] w fun e w' => e = .returned (lof n) ∧ Below w.heap.size w w' := by
  have h := ofn_any n w h1 h2
  rw [ofv_is h1 h2] at h
  exact h
set_option maxRecDepth 4000 in
set_option maxHeartbeats 8000000 in
theorem ldiv_mend (A B Q R : Int) (w : World) (hq : ∀ W, Calls Tryz.prog 34 #[lof A, lof B] W fun e w' => e = .returned (.tuple #[lof Q, lof R, .int .i64 0]) ∧ Below W.heap.size W w')
    (hR0 : R ≠ 0) (hs : decide (R < 0) ≠ decide (B < 0)) (hQ : Pl.Big Q) (hQ1 : Pl.Big (Q - 1)) (hR : Pl.Big R) (hB : Pl.Big B) (hRB : Pl.Big (R + B)) :
    Calls Tryz.prog 30 #[lof A, lof B] w fun e w' => e = .returned (.tuple #[lof (Q - 1), lof (R + B), .int .i64 0]) ∧ Below w.heap.size w w' := by
  have HQ := Lib.hid hq
  have hm1 : Pl.Big (-1) := Pl.lt_p (V := 1) (a := 1) (b := 4096) (by decide) (by decide)
  have HOQ := Lib.hid (fun W => lof_any2 Q W hQ)
  have HO1 := Lib.hid (fun W => lof_any2 (-1) W hm1)
  have HOR := Lib.hid (fun W => lof_any2 R W hR)
  have HOB := Lib.hid (fun W => lof_any2 B W hB)
  have HM1 := Lib.hid (fun W => lofn_any2 (-1) W (by omega) (by omega))
  have HA1 : Hid (∀ W va vb, Rd W va (Pl.wd Q.natAbs) → Rd W vb (Pl.wd (-1 : Int).natAbs) → Calls Tryz.prog 67 #[.agg #[va, .bool (decide (Q < 0))], .agg #[vb, .bool (decide ((-1 : Int) < 0))]] W (NumOk W (Q - 1))) := Lib.hid (fun W va vb h1 h2 => by
    have := numadd_any va vb (decide (Q < 0)) (decide ((-1 : Int) < 0)) _ _ W h1 h2 (wd_small hQ) (wd_small hm1)
    rw [sg_of, sg_of] at this
    exact this)
  have HA2 : Hid (∀ W va vb, Rd W va (Pl.wd R.natAbs) → Rd W vb (Pl.wd B.natAbs) → Calls Tryz.prog 67 #[.agg #[va, .bool (decide (R < 0))], .agg #[vb, .bool (decide (B < 0))]] W (NumOk W (R + B))) := Lib.hid (fun W va vb h1 h2 => by
    have := numadd_any va vb (decide (R < 0)) (decide (B < 0)) _ _ W h1 h2 (wd_small hR) (wd_small hB)
    rw [sg_of, sg_of] at this
    exact this)
  have HT1 : Hid (∀ W v neg V, sg neg V = Q - 1 → Rd W v (Pl.wd V) → Calls Tryz.prog 66 #[.agg #[v, .bool neg]] W fun e w' => e = .returned (.tuple #[lof (Q - 1), .int .i64 0]) ∧ Below W.heap.size W w') := Lib.hid (fun W v neg V h1 h2 => by
    have := ltold2_any v neg V _ W h1 h2 (by rw [sg_abs h1]; exact Nat.le_trans (wd_small hQ1) (by decide))
    unfold ToldV toldv at this
    rwa [if_pos hQ1] at this)
  have HT2 : Hid (∀ W v neg V, sg neg V = R + B → Rd W v (Pl.wd V) → Calls Tryz.prog 66 #[.agg #[v, .bool neg]] W fun e w' => e = .returned (.tuple #[lof (R + B), .int .i64 0]) ∧ Below W.heap.size W w') := Lib.hid (fun W v neg V h1 h2 => by
    have := ltold2_any v neg V _ W h1 h2 (by rw [sg_abs h1]; exact Nat.le_trans (wd_small hRB) (by decide))
    unfold ToldV toldv at this
    rwa [if_pos hRB] at this)
  have hre : (bs (Pl.dgs R.natAbs)).toList.isEmpty = false := by
    rw [Bool.eq_false_iff]
    intro h
    have h2 : Pl.dgs R.natAbs = [] := by simpa [bs, ByteArray.toList_eq] using h
    have h3 := Pl.dgs_empty R.natAbs
    rw [h2] at h3
    simp at h3
    exact hR0 h3
  obtain ⟨ag, as_, ha⟩ : ∃ f s, lof A = .agg #[.bool f, .string s] := ⟨_, _, rfl⟩
  obtain ⟨bg, hbg⟩ : ∃ f, decide (B < 0) = f := ⟨_, rfl⟩
  obtain ⟨rg, hrg⟩ : ∃ f, decide (R < 0) = f := ⟨_, rfl⟩
  obtain ⟨bs_, hb⟩ : ∃ s, lof B = .agg #[.bool bg, .string s] := ⟨_, by rw [← hbg]; rfl⟩
  obtain ⟨rs, hr, hrs⟩ : ∃ s, lof R = .agg #[.bool rg, .string s] ∧ s.toList.isEmpty = false := ⟨_, by rw [← hrg]; rfl, hre⟩
  obtain ⟨qg, qs, hqv⟩ : ∃ f s, lof Q = .agg #[.bool f, .string s] := ⟨_, _, rfl⟩
  obtain ⟨mg, ms, hmv⟩ : ∃ f s, lof (-1) = .agg #[.bool f, .string s] := ⟨_, _, rfl⟩
  obtain ⟨xg, xs, hxv⟩ : ∃ f s, lof (Q - 1) = .agg #[.bool f, .string s] := ⟨_, _, rfl⟩
  obtain ⟨yg, ys, hyv⟩ : ∃ f s, lof (R + B) = .agg #[.bool f, .string s] := ⟨_, _, rfl⟩
  rw [hbg, hrg] at hs
  rw [hbg, hrg] at HA2
  rw [hbg] at HOB
  rw [hrg] at HOR
  rw [ha, hb] at HQ ⊢
  rw [hb] at HOB
  rw [hr] at HOR HQ
  rw [hqv] at HOQ HQ
  rw [hmv] at HO1 HM1
  rw [hxv] at HT1 ⊢
  rw [hyv] at HT2 ⊢
  obtain ⟨ng, hng⟩ : ∃ f, decide (Q < 0) = f := ⟨_, rfl⟩
  obtain ⟨og, hog⟩ : ∃ f, decide ((-1 : Int) < 0) = f := ⟨_, rfl⟩
  rw [hng] at HOQ HA1
  rw [hog] at HO1 HA1
  clear hng hog
  have hsb : (rg == bg) = false := by rw [beq_eq_false_iff_ne]; exact hs
  clear hq hR0 hs hQ hQ1 hR hB hRB hm1 hre ha hbg hrg hb hr hqv hmv hxv hyv
  generalize (-1 : Int).natAbs = M1 at *
  generalize Q - 1 = Q1 at *
  generalize R + B = RB at *
  generalize Q.natAbs = QN at *
  generalize R.natAbs = RN at *
  generalize B.natAbs = BN at *
  obtain ⟨W3, hW3⟩ : ∃ W3, (((w.alloc (.cells #[.bool ag, .string as_] 43)).alloc (.cells #[.bool bg, .string bs_] 43)).alloc (.cells #[.bool false, .string ⟨#[]⟩] 43)).alloc (.cells #[.bool false, .string ⟨#[]⟩] 43) = W3 := ⟨_, rfl⟩
  have P0 : Hid (P2 W3 w.heap.size 43 (.bool ag) (.string as_)) := Lib.hid (by rw [← hW3]; exact (((P2.new _ _ _ _).alloc _).alloc _).alloc _)
  have P1 : Hid (P2 W3 (w.heap.size + 1) 43 (.bool bg) (.string bs_)) := Lib.hid (by
    rw [← hW3]
    have := ((P2.new (w.alloc (.cells #[.bool ag, .string as_] 43)) 43 (.bool bg) (.string bs_)).alloc (.cells #[.bool false, .string ⟨#[]⟩] 43)).alloc (.cells #[.bool false, .string ⟨#[]⟩] 43)
    simpa using this)
  have R0 : Hid (P2 W3 (w.heap.size + 2) 43 (.bool false) (.string ⟨#[]⟩)) := Lib.hid (by
    rw [← hW3]
    have := (P2.new ((w.alloc (.cells #[.bool ag, .string as_] 43)).alloc (.cells #[.bool bg, .string bs_] 43)) 43 (.bool false) (.string ⟨#[]⟩)).alloc (.cells #[.bool false, .string ⟨#[]⟩] 43)
    simpa using this)
  have R1 : Hid (P2 W3 (w.heap.size + 3) 43 (.bool false) (.string ⟨#[]⟩)) := Lib.hid (by
    rw [← hW3]
    have := P2.new (((w.alloc (.cells #[.bool ag, .string as_] 43)).alloc (.cells #[.bool bg, .string bs_] 43)).alloc (.cells #[.bool false, .string ⟨#[]⟩] 43)) 43 (.bool false) (.string ⟨#[]⟩)
    simpa using this)
  have HB3 : Hid (Below w.heap.size w W3) := Lib.hid (by rw [← hW3]; exact ((((Below.refl _ _).alloc (Nat.le_refl _) _).alloc (by simp) _).alloc (by simp; omega) _).alloc (by simp; omega) _)
  have hs3 : w.heap.size + 4 ≤ W3.heap.size := by rw [← hW3]; simp
  obtain ⟨p0, p1, _, _⟩ := P0.out.cells
  obtain ⟨q0, q1, _, _⟩ := P1.out.cells
  go_enter Tryz.func30, Tryz.ntmps30
  go_wp2_with fail
  refine (HQ.out _).mono ?_
  rintro e w4 ⟨rfl, hb4⟩
  have hs4 : w.heap.size + 4 ≤ w4.heap.size := Nat.le_trans hs3 hb4.size
  obtain ⟨W5, hW5⟩ : ∃ W5, (w4.alloc (.cells #[.bool qg, .string qs] 43)).alloc (.cells #[.bool rg, .string rs] 43) = W5 := ⟨_, rfl⟩
  have hb5 : Below w4.heap.size w4 W5 := by rw [← hW5]; exact ((Below.refl _ _).alloc (Nat.le_refl _) _).alloc (by simp) _
  have HB5 := Lib.hid (chain (chain HB3.out hb4 (by omega)) hb5 (by omega))
  have P15 := Lib.hid ((P1.out.below hb4).below hb5)
  have R05 := Lib.hid ((R0.out.below hb4).below hb5)
  have R15 := Lib.hid ((R1.out.below hb4).below hb5)
  have PQ : Hid (P2 W5 w4.heap.size 43 (.bool qg) (.string qs)) := Lib.hid (by rw [← hW5]; exact (P2.new _ _ _ _).alloc _)
  have PR : Hid (P2 W5 (w4.heap.size + 1) 43 (.bool rg) (.string rs)) := Lib.hid (P2.at1 hW5)
  have hs5 : w4.heap.size + 2 ≤ W5.heap.size := by rw [← hW5]; simp
  clear p0 p1 q0 q1 P0 P1 R0 R1 HB3 hs3 hW3 hb4 hb5
  obtain ⟨q0, q1, _, _⟩ := P15.out.cells
  obtain ⟨a0, a1, _, _⟩ := PQ.out.cells
  obtain ⟨b0, b1, _, _⟩ := PR.out.cells
  go_wp2_with fail
  refine (HOQ.out _).mono ?_
  rintro e w6 ⟨va, rfl, hra, hb6⟩
  obtain ⟨aa, an, ac, rfl⟩ := rd_form hra
  go_wp2_with fail
  refine (HM1.out _).mono ?_
  rintro e w7 ⟨rfl, hb7⟩
  have hb7' := hb6.trans (hb7.mono hb6.size)
  have hra7 := hra.below hb7
  clear hb6 hb7 hra
  go_wp2_with fail
  refine (HO1.out _).mono ?_
  rintro e w8 ⟨vb, rfl, hrb, hb8⟩
  obtain ⟨ba, bn, bc, rfl⟩ := rd_form hrb
  have hb8' := hb7'.trans (hb8.mono hb7'.size)
  have hra8 := hra7.below hb8
  clear hb7' hb8 hra7
  go_wp2_with fail
  refine (HA1.out _ _ _ (by exact hra8) (by exact hrb)).mono ?_
  rintro e w9 ⟨v7, n7, V7, rfl, hr7, hsg, hb9⟩
  obtain ⟨a7, k7, c7, rfl⟩ := rd_form hr7
  have hb9' := hb8'.trans (hb9.mono hb8'.size)
  clear hb8' hb9 hra8 hrb
  go_wp2_with fail
  refine (HT1.out _ _ _ _ hsg hr7).mono ?_
  rintro e w10 ⟨rfl, hb10⟩
  have HBA := Lib.hid (hb9'.trans (hb10.mono hb9'.size))
  have P1A := Lib.hid (P15.out.below HBA.out)
  have PQA := Lib.hid (PQ.out.below HBA.out)
  have PRA := Lib.hid (PR.out.below HBA.out)
  have R0A := Lib.hid (R05.out.below HBA.out)
  have R1A := Lib.hid (R15.out.below HBA.out)
  have hsA : W5.heap.size ≤ w10.heap.size := HBA.out.size
  clear hb9' hb10 hsg hr7 q0 q1 a0 a1 b0 b1 P15 PQ PR R05 R15 hW5
  obtain ⟨a0, a1, fa0, fa1⟩ := PQA.out.cells
  obtain ⟨WB, hWB⟩ : ∃ WB, (w10.setCell ⟨w4.heap.size, 0, none⟩ (.bool xg)).setCell ⟨w4.heap.size, 1, none⟩ (.string xs) = WB := ⟨_, rfl⟩
  have P1B : Hid (P2 WB (w.heap.size + 1) 43 (.bool bg) (.string bs_)) := Lib.hid (by rw [← hWB]; exact P1A.out.both (by omega))
  have PQB : Hid (P2 WB w4.heap.size 43 (.bool xg) (.string xs)) := Lib.hid (by rw [← hWB]; exact PQA.out.set _ _)
  have PRB : Hid (P2 WB (w4.heap.size + 1) 43 (.bool rg) (.string rs)) := Lib.hid (by rw [← hWB]; exact PRA.out.both (by omega))
  have R0B : Hid (P2 WB (w.heap.size + 2) 43 (.bool false) (.string ⟨#[]⟩)) := Lib.hid (by rw [← hWB]; exact R0A.out.both (by omega))
  have R1B : Hid (P2 WB (w.heap.size + 3) 43 (.bool false) (.string ⟨#[]⟩)) := Lib.hid (by rw [← hWB]; exact R1A.out.both (by omega))
  have HBB : Hid (Below w.heap.size w WB) := Lib.hid (by rw [← hWB]; exact below_set2 (HB5.out.trans (HBA.out.mono (by omega))) (by omega) _ _)
  have hsB : w4.heap.size + 2 ≤ WB.heap.size := by rw [← hWB]; simp [World.setCell]; omega
  clear P1A PQA PRA R0A R1A HBA HB5 hsA
  go_wp2_with fail
  obtain ⟨q0, q1, _, _⟩ := P1B.out.cells
  obtain ⟨b0, b1, fb0, fb1⟩ := PRB.out.cells
  have BD := Lib.hid (show Below WB.heap.size WB WB.drew from (Below.refl _ WB).drew)
  have HS : Hid (∀ W, Below WB.heap.size WB W → W.cell? ⟨w.heap.size + 1, 0, none⟩ = some (.bool bg) ∧ W.cell? ⟨w.heap.size + 1, 1, none⟩ = some (.string bs_)) := Lib.hid (fun W hb => ⟨(P1B.out.below hb).cells.1, (P1B.out.below hb).cells.2.1⟩)
  have HS2 : Hid (∀ W, Below WB.heap.size WB W → ∀ x y, ((W.setCell ⟨w4.heap.size + 1, 0, none⟩ x).setCell ⟨w4.heap.size + 1, 1, none⟩ y).cell? ⟨w.heap.size + 1, 0, none⟩ = some (.bool bg) ∧ ((W.setCell ⟨w4.heap.size + 1, 0, none⟩ x).setCell ⟨w4.heap.size + 1, 1, none⟩ y).cell? ⟨w.heap.size + 1, 1, none⟩ = some (.string bs_)) := Lib.hid (fun W hb x y => ⟨((P1B.out.below hb).both (by omega)).cells.1, ((P1B.out.below hb).both (by omega)).cells.2.1⟩)
  clear a0 a1 fa0 fa1 hWB
  go_region_with (first
    | (go_at_call 66; (with_reducible refine (HT2.out _ _ _ _ hsg13 hr13).mono ?_); rintro e w14 ⟨rfl, hb14d⟩; have hb14 : Below WB.heap.size WB w14 := hb13.trans (hb14d.mono hb13.size); obtain ⟨c0, c1, fc0, fc1⟩ := (PRB.out.below hb14).cells; obtain ⟨u40, u41, _, _⟩ := (P1B.out.below hb14).cells; obtain ⟨x40, x41, _, _⟩ := (PRB.out.below hb14).cells; clear hb14d)
    | (go_at_call 67; (with_reducible refine (HA2.out _ _ _ (by exact hrr12) (by exact hrb2)).mono ?_); rintro e w13 ⟨v13, n13, V13, rfl, hr13, hsg13, hb13d⟩; obtain ⟨xa, xn, xc, rfl⟩ := rd_form hr13; have hb13 : Below WB.heap.size WB w13 := hb12.trans (hb13d.mono hb12.size); obtain ⟨u30, u31, _, _⟩ := (P1B.out.below hb13).cells; obtain ⟨x30, x31, _, _⟩ := (PRB.out.below hb13).cells; clear hb13d)
    | (go_at_call 69; (with_reducible refine (HOB.out _).mono ?_); rintro e w12 ⟨vb2, rfl, hrb2, hb12d⟩; obtain ⟨ya, yn, yc, rfl⟩ := rd_form hrb2; have hrr12 := hrr.below hb12d; have hb12 : Below WB.heap.size WB w12 := hb11.trans (hb12d.mono hb11.size); obtain ⟨u20, u21, _, _⟩ := (P1B.out.below hb12).cells; obtain ⟨x20, x21, _, _⟩ := (PRB.out.below hb12).cells; clear hb12d)
    | (go_at_call 69; (with_reducible refine (HOR.out _).mono ?_); rintro e w11 ⟨vr, rfl, hrr, hb11d⟩; obtain ⟨za, zn, zc, rfl⟩ := rd_form hrr; have hb11 : Below WB.heap.size WB w11 := BD.out.trans hb11d; obtain ⟨u10, u11, _, _⟩ := (P1B.out.below hb11).cells; obtain ⟨x10, x11, _, _⟩ := (PRB.out.below hb11).cells; clear hb11d))
  all_goals
    have HBC := Lib.hid hb14
    have PQC := Lib.hid ((PQB.out.below hb14).both (k := w4.heap.size) (j := w4.heap.size + 1) (x := .bool yg) (y := .string ys) (by omega))
    have PRC := Lib.hid ((PRB.out.below hb14).set (.bool yg) (.string ys))
    have R0C := Lib.hid ((R0B.out.below hb14).both (k := w.heap.size + 2) (j := w4.heap.size + 1) (x := .bool yg) (y := .string ys) (by omega))
    have R1C := Lib.hid ((R1B.out.below hb14).both (k := w.heap.size + 3) (j := w4.heap.size + 1) (x := .bool yg) (y := .string ys) (by omega))
    have HBD := Lib.hid (below_set2 (HBB.out.trans (hb14.mono (by omega))) (show w.heap.size ≤ w4.heap.size + 1 by omega) (.bool yg) (.string ys))
    obtain ⟨WD, hWD⟩ : ∃ WD, (w14.setCell ⟨w4.heap.size + 1, 0, none⟩ (.bool yg)).setCell ⟨w4.heap.size + 1, 1, none⟩ (.string ys) = WD := ⟨_, rfl⟩
    rw [hWD] at PQC PRC R0C R1C HBD
    obtain ⟨a0, a1, _, _⟩ := PQC.out.cells
    obtain ⟨d0, d1, _, _⟩ := PRC.out.cells
    obtain ⟨r0, r1, f0, f1⟩ := R0C.out.cells
    obtain ⟨t0, t1, g0, g1⟩ := R1C.out.cells
    have F0 := Lib.hid ((R0C.out.set (.bool xg) (.string xs)).both (k := w.heap.size + 2) (j := w.heap.size + 3) (x := .bool yg) (y := .string ys) (by omega))
    have F1 := Lib.hid ((R1C.out.both (k := w.heap.size + 3) (j := w.heap.size + 2) (x := .bool xg) (y := .string xs) (by omega)).set (.bool yg) (.string ys))
    have ZB := Lib.hid (below_set2 (below_set2 HBD.out (show w.heap.size ≤ w.heap.size + 2 by omega) (.bool xg) (.string xs)) (show w.heap.size ≤ w.heap.size + 3 by omega) (.bool yg) (.string ys))
    clear hsg13 hr13 hrr12 hrb2 hb13 hb12 hb11 hb14 c0 c1 fc0 fc1 q0 q1 b0 b1 fb0 fb1 HBC
    go_wp2_with fail
    go_region
    go_wp2_with fail
    obtain ⟨k0, k1, _, _⟩ := F0.out.drew.cells
    obtain ⟨l0, l1, _, _⟩ := F1.out.drew.cells
    refine bodyPost_ret (v := .tuple #[.agg #[.bool xg, .string xs], .agg #[.bool yg, .string ys], .int .i64 0]) (by simp [results, Tryz.results30, go_sem, k0, k1, l0, l1]) rfl ⟨rfl, ZB.out.drew⟩
end Go.Proofs.YtlodbibagmblkaaGreatDoor
namespace Go.Proofs.YtlodbibagmblkaaGreatDoor
open Go.RowKit Go.Lib
theorem Pl.ws_getD {xs : List Nat} {k : Nat} (h : Pl.Ws xs) : xs.getD k 0 < 4294967296 := Pl.getD_ws h k
theorem Pl.getD_set_ne {zs : List Nat} {k j v : Nat} (h : k ≠ j) : (zs.set k v).getD j 0 = zs.getD j 0 := by
  rw [List.getD_eq_getElem?_getD, List.getD_eq_getElem?_getD, List.getElem?_set_ne h]
set_option maxRecDepth 4000 in
set_option maxHeartbeats 4000000 in
theorem nmul_any (vx vy : Value) (Xs Ys : List Nat) (w : World) (hx : Rd w vx Xs) (hy : Rd w vy Ys) (lx : Xs.length ≤ 3000) (ly : Ys.length ≤ 3000) (wx : Pl.Ws Xs) (wy : Pl.Ws Ys) :
    Calls Tryz.prog 68 #[vx, vy] w (NatOk w (Pl.num Xs * Pl.num Ys)) := by
  obtain ⟨i0, hi, hz0, hz1, hz2⟩ := info_parts info74
  obtain ⟨Xa, Xc, rfl⟩ := hx.form
  obtain ⟨Ya, Yc, rfl⟩ := hy.form
  have HX := Lib.hid hx
  have HY := Lib.hid hy
  have HWX := Lib.hid wx
  have HWY := Lib.hid wy
  clear hx hy wx wy
  obtain ⟨n, hn⟩ : ∃ n, Xs.length = n := ⟨_, rfl⟩
  obtain ⟨m, hm⟩ : ∃ m, Ys.length = m := ⟨_, rfl⟩
  rw [hn] at lx HX
  rw [hm] at HY ly
  rw [hn, hm]
  have HN := Lib.hid hn
  have HM := Lib.hid hm
  obtain ⟨V, hV⟩ : ∃ V, Pl.num Xs * Pl.num Ys = V := ⟨_, rfl⟩
  rw [hV]
  have HV := Lib.hid hV
  clear hn hm hV
  go_enter Tryz.func68, Tryz.ntmps68
  go_wp2_with (at_make; refine wpList_make_full _ rfl _ _ 90 rfl w.heap.size 103 i0 (.int .u32 0) 1 Tryz.underlying90 hi hz0 hz1 .i64 .i64 _ _ (n + m) rfl rfl (by omega) (by omega) (by rw [hz2]; omega) (by unfold maxLen; omega) (by simp) ?_)
  intro w1 ho1 hg1
  obtain ⟨g, hgd⟩ : ∃ g, w.heap.size = g := ⟨_, rfl⟩
  have hrow := made_row ho1
  rw [hgd] at hrow ⊢
  have HB1 := Lib.hid (show Below g w w1 from (Below.refl _ _).grown hg1 (by omega) (fun k hk => by cases hk))
  have HROW := Lib.hid hrow
  have HGD := Lib.hid hgd
  clear ho1 hg1 hi hz0 hz1 hz2 hrow hgd
  go_wp2_with fail
  go_loopw [6, 7, 8, 9, 10, 11, 20] (fun _ _ _ _ _ _ i wr => ∃ (k : Nat) (zs : List Nat), k ≤ n ∧ i = .int .i64 k ∧ Wrow wr g zs ∧ zs.length = n + m ∧ Pl.Ws zs ∧ (∀ j, k + m ≤ j → zs.getD j 0 = 0) ∧ Hid (Pl.num zs = Pl.num (Xs.take k) * Pl.num Ys) ∧ Below g w wr) (fun _ _ _ _ _ _ i _ => n - (RowKit.intOf i).toNat)
  case atStart => exact ⟨0, List.replicate (n + m) 0, Nat.zero_le _, rfl, HROW.out, by simp, Pl.ws_replicate _, fun j _ => by simp [List.getD_eq_getElem?_getD, List.getElem?_replicate]; split <;> rfl, Lib.hid (by rw [Pl.num_replicate]; simp [Pl.num]), HB1.out⟩
  case round =>
    obtain ⟨k, zs, hk, rfl, hrow, hzl, hws, hz0, hnum, hb⟩ := hrel
    have HB := Lib.hid hb
    have HZL := Lib.hid hzl
    have HWS := Lib.hid hws
    have HZ0 := Lib.hid hz0
    have HROW2 := Lib.hid hrow
    by_cases hlt : k < n
    · obtain ⟨bx, hxa, hbx, hcx⟩ := HX.out.at (k := k) (by rw [HN.out]; exact hlt)
      have hcx2 : wr.cell? ⟨bx, k, none⟩ = some (.int .u32 (Xs.getD k 0 : Nat)) := by
        rw [HB.out.cell (p := ⟨bx, k, none⟩) (by have := HGD.out; show bx < _; omega)]; exact hcx
      subst hxa
      have hal := Pl.getD_ws HWX.out k
      have HTS : Hid (Pl.num (Xs.take (k + 1)) = Pl.num (Xs.take k) + 4294967296 ^ k * Xs.getD k 0) := Lib.hid (Pl.num_take_succ Xs k)
      obtain ⟨a, ha⟩ : ∃ a, Xs.getD k 0 = a := ⟨_, rfl⟩
      rw [ha] at hcx2 hal HTS
      obtain ⟨wp, hwp⟩ : ∃ x, x = wr := ⟨wr, rfl⟩
      subst hwp
      clear hrow hzl hws hz0 hb hcx hbx ha
      go_wp2_with fail
      go_loopw [8, 9, 10, 11, 27] (fun c _ _ _ i wr => ∃ (q cc : Nat) (ys : List Nat), q ≤ m ∧ cc < 4294967296 ∧ c = .int .u64 cc ∧ i = .int .i64 q ∧ Wrow wr g ys ∧ ys.length = n + m ∧ Pl.Ws ys ∧ (∀ j, k + m ≤ j → ys.getD j 0 = 0) ∧ Hid (Pl.num ys + 4294967296 ^ (k + q) * cc = Pl.num zs + 4294967296 ^ k * (a * Pl.num (Ys.take q))) ∧ Below g w wr) (fun _ _ _ _ i _ => m - (RowKit.intOf i).toNat)
      case atStart => exact ⟨0, 0, zs, Nat.zero_le _, by decide, rfl, rfl, HROW2.out, HZL.out, HWS.out, HZ0.out, Lib.hid (by simp [Pl.num]), HB.out⟩
      case round =>
        obtain ⟨q, cc, ys, hq, hcc, rfl, rfl, hrow, hzl, hws, hz0, hnm, hb⟩ := hrel
        have HB2 := Lib.hid hb
        have HYL := Lib.hid hzl
        have HWS2 := Lib.hid hws
        have HYZ := Lib.hid hz0
        have HROW3 := Lib.hid hrow
        by_cases hql : q < m
        · have hkz : k + q < ys.length := by rw [hzl]; omega
          have hcell := hrow.cell hkz
          have hfree := hrow.free (k + q)
          obtain ⟨by_, hya, hby, hcy⟩ := HY.out.at (k := q) (by rw [HM.out]; exact hql)
          have hcy2 : wr.cell? ⟨by_, q, none⟩ = some (.int .u32 (Ys.getD q 0 : Nat)) := by
            rw [HB2.out.cell (p := ⟨by_, q, none⟩) (by have := HGD.out; show by_ < _; omega)]; exact hcy
          subst hya
          have hbl := Pl.getD_ws HWY.out q
          have hzl2 := Pl.getD_ws HWS2.out (k + q)
          have HRND := Lib.hid (Pl.mul_round (ys := Ys) (zs := ys) (i := k) (k := q) (a := a) (c := cc) hkz hnm.out)
          obtain ⟨b, hb'⟩ : ∃ b, Ys.getD q 0 = b := ⟨_, rfl⟩
          rw [hb'] at hcy2 hbl HRND
          obtain ⟨z, hz⟩ : ∃ z, ys.getD (k + q) 0 = z := ⟨_, rfl⟩
          rw [hz] at hcell hzl2 HRND
          obtain ⟨hs1, hs2⟩ := Pl.mul_bound hal hbl hzl2 hcc
          have hab1 : a * b ≤ 4294967295 * 4294967295 := Nat.mul_le_mul (by omega) (by omega)
          obtain ⟨ab, hab⟩ : ∃ p, a * b = p := ⟨_, rfl⟩
          rw [hab] at hs1 hs2 hab1 HRND
          have habI : (a : Int) * (b : Int) = (ab : Int) := by rw [← hab]; simp
          have hwm : IntKind.u64.wrap (ab : Int) = (ab : Int) := by rw [IntKind.wrap_u64]; omega
          have hw1 : IntKind.u64.wrap ((ab : Int) + (z : Int)) = (ab : Int) + (z : Int) := by rw [IntKind.wrap_u64]; omega
          obtain ⟨s, hs⟩ : ∃ s, ab + z + cc = s := ⟨_, rfl⟩
          rw [hs] at hs1 hs2 HRND
          have hw2 : IntKind.u64.wrap ((ab : Int) + (z : Int) + (cc : Int)) = (s : Int) := by rw [IntKind.wrap_u64]; omega
          have hwa : IntKind.u64.wrap (a : Int) = (a : Int) := by rw [IntKind.wrap_u64]; omega
          have hwb : IntKind.u64.wrap (b : Int) = (b : Int) := by rw [IntKind.wrap_u64]; omega
          have hwz : IntKind.u64.wrap (z : Int) = (z : Int) := by rw [IntKind.wrap_u64]; omega
          obtain ⟨d, hd⟩ : ∃ d, s % 4294967296 = d := ⟨_, rfl⟩
          obtain ⟨c', hc'⟩ : ∃ c', s / 4294967296 = c' := ⟨_, rfl⟩
          rw [hd, hc'] at HRND
          rw [hc'] at hs2
          have hdI : (s : Int) % 4294967296 = (d : Int) := by omega
          have hcI : (s : Int) / 4294967296 = (c' : Int) := by omega
          have hdl : d < 4294967296 := by omega
          have hkqI : IntKind.i64.wrap ((k : Int) + (q : Int)) = ((k + q : Nat) : Int) := by rw [IntKind.wrap_i64]; omega
          have hkqI2 : (k : Int) + (q : Int) = ((k + q : Nat) : Int) := by omega
          have HROW4 := Lib.hid (HROW3.out.set (k + q) d)
          have HB3 := Lib.hid (HB2.out.setCell (p := ⟨g, k + q, none⟩) (Nat.le_refl g) (.int .u32 (d : Nat)))
          have hbnd : k + q < n + m := by omega
          obtain ⟨kq, hkq⟩ : ∃ p, k + q = p := ⟨_, rfl⟩
          rw [hkq] at hcell hfree hkqI hkqI2 HROW4 HB3 hbnd
          have HKQ := Lib.hid hkq
          clear hrow hzl hws hz0 hb hcy hby hkz hab hs hd hc' hb' hz hkq
          go_wp2_with fail
          go_roundw
          case rel =>
            exact ⟨q + 1, c', ys.set kq d, by omega, hs2, rfl, by go_num, HROW4.out, by rw [List.length_set]; exact HYL.out, HWS2.out.set kq hdl, fun j hj => by rw [Pl.getD_set_ne (by have := HKQ.out; omega)]; exact HYZ.out j hj, Lib.hid (by rw [← HKQ.out]; exact HRND.out), HB3.out⟩
          case measure => simp [RowKit.intOf]; omega
        · obtain rfl : q = m := by omega
          have hkz : k + q < ys.length := by rw [hzl]; omega
          have hcell := hrow.cell hkz
          have hfree := hrow.free (k + q)
          have hz0' := hz0 (k + q) (Nat.le_refl _)
          rw [hz0'] at hcell
          have hset := Pl.num_set ys (k + q) cc hkz
          rw [hz0', Nat.mul_zero, Nat.add_zero] at hset
          have HNN : Hid (Pl.num (ys.set (k + q) cc) = Pl.num (Xs.take (k + 1)) * Pl.num Ys) := Lib.hid (by
            have h2 := hnm.out
            rw [List.take_of_length_le (by rw [HM.out]; exact Nat.le_refl _), hnum.out] at h2
            rw [hset, h2, HTS.out, Nat.add_mul, Nat.mul_assoc])
          have hccI : (cc : Int) % 4294967296 = (cc : Int) := by omega
          have hkqI : IntKind.i64.wrap ((k : Int) + (q : Int)) = ((k + q : Nat) : Int) := by rw [IntKind.wrap_i64]; omega
          have hkqI2 : (k : Int) + (q : Int) = ((k + q : Nat) : Int) := by omega
          have HROW4 := Lib.hid (HROW3.out.set (k + q) cc)
          have HB3 := Lib.hid (HB2.out.setCell (p := ⟨g, k + q, none⟩) (Nat.le_refl g) (.int .u32 (cc : Nat)))
          have hbnd : k + q < n + q := by omega
          obtain ⟨kq, hkq⟩ : ∃ p, k + q = p := ⟨_, rfl⟩
          rw [hkq] at hcell hfree hkqI hkqI2 HROW4 HB3 hbnd HNN
          have HKQ := Lib.hid hkq
          clear hrow hzl hws hz0 hb hkz hset hz0' hkq
          go_wp2_with fail
          go_roundw
          case rel =>
            exact ⟨k + 1, ys.set kq cc, by omega, by go_num, HROW4.out, by rw [List.length_set]; exact HYL.out, HWS2.out.set kq hcc, fun j hj => by rw [Pl.getD_set_ne (by have := HKQ.out; omega)]; exact HYZ.out j (by omega), HNN, HB3.out⟩
          case measure => simp [RowKit.intOf]; omega
    · obtain rfl : k = n := by omega
      have hnv : Pl.num zs = V := by
        rw [hnum.out, List.take_of_length_le (by rw [HN.out]; exact Nat.le_refl _)]
        exact HV.out
      have HT := Lib.hid (trim_any _ _ wr (HROW2.out.rd (cap := k + m) (by rw [HZL.out]; exact Nat.le_refl _)) (by rw [HZL.out]; omega))
      have HTW := Lib.hid (Pl.trimW_wd HWS.out hnv)
      rw [HZL.out] at HT
      clear hrow hzl hws hz0 hb hnv
      go_wp2_with fail
      refine HT.out.mono ?_
      rintro e w3 ⟨v3, rfl, hr3, rfl⟩
      rw [HTW.out] at hr3
      have HR3 := Lib.hid hr3
      obtain ⟨ra, rc, rfl⟩ := hr3.form
      clear hr3
      go_wp2_with fail
      go_ret
      exact ⟨_, rfl, HR3.out, by rw [HGD.out]; exact HB.out⟩
end Go.Proofs.YtlodbibagmblkaaGreatDoor
namespace Go.Proofs.YtlodbibagmblkaaGreatDoor
namespace Kn
/-- what stands at a place: U by V, in words of base B; C is the base to the number of words left out -/
structure At (B C u0 u1 u2 ur v1 v2 vr U V : Nat) : Prop where
  c : 0 < C
  u : U = ((u0 * B + u1) * B + u2) * C + ur
  v : V = (v1 * B + v2) * C + vr
  ur : ur < C
  vr : vr < C
  b1 : u1 < B
  b2 : u2 < B
  b3 : v1 < B
  b4 : v2 < B
  half : B ≤ 2 * v1
  lt : U < V * B
theorem At.b {B C u0 u1 u2 ur v1 v2 vr U V : Nat} (h : At B C u0 u1 u2 ur v1 v2 vr U V) : 0 < B ∧ 0 < v1 ∧ 0 < V := by
  have h1 := h.b1
  have h2 := h.half
  refine ⟨by omega, by omega, ?_⟩
  rw [h.v]
  have : 0 < (v1 * B + v2) * C := Nat.mul_pos (Nat.add_pos_left (Nat.mul_pos (by omega) (by omega)) _) h.c
  omega
theorem At.u0 {B C u0 u1 u2 ur v1 v2 vr U V : Nat} (h : At B C u0 u1 u2 ur v1 v2 vr U V) : u0 ≤ v1 := by
  obtain ⟨hB, _, _⟩ := h.b
  have hC := h.c
  have hP : 0 < B * B * C := Nat.mul_pos (Nat.mul_pos hB hB) hC
  -- u0 B B C ≤ U < V B ≤ (v1 + 1) B C B
  have e1 : u0 * (B * B * C) ≤ U := by
    rw [h.u]
    have : u0 * (B * B * C) = u0 * B * B * C := by ac_rfl
    rw [this]
    have h1 : u0 * B * B * C ≤ ((u0 * B + u1) * B + u2) * C := Nat.mul_le_mul_right C (by rw [Nat.add_mul]; omega)
    omega
  have e2 : V < (v1 + 1) * (B * C) := by
    rw [h.v]
    have h4 := h.b4
    have h1 : (v1 * B + v2 + 1) * C ≤ (v1 + 1) * B * C := Nat.mul_le_mul_right C (by rw [Nat.add_mul, Nat.one_mul]; omega)
    have h2 : (v1 * B + v2 + 1) * C = (v1 * B + v2) * C + C := by rw [Nat.add_mul (v1 * B + v2), Nat.one_mul]
    have h3 := h.vr
    rw [← Nat.mul_assoc]
    omega
  have e3 : V * B < (v1 + 1) * (B * B * C) := by
    have := Nat.mul_lt_mul_of_pos_right e2 hB
    have e : (v1 + 1) * (B * C) * B = (v1 + 1) * (B * B * C) := by ac_rfl
    rw [e] at this
    exact this
  have := h.lt
  have : u0 * (B * B * C) < (v1 + 1) * (B * B * C) := by omega
  have := Nat.lt_of_mul_lt_mul_right this
  omega
theorem At.start {B C u0 u1 u2 ur v1 v2 vr U V : Nat} (h : At B C u0 u1 u2 ur v1 v2 vr U V) : U / V ≤ (u0 * B + u1) / v1 := by
  obtain ⟨hB, h1, hV⟩ := h.b
  have hC := h.c
  rw [Nat.le_div_iff_mul_le h1]
  have hBC : 0 < B * C := Nat.mul_pos hB hC
  apply Nat.le_of_lt_succ
  apply Nat.lt_of_mul_lt_mul_right (a := B * C)
  have e1 : U / V * v1 * (B * C) ≤ U / V * V := by
    rw [Nat.mul_assoc]
    apply Nat.mul_le_mul_left
    rw [h.v]
    have : v1 * (B * C) ≤ (v1 * B + v2) * C := by rw [← Nat.mul_assoc]; exact Nat.mul_le_mul_right C (by omega)
    omega
  have e2 := Nat.div_mul_le_self U V
  have e3 : U < (u0 * B + u1 + 1) * (B * C) := by
    rw [h.u]
    have h2 := h.b2
    have k1 : ((u0 * B + u1) * B + u2 + 1) * C ≤ (u0 * B + u1 + 1) * B * C := Nat.mul_le_mul_right C (by rw [Nat.add_mul (u0 * B + u1), Nat.one_mul]; omega)
    have k2 : ((u0 * B + u1) * B + u2 + 1) * C = ((u0 * B + u1) * B + u2) * C + C := by rw [Nat.add_mul ((u0 * B + u1) * B + u2), Nat.one_mul]
    have k3 := h.ur
    rw [← Nat.mul_assoc]
    omega
  show U / V * v1 * (B * C) < (u0 * B + u1 + 1) * (B * C)
  omega
theorem At.quo_lt {B C u0 u1 u2 ur v1 v2 vr U V : Nat} (h : At B C u0 u1 u2 ur v1 v2 vr U V) : U / V < B := by
  rw [Nat.div_lt_iff_lt_mul h.b.2.2, Nat.mul_comm]; exact h.lt
/-- a guess that is told too great is above the quotient -/
theorem At.down {B C u0 u1 u2 ur v1 v2 vr U V g r : Nat} (h : At B C u0 u1 u2 ur v1 v2 vr U V) (hg : g * v1 + r = u0 * B + u1) (ht : B ≤ g ∨ r * B + u2 < g * v2) : U / V ≤ g - 1 := by
  have hlt := h.quo_lt
  rcases ht with ht | ht
  · exact Nat.le_sub_one_of_lt (Nat.lt_of_lt_of_le hlt ht)
  · have key : U < g * V := by
      have e1 : (u0 * B + u1) * B + u2 + 1 ≤ g * (v1 * B + v2) := by
        rw [Nat.mul_add, ← Nat.mul_assoc, ← hg, Nat.add_mul (g * v1) r B]
        omega
      have e2 := Nat.mul_le_mul_right C e1
      have e3 : ((u0 * B + u1) * B + u2 + 1) * C = ((u0 * B + u1) * B + u2) * C + C := by rw [Nat.add_mul ((u0 * B + u1) * B + u2), Nat.one_mul]
      have e4 : g * (v1 * B + v2) * C ≤ g * V := by
        rw [Nat.mul_assoc]; apply Nat.mul_le_mul_left; rw [h.v]; omega
      have e5 := h.ur
      rw [h.u]
      omega
    have : U / V < g := by rw [Nat.div_lt_iff_lt_mul h.b.2.2]; exact key
    exact Nat.le_sub_one_of_lt this
/-- a guess that is not told too great is at most one above the quotient -/
theorem At.near {B C u0 u1 u2 ur v1 v2 vr U V g r : Nat} (h : At B C u0 u1 u2 ur v1 v2 vr U V) (hg : g * v1 + r = u0 * B + u1) (hB : g < B) (ht : g * v2 ≤ r * B + u2) : g ≤ U / V + 1 := by
  rcases Nat.eq_zero_or_pos g with h0 | h0
  · rw [h0]; exact Nat.zero_le _
  obtain ⟨k, rfl⟩ : ∃ k, g = k + 1 := ⟨g - 1, by omega⟩
  have h1 := h.b.2.1
  apply Nat.succ_le_succ
  rw [Nat.le_div_iff_mul_le h.b.2.2]
  have e1 : (k + 1) * (v1 * B + v2) ≤ (u0 * B + u1) * B + u2 := by
    rw [Nat.mul_add, ← Nat.mul_assoc, ← hg, Nat.add_mul ((k + 1) * v1) r B]
    omega
  have e2 : V ≤ (v1 * B + v2 + 1) * C := by
    rw [h.v, Nat.add_mul (v1 * B + v2), Nat.one_mul]
    have := h.vr
    omega
  have e3 : k * (v1 * B + v2 + 1) ≤ (k + 1) * (v1 * B + v2) := by
    rw [Nat.mul_add, Nat.mul_one, Nat.add_mul k 1, Nat.one_mul]
    have : B ≤ v1 * B := Nat.le_mul_of_pos_left B h1
    omega
  calc k * V ≤ k * ((v1 * B + v2 + 1) * C) := Nat.mul_le_mul_left k e2
    _ = k * (v1 * B + v2 + 1) * C := by rw [Nat.mul_assoc]
    _ ≤ ((u0 * B + u1) * B + u2) * C := Nat.mul_le_mul_right C (Nat.le_trans e3 e1)
    _ ≤ U := by rw [h.u]; omega
/-- where what is left has come to the base, the guess is in range and not too great -/
theorem At.broke {B C u0 u1 u2 ur v1 v2 vr U V g r : Nat} (h : At B C u0 u1 u2 ur v1 v2 vr U V) (hg : g * v1 + r = u0 * B + u1) (hr : B ≤ r) : g < B ∧ g * v2 ≤ r * B + u2 := by
  have h0 := h.u0
  have hb1 := h.b1
  have hb4 := h.b4
  have hgB : g < B := by
    apply Nat.lt_of_mul_lt_mul_right (a := v1)
    have : u0 * B ≤ v1 * B := Nat.mul_le_mul_right B h0
    have e : B * v1 = v1 * B := Nat.mul_comm _ _
    omega
  refine ⟨hgB, ?_⟩
  have e1 : g * v2 ≤ B * B := Nat.mul_le_mul (Nat.le_of_lt hgB) (Nat.le_of_lt hb4)
  have e2 : B * B ≤ r * B := Nat.mul_le_mul_right B hr
  omega
end Kn
end Go.Proofs.YtlodbibagmblkaaGreatDoor
namespace Go.Proofs.YtlodbibagmblkaaGreatDoor
namespace Pl
theorem take_set_same {ys : List Nat} {i d : Nat} : (ys.set i d).take i = ys.take i := List.take_set_of_le (Nat.le_refl i)
theorem getD_set_same {ys : List Nat} {i d : Nat} (h : i < ys.length) : (ys.set i d).getD i 0 = d := by
  rw [List.getD_eq_getElem?_getD, List.getElem?_set_self h]; rfl
/-- a word more of the multiple taken away -/
theorem take_round {us vs ys : List Nat} {i c b d lo c' b' g : Nat} (hi : i < ys.length) (h : num (ys.take i) + g * num (vs.take i) = num (us.take i) + 4294967296 ^ i * (c + b)) (hd : us.getD i 0 + 4294967296 * b' = d + lo + b) (hs : g * vs.getD i 0 + c = lo + 4294967296 * c') :
    num ((ys.set i d).take (i + 1)) + g * num (vs.take (i + 1)) = num (us.take (i + 1)) + 4294967296 ^ (i + 1) * (c' + b') := by
  rw [num_take_succ, num_take_succ, num_take_succ, take_set_same, getD_set_same hi, Nat.pow_succ]
  generalize us.getD i 0 = u at *
  generalize vs.getD i 0 = v at *
  have e1 : g * (num (vs.take i) + 4294967296 ^ i * v) = g * num (vs.take i) + 4294967296 ^ i * (g * v) := by
    rw [Nat.mul_add]; congr 1; ac_rfl
  have e2 : c + b + d + g * v = u + 4294967296 * (c' + b') := by omega
  have e3 : 4294967296 ^ i * (c + b) + 4294967296 ^ i * d + 4294967296 ^ i * (g * v) = 4294967296 ^ i * u + 4294967296 ^ i * (4294967296 * (c' + b')) := by
    rw [← Nat.mul_add, ← Nat.mul_add, ← Nat.mul_add, e2]
  rw [e1, Nat.mul_assoc]
  omega
/-- a word more of what is added back -/
theorem back_round {us vs ys : List Nat} {i k d k' : Nat} (hi : i < ys.length) (h : num (ys.take i) + 4294967296 ^ i * k = num (us.take i) + num (vs.take i)) (hd : us.getD i 0 + vs.getD i 0 + k = d + 4294967296 * k') :
    num ((ys.set i d).take (i + 1)) + 4294967296 ^ (i + 1) * k' = num (us.take (i + 1)) + num (vs.take (i + 1)) := by
  rw [num_take_succ, num_take_succ, num_take_succ, take_set_same, getD_set_same hi, Nat.pow_succ]
  generalize us.getD i 0 = u at *
  generalize vs.getD i 0 = v at *
  have e3 : 4294967296 ^ i * u + 4294967296 ^ i * v + 4294967296 ^ i * k = 4294967296 ^ i * d + 4294967296 ^ i * (4294967296 * k') := by
    rw [← Nat.mul_add, ← Nat.mul_add, ← Nat.mul_add, hd]
  rw [Nat.mul_assoc]
  omega
/-- where nothing was borrowed the guess was right -/
theorem took_right {P N U V g q b : Nat} (hV : 0 < V) (hN : N < P) (hU : U < P) (hb : b ≤ 1) (h : N + g * V = U + P * b) (h1 : U / V ≤ g) (h2 : g ≤ U / V + 1) (hq : U / V = q) : (b = 0 → g = q ∧ N = U % V) ∧ (b = 1 → g = q + 1 ∧ N + V = U % V + P) := by
  have hdm := Nat.div_add_mod U V
  rw [hq] at hdm h1 h2
  have hm := Nat.mod_lt U hV
  rw [Nat.mul_comm V q] at hdm
  have hg : g = q ∨ g = q + 1 := by omega
  constructor
  · intro e
    subst e
    rcases hg with rfl | rfl
    · exact ⟨rfl, by omega⟩
    · rw [Nat.add_mul, Nat.one_mul] at h
      omega
  · intro e
    subst e
    rcases hg with rfl | rfl
    · omega
    · rw [Nat.add_mul, Nat.one_mul] at h
      exact ⟨rfl, by omega⟩
/-- what was added back has come about once -/
theorem took_back {P F N U V k : Nat} (hV : U % V < P) (hF : F < P) (hk : k ≤ 1) (h : F + P * k = N + V) (hN : N + V = U % V + P) : F = U % V := by
  have : k = 0 ∨ k = 1 := by omega
  rcases this with rfl | rfl <;> omega
/-- the words at the top, one by one -/
theorem num_top3 (us : List Nat) (m : Nat) (h : us.length = m + 3) : num us = ((us.getD (m + 2) 0 * 4294967296 + us.getD (m + 1) 0) * 4294967296 + us.getD m 0) * 4294967296 ^ m + num (us.take m) := by
  have h1 := num_take_succ us m
  have h2 := num_take_succ us (m + 1)
  have h3 := num_take_succ us (m + 2)
  rw [List.take_of_length_le (by omega : us.length ≤ m + 2 + 1)] at h3
  rw [h3, h2, h1, Nat.pow_succ, Nat.pow_succ, Nat.pow_succ]
  generalize us.getD (m + 2) 0 = a
  generalize us.getD (m + 1) 0 = b
  generalize us.getD m 0 = c
  generalize num (us.take m) = r
  generalize 4294967296 ^ m = C
  rw [Nat.add_mul, Nat.add_mul, Nat.add_mul]
  have e1 : C * 4294967296 * 4294967296 * a = a * 4294967296 * 4294967296 * C := by ac_rfl
  have e2 : C * 4294967296 * b = b * 4294967296 * C := by ac_rfl
  have e3 : C * c = c * C := Nat.mul_comm _ _
  rw [e1, e2, e3]
  omega
theorem num_top2 (us : List Nat) (m : Nat) (h : us.length = m + 2) : num us = (us.getD (m + 1) 0 * 4294967296 + us.getD m 0) * 4294967296 ^ m + num (us.take m) := by
  have h1 := num_take_succ us m
  have h2 := num_take_succ us (m + 1)
  rw [List.take_of_length_le (by omega : us.length ≤ m + 1 + 1)] at h2
  rw [h2, h1, Nat.pow_succ]
  generalize us.getD (m + 1) 0 = b
  generalize us.getD m 0 = c
  generalize num (us.take m) = r
  generalize 4294967296 ^ m = C
  rw [Nat.add_mul]
  have e2 : C * 4294967296 * b = b * 4294967296 * C := by ac_rfl
  have e3 : C * c = c * C := Nat.mul_comm _ _
  rw [e2, e3]
  omega
/-- what stands at the place -/
theorem at_top {us vs : List Nat} {m : Nat} (hu : us.length = m + 3) (hv : vs.length = m + 2) (wu : Ws us) (wv : Ws vs) (half : 2147483648 ≤ vs.getD (m + 1) 0) (hlt : num us < num vs * 4294967296) :
    Kn.At 4294967296 (4294967296 ^ m) (us.getD (m + 2) 0) (us.getD (m + 1) 0) (us.getD m 0) (num (us.take m)) (vs.getD (m + 1) 0) (vs.getD m 0) (num (vs.take m)) (num us) (num vs) where
  c := Nat.pow_pos (by decide)
  u := num_top3 us m hu
  v := num_top2 vs m hv
  ur := by
    have := num_ws (wu.take m)
    rwa [List.length_take, Nat.min_eq_left (by omega)] at this
  vr := by
    have := num_ws (wv.take m)
    rwa [List.length_take, Nat.min_eq_left (by omega)] at this
  b1 := getD_ws wu _
  b2 := getD_ws wu _
  b3 := getD_ws wv _
  b4 := getD_ws wv _
  half := by omega
  lt := hlt
end Pl
end Go.Proofs.YtlodbibagmblkaaGreatDoor
namespace Go.Proofs.YtlodbibagmblkaaGreatDoor
open Go.RowKit Go.Lib
namespace Pl
theorem getD_mid {pre us post : List Nat} {p i : Nat} (hp : pre.length = p) (hi : i < us.length) : (pre ++ (us ++ post)).getD (p + i) 0 = us.getD i 0 := by
  subst hp
  rw [List.getD_eq_getElem?_getD, List.getD_eq_getElem?_getD, List.getElem?_append_right (by omega), show pre.length + i - pre.length = i by omega, List.getElem?_append_left hi]
theorem set_mid {pre us post : List Nat} {p i d : Nat} (hp : pre.length = p) (hi : i < us.length) : (pre ++ (us ++ post)).set (p + i) d = pre ++ (us.set i d ++ post) := by
  subst hp
  rw [List.set_append_right _ _ (by omega), show pre.length + i - pre.length = i by omega, List.set_append_left _ _ hi]
end Pl
theorem or_hiN (u : Nat) {v : Nat} (hv : v < 4294967296) : u * 4294967296 ||| v = u * 4294967296 + v := by
  have h := Nat.two_pow_add_eq_or_of_lt (i := 32) (b := v) hv u
  rw [Nat.mul_comm (2 ^ 32) u] at h
  exact h.symm
theorem or64 {a b : Nat} (ha : a < 18446744073709551616) (hb : b < 18446744073709551616) (hab : a ||| b < 18446744073709551616) : bits .or .u64 (a : Int) (b : Int) = ((a ||| b : Nat) : Int) := by
  have h64 : (2 : Nat) ^ IntKind.u64.bits = 18446744073709551616 := rfl
  have hw : ∀ n : Nat, n < 18446744073709551616 → IntKind.u64.wrap (n : Int) = n := fun n hn => by rw [IntKind.wrap_u64]; omega
  simp only [bits, BitVec.ofInt_natCast, BitVec.toNat_or, BitVec.toNat_ofNat, h64]
  rw [Nat.mod_eq_of_lt ha, Nat.mod_eq_of_lt hb, hw _ hab]
theorem or64_hi {u v : Nat} (hu : u < 4294967296) (hv : v < 4294967296) : bits .or .u64 ((u : Int) * 4294967296) (v : Int) = ((u * 4294967296 + v : Nat) : Int) := by
  have e1 : (u : Int) * 4294967296 = ((u * 4294967296 : Nat) : Int) := by rw [Int.natCast_mul]; rfl
  rw [e1, or64 (by omega) (by omega) (by rw [or_hiN u hv]; omega), or_hiN u hv]
/-- a row of words, parted in three -/
structure Mid (w : World) (g : Nat) (pre us post : List Nat) (p n N : Nat) : Prop where
  row : Wrow w g (pre ++ (us ++ post))
  hp : pre.length = p
  hn : us.length = n
  hN : p + n + post.length = N
  ws : Pl.Ws us
theorem Mid.cell {w : World} {g : Nat} {pre us post : List Nat} {p n N : Nat} (h : Mid w g pre us post p n N) {i : Nat} (hi : i < n) : w.cell? ⟨g, p + i, none⟩ = some (.int .u32 (us.getD i 0 : Nat)) := by
  have h1 := h.row.cell (k := p + i) (by rw [List.length_append, List.length_append, h.hp, h.hn]; omega)
  rwa [Pl.getD_mid h.hp (by rw [h.hn]; exact hi)] at h1
theorem Mid.set {w : World} {g : Nat} {pre us post : List Nat} {p n N : Nat} (h : Mid w g pre us post p n N) {i d : Nat} (hi : i < n) (hd : d < 4294967296) : Mid (w.setCell ⟨g, p + i, none⟩ (.int .u32 (d : Nat))) g pre (us.set i d) post p n N := by
  have h1 := h.row.set (p + i) d
  rw [Pl.set_mid h.hp (by rw [h.hn]; exact hi)] at h1
  exact ⟨h1, h.hp, by rw [List.length_set]; exact h.hn, h.hN, h.ws.set i hd⟩
theorem Mid.drew {w : World} {g : Nat} {pre us post : List Nat} {p n N : Nat} (h : Mid w g pre us post p n N) : Mid w.drew g pre us post p n N := ⟨h.row, h.hp, h.hn, h.hN, h.ws⟩
/-- only the block g turns -/
structure Onl (g : Nat) (w w' : World) : Prop where
  low : Below g w w'
  rest : ∀ k, k ≠ g → w'.heap[k]? = w.heap[k]?
theorem Onl.refl (g : Nat) (w : World) : Onl g w w := ⟨Below.refl _ _, fun _ _ => rfl⟩
theorem Onl.drew {g : Nat} {a w : World} (h : Onl g a w) : Onl g a w.drew := ⟨h.low.drew, h.rest⟩
theorem Onl.setCell {g : Nat} {a w : World} (h : Onl g a w) {p : Addr} (hp : p.block = g) (u : Value) : Onl g a (w.setCell p u) :=
  ⟨h.low.setCell (by omega) u, fun k hk => by rw [← h.rest k hk]; simp only [World.setCell, Array.getElem?_modify]; rw [if_neg (by omega)]⟩
theorem Onl.cell {g : Nat} {w w' : World} (h : Onl g w w') {p : Addr} (hp : p.block < g) : w'.cell? p = w.cell? p := h.low.cell hp
end Go.Proofs.YtlodbibagmblkaaGreatDoor
