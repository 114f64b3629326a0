/- tree's node, part, value at a literal. tree.caught's deferred closure. tree.CheckNode at a literal: the closure that looks. tree.caught, tree.CheckNode at a literal. -/
import Derived.Test.YtoklnpoacckbfaaGreatDoorKaav
import Derived.Deep.CutRange
import Derived.Defers
import Derived.Recover
namespace Go.Proofs.YtoklnpoacckbfaaGreatDoor
open Go.RowKit
theorem Only.then {P : Nat} {w w1 w2 : World} (h : Only P w w1) (hb : Below w.heap.size w1 w2) (hP : P < w.heap.size) : Only P w w2 :=
  ⟨h.low.trans (hb.mono (by omega)), fun k hk hne => (hb.block k hk).trans (h.rest k hk hne)⟩
theorem LitEnd.after {P : Nat} {x : Pl.Lit} {i m d : Bool} {w w1 w2 : World} {e : Ending} (h : LitEnd P x i m d w1 e w2) (hb : Below w.heap.size w w1) (hP : P < w.heap.size) : LitEnd P x i m d w e w2 :=
  ⟨h.1, (Only.of_below hb hP).trans h.2⟩
set_option maxRecDepth 100000 in
set_option maxHeartbeats 2000000 in
theorem tsuper_any (x : Pl.Lit) (v : Value) (w : World) : Calls Tryz.prog 132 #[nodeV x v] w fun e w' => e = .returned (.bool false) ∧ Below w.heap.size w w' := by
  unfold nodeV
  go_enter Tryz.func132, Tryz.ntmps132
  go_wp2_with fail
  go_ret
  exact ⟨rfl, (Below.refl _ _).alloc (Nat.le_refl _) _⟩
set_option maxRecDepth 100000 in
set_option maxHeartbeats 2000000 in
theorem tlevel_any (x : Pl.Lit) (v : Value) (w : World) : Calls Tryz.prog 183 #[nodeV x v] w fun e w' => e = .returned (.int .i64 6) ∧ Below w.heap.size w w' := by
  unfold nodeV
  go_enter Tryz.func183, Tryz.ntmps183
  go_wp2_with fail
  go_ret
  exact ⟨rfl, (Below.refl _ _).alloc (Nat.le_refl _) _⟩
set_option maxRecDepth 100000 in
set_option maxHeartbeats 1000000 in
theorem tnode_any {B : Nat} {w0 : World} {x : Pl.Lit} {v : Value} (h : LitsAt B w0 x.items v) (m d : Bool) (P : Nat) (w : World) (hxw : Pl.LitW x) (hbel : Below B w0 w) (hBP : B ≤ P) (hL : LookAt w P m d) (he : ErrAt w) (hEB : 9 < B) (hdp : Pl.litDeep x ≤ 262144) :
    Calls Tryz.prog 182 #[.pointer (some ⟨P, 0, none⟩), nodeV x v] w (LitEnd P x false m d w) := by
  have hlt := hL.lt
  have HB := Lib.hid hbel
  have TL := Lib.hid (fun (W : World) (hb : Below w.heap.size w W) => tlit_any h x false m d P W rfl hxw (hbel.trans (hb.mono (by omega))) hBP (hL.keep hb hlt) (he.keep hb he.1) hEB hdp)
  obtain ⟨A, cap, V, rfl, _⟩ := h.out
  unfold litV at TL
  unfold nodeV
  clear hbel hL he
  go_enter Tryz.func182, Tryz.ntmps182
  go_wp2_with fail
  refine (must_true _).mono ?_
  rintro e w2 ⟨rfl, rfl⟩
  obtain ⟨W1, hW1⟩ : ∃ W1, (w.alloc (.cells #[.int .u8 1, .string ⟨#[]⟩, .int .u8 x.kind, .int .i64 x.n, .int .u64 x.bits, .string x.text, .slice A x.items.length cap, .slice none 0 0, .slice none 0 0, .slice none 0 0, .int .i64 0] 110)).alloc (.cells #[.int .u8 1, .string ⟨#[]⟩, .int .u8 x.kind, .int .i64 x.n, .int .u64 x.bits, .string x.text, .slice A x.items.length cap, .slice none 0 0, .slice none 0 0, .slice none 0 0, .int .i64 0] 110) = W1 := ⟨_, rfl⟩
  have HB1 := Lib.hid (show Below w.heap.size w ((w.alloc (.cells #[.int .u8 1, .string ⟨#[]⟩, .int .u8 x.kind, .int .i64 x.n, .int .u64 x.bits, .string x.text, .slice A x.items.length cap, .slice none 0 0, .slice none 0 0, .slice none 0 0, .int .i64 0] 110)).alloc (.cells #[.int .u8 1, .string ⟨#[]⟩, .int .u8 x.kind, .int .i64 x.n, .int .u64 x.bits, .string x.text, .slice A x.items.length cap, .slice none 0 0, .slice none 0 0, .slice none 0 0, .int .i64 0] 110)) from ((Below.refl _ _).alloc (Nat.le_refl _) _).alloc (by simp) _)
  have q0 : W1.cell? ⟨w.heap.size, 0, none⟩ = some (.int .u8 1) := by rw [← hW1]; simp [go_sem]
  have q1 : W1.cell? ⟨w.heap.size, 1, none⟩ = some (.string ⟨#[]⟩) := by rw [← hW1]; simp [go_sem]
  have q2 : W1.cell? ⟨w.heap.size, 2, none⟩ = some (.int .u8 x.kind) := by rw [← hW1]; simp [go_sem]
  have q3 : W1.cell? ⟨w.heap.size, 3, none⟩ = some (.int .i64 x.n) := by rw [← hW1]; simp [go_sem]
  have q4 : W1.cell? ⟨w.heap.size, 4, none⟩ = some (.int .u64 x.bits) := by rw [← hW1]; simp [go_sem]
  have q5 : W1.cell? ⟨w.heap.size, 5, none⟩ = some (.string x.text) := by rw [← hW1]; simp [go_sem]
  have q6 : W1.cell? ⟨w.heap.size, 6, none⟩ = some (.slice A x.items.length cap) := by rw [← hW1]; simp [go_sem]
  have q7 : W1.cell? ⟨w.heap.size, 7, none⟩ = some (.slice none 0 0) := by rw [← hW1]; simp [go_sem]
  have q8 : W1.cell? ⟨w.heap.size, 8, none⟩ = some (.slice none 0 0) := by rw [← hW1]; simp [go_sem]
  have q9 : W1.cell? ⟨w.heap.size, 9, none⟩ = some (.slice none 0 0) := by rw [← hW1]; simp [go_sem]
  have q10 : W1.cell? ⟨w.heap.size, 10, none⟩ = some (.int .i64 0) := by rw [← hW1]; simp [go_sem]
  have r0 : W1.cell? ⟨w.heap.size + 1, 0, none⟩ = some (.int .u8 1) := by rw [← hW1]; simp [go_sem]
  have r1 : W1.cell? ⟨w.heap.size + 1, 1, none⟩ = some (.string ⟨#[]⟩) := by rw [← hW1]; simp [go_sem]
  have r2 : W1.cell? ⟨w.heap.size + 1, 2, none⟩ = some (.int .u8 x.kind) := by rw [← hW1]; simp [go_sem]
  have r3 : W1.cell? ⟨w.heap.size + 1, 3, none⟩ = some (.int .i64 x.n) := by rw [← hW1]; simp [go_sem]
  have r4 : W1.cell? ⟨w.heap.size + 1, 4, none⟩ = some (.int .u64 x.bits) := by rw [← hW1]; simp [go_sem]
  have r5 : W1.cell? ⟨w.heap.size + 1, 5, none⟩ = some (.string x.text) := by rw [← hW1]; simp [go_sem]
  have r6 : W1.cell? ⟨w.heap.size + 1, 6, none⟩ = some (.slice A x.items.length cap) := by rw [← hW1]; simp [go_sem]
  have r7 : W1.cell? ⟨w.heap.size + 1, 7, none⟩ = some (.slice none 0 0) := by rw [← hW1]; simp [go_sem]
  have r8 : W1.cell? ⟨w.heap.size + 1, 8, none⟩ = some (.slice none 0 0) := by rw [← hW1]; simp [go_sem]
  have r9 : W1.cell? ⟨w.heap.size + 1, 9, none⟩ = some (.slice none 0 0) := by rw [← hW1]; simp [go_sem]
  have r10 : W1.cell? ⟨w.heap.size + 1, 10, none⟩ = some (.int .i64 0) := by rw [← hW1]; simp [go_sem]
  have fr : ∀ j, W1.frozen? ⟨w.heap.size + 1, j, none⟩ = false := fun j => by rw [← hW1]; simp [go_sem]
  have hz1 : W1.heap.size = w.heap.size + 2 := by rw [← hW1]; simp
  have FR := Lib.hid fr
  clear fr
  rw [hW1] at HB1 ⊢
  clear hW1
  go_wp2_with fail
  refine (TL.out _ HB1.out).mono ?_
  rintro e w3 ⟨(⟨hok, rfl, hl3⟩ | ⟨hok, rfl⟩), ho3⟩
  · have HOK3 := Lib.hid hok
    have HL3 := Lib.hid hl3
    have HO3 := Lib.hid (show Only P w w3 from (Only.of_below HB1.out hlt).trans ho3)
    have hz3 := ho3.low.size
    have s0 : w3.cell? ⟨w.heap.size + 1, 0, none⟩ = some (.int .u8 1) := (ho3.cell (by omega) (by omega)).trans r0
    have s1 : w3.cell? ⟨w.heap.size + 1, 1, none⟩ = some (.string ⟨#[]⟩) := (ho3.cell (by omega) (by omega)).trans r1
    have s2 : w3.cell? ⟨w.heap.size + 1, 2, none⟩ = some (.int .u8 x.kind) := (ho3.cell (by omega) (by omega)).trans r2
    have s3 : w3.cell? ⟨w.heap.size + 1, 3, none⟩ = some (.int .i64 x.n) := (ho3.cell (by omega) (by omega)).trans r3
    have s4 : w3.cell? ⟨w.heap.size + 1, 4, none⟩ = some (.int .u64 x.bits) := (ho3.cell (by omega) (by omega)).trans r4
    have s5 : w3.cell? ⟨w.heap.size + 1, 5, none⟩ = some (.string x.text) := (ho3.cell (by omega) (by omega)).trans r5
    have s6 : w3.cell? ⟨w.heap.size + 1, 6, none⟩ = some (.slice A x.items.length cap) := (ho3.cell (by omega) (by omega)).trans r6
    have s7 : w3.cell? ⟨w.heap.size + 1, 7, none⟩ = some (.slice none 0 0) := (ho3.cell (by omega) (by omega)).trans r7
    have s8 : w3.cell? ⟨w.heap.size + 1, 8, none⟩ = some (.slice none 0 0) := (ho3.cell (by omega) (by omega)).trans r8
    have s9 : w3.cell? ⟨w.heap.size + 1, 9, none⟩ = some (.slice none 0 0) := (ho3.cell (by omega) (by omega)).trans r9
    have s10 : w3.cell? ⟨w.heap.size + 1, 10, none⟩ = some (.int .i64 0) := (ho3.cell (by omega) (by omega)).trans r10
    have f2 : w3.frozen? ⟨w.heap.size + 1, 2, none⟩ = false := (ho3.frozen (by omega) (by omega)).trans (FR.out 2)
    have f3 : w3.frozen? ⟨w.heap.size + 1, 3, none⟩ = false := (ho3.frozen (by omega) (by omega)).trans (FR.out 3)
    have f4 : w3.frozen? ⟨w.heap.size + 1, 4, none⟩ = false := (ho3.frozen (by omega) (by omega)).trans (FR.out 4)
    have f5 : w3.frozen? ⟨w.heap.size + 1, 5, none⟩ = false := (ho3.frozen (by omega) (by omega)).trans (FR.out 5)
    have f6 : w3.frozen? ⟨w.heap.size + 1, 6, none⟩ = false := (ho3.frozen (by omega) (by omega)).trans (FR.out 6)
    clear hok hl3 ho3 q0 r0 q1 r1 q2 r2 q3 r3 q4 r4 q5 r5 q6 r6 q7 r7 q8 r8 q9 r9 q10 r10
    go_upto_region 51 with (fail)
    have hlt3 : w.heap.size + 1 < w3.heap.size := by omega
    obtain ⟨W4, hW4⟩ : ∃ W4, ((((w3.setCell ⟨w.heap.size + 1, 2, none⟩ (.int .u8 0)).setCell ⟨w.heap.size + 1, 3, none⟩ (.int .i64 0)).setCell ⟨w.heap.size + 1, 4, none⟩ (.int .u64 0)).setCell ⟨w.heap.size + 1, 5, none⟩ (.string ⟨#[]⟩)).setCell ⟨w.heap.size + 1, 6, none⟩ (.slice none 0 0) = W4 := ⟨_, rfl⟩
    have t1 : W4.cell? ⟨w.heap.size + 1, 1, none⟩ = some (.string ⟨#[]⟩) := by rw [← hW4]; simp [go_sem, s1]
    have t2 : W4.cell? ⟨w.heap.size + 1, 2, none⟩ = some (.int .u8 0) := by rw [← hW4]; simp [go_sem, s2]
    have t3 : W4.cell? ⟨w.heap.size + 1, 3, none⟩ = some (.int .i64 0) := by rw [← hW4]; simp [go_sem, s3]
    have t4 : W4.cell? ⟨w.heap.size + 1, 4, none⟩ = some (.int .u64 0) := by rw [← hW4]; simp [go_sem, s4]
    have t5 : W4.cell? ⟨w.heap.size + 1, 5, none⟩ = some (.string ⟨#[]⟩) := by rw [← hW4]; simp [go_sem, s5]
    have t6 : W4.cell? ⟨w.heap.size + 1, 6, none⟩ = some (.slice none 0 0) := by rw [← hW4]; simp [go_sem, s6]
    have t7 : W4.cell? ⟨w.heap.size + 1, 7, none⟩ = some (.slice none 0 0) := by rw [← hW4]; simp [go_sem, s7]
    have t8 : W4.cell? ⟨w.heap.size + 1, 8, none⟩ = some (.slice none 0 0) := by rw [← hW4]; simp [go_sem, s8]
    have hz4 : W4.heap.size = w3.heap.size := by rw [← hW4]; simp
    have HB4 := Lib.hid (show Below (w.heap.size + 1) w3 W4 by rw [← hW4]; exact (((((Below.refl _ w3).setCell (p := ⟨w.heap.size + 1, 2, none⟩) (Nat.le_refl _) _).setCell (p := ⟨w.heap.size + 1, 3, none⟩) (Nat.le_refl _) _).setCell (p := ⟨w.heap.size + 1, 4, none⟩) (Nat.le_refl _) _).setCell (p := ⟨w.heap.size + 1, 5, none⟩) (Nat.le_refl _) _).setCell (p := ⟨w.heap.size + 1, 6, none⟩) (Nat.le_refl _) _)
    rw [hW4]
    clear hW4 s0 s1 s2 s3 s4 s5 s6 s7 s8 s9 s10 f2 f3 f4 f5 f6
    have hlt4 : w.heap.size + 1 < W4.heap.size := by omega
    go_wp2_with fail
    refine (must_true _).mono ?_
    rintro e w' ⟨rfl, rfl⟩
    go_wp2_with fail
    go_ret
    have hb4 : Below w.heap.size w3 W4 := HB4.out.mono (by omega)
    refine ⟨.inl ⟨HOK3.out, rfl, ?_⟩, (HO3.out.then hb4 hlt).then ((Below.refl _ _).alloc (by omega) _) hlt⟩
    exact (HL3.out.keep hb4 hlt).keep ((Below.refl W4.heap.size _).alloc (Nat.le_refl _) _) (by omega)
  · have HOK3 := Lib.hid hok
    have HO3 := Lib.hid (show Only P w w3 from (Only.of_below HB1.out hlt).trans ho3)
    clear hok ho3
    go_wp2_with fail
    exact ⟨rfl, .inr ⟨HOK3.out, rfl⟩, HO3.out⟩
set_option maxRecDepth 100000 in
set_option maxHeartbeats 1000000 in
theorem tpart_any {B : Nat} {w0 : World} {x : Pl.Lit} {v : Value} (h : LitsAt B w0 x.items v) (m d : Bool) (P : Nat) (w : World) (hxw : Pl.LitW x) (hbel : Below B w0 w) (hBP : B ≤ P) (hL : LookAt w P m d) (he : ErrAt w) (hEB : 9 < B) (hdp : Pl.litDeep x ≤ 262144) :
    Calls Tryz.prog 133 #[.pointer (some ⟨P, 0, none⟩), nodeV x v, .int .i64 0] w (LitEnd P x false m d w) := by
  have hlt := hL.lt
  have TN := Lib.hid (fun (W : World) (hb : Below w.heap.size w W) => tnode_any h m d P W hxw (hbel.trans (hb.mono (by omega))) hBP (hL.keep hb hlt) (he.keep hb he.1) hEB hdp)
  have TV := Lib.hid (fun W => tlevel_any x v W)
  obtain ⟨A, cap, V, rfl, _⟩ := h.out
  unfold nodeV at TN TV ⊢
  clear hbel hL he
  go_enter Tryz.func133, Tryz.ntmps133
  go_wp2_with fail
  refine (must_true _).mono ?_
  rintro e w2 ⟨rfl, rfl⟩
  go_wp2_with fail
  refine (TN.out _ ((Below.refl _ _).alloc (Nat.le_refl _) _)).mono ?_
  rintro e w3 hend
  have hend' := hend.after (w := w) ((Below.refl _ _).alloc (Nat.le_refl _) _) hlt
  have hpl : ∀ (j : Nat) (u : Value), #[Value.int .u8 1, Value.string ⟨#[]⟩, Value.int .u8 x.kind, Value.int .i64 x.n, Value.int .u64 x.bits, Value.string x.text, Value.slice A x.items.length cap, Value.slice none 0 0, Value.slice none 0 0, Value.slice none 0 0, Value.int .i64 0][j]? = some u → w3.cell? ⟨w.heap.size, j, none⟩ = some u := fun j u hj => (hend.2.cell (by simp) (by omega)).trans (by simp [go_sem, hj])
  have HEND := Lib.hid hend'
  rcases hend.1 with ⟨hok, rfl, hl3⟩ | ⟨hok, rfl⟩
  · clear hend hend' hok hl3
    have c0 := hpl 0 _ rfl
    have c1 := hpl 1 _ rfl
    have c2 := hpl 2 _ rfl
    have c3 := hpl 3 _ rfl
    have c4 := hpl 4 _ rfl
    have c5 := hpl 5 _ rfl
    have c6 := hpl 6 _ rfl
    have c7 := hpl 7 _ rfl
    have c8 := hpl 8 _ rfl
    have c9 := hpl 9 _ rfl
    have c10 := hpl 10 _ rfl
    clear hpl
    go_wp2_with fail
    refine (TV.out _).mono ?_
    rintro e w4 ⟨rfl, hb4⟩
    have HB4 := Lib.hid hb4
    clear hb4
    go_wp2_with fail
    go_ret
    obtain ⟨⟨hok, _, hl⟩ | ⟨_, hx⟩, ho⟩ := HEND.out
    · have hs3 := ho.low.size
      exact ⟨.inl ⟨hok, rfl, hl.keep HB4.out (by have := hl.lt; omega)⟩, ho.then (HB4.out.mono hs3) hlt⟩
    · cases hx
  · clear hend hend' hpl
    go_wp2_with fail
    exact ⟨rfl, HEND.out⟩
set_option maxRecDepth 100000 in
set_option maxHeartbeats 1000000 in
theorem tvalue_any {B : Nat} {w0 : World} {x : Pl.Lit} {v : Value} (h : LitsAt B w0 x.items v) (m d : Bool) (P : Nat) (w : World) (hxw : Pl.LitW x) (hbel : Below B w0 w) (hBP : B ≤ P) (hL : LookAt w P m d) (he : ErrAt w) (hEB : 9 < B) (hdp : Pl.litDeep x ≤ 262144) :
    Calls Tryz.prog 91 #[.pointer (some ⟨P, 0, none⟩), nodeV x v, .int .i64 0] w (LitEnd P x false m d w) := by
  have hlt := hL.lt
  have TP := Lib.hid (fun (W : World) (hb : Below w.heap.size w W) => tpart_any h m d P W hxw (hbel.trans (hb.mono (by omega))) hBP (hL.keep hb hlt) (he.keep hb he.1) hEB hdp)
  have TS := Lib.hid (fun W => tsuper_any x v W)
  obtain ⟨A, cap, V, rfl, _⟩ := h.out
  unfold nodeV at TP TS ⊢
  clear hbel hL he
  go_enter Tryz.func91, Tryz.ntmps91
  go_wp2_with fail
  refine (TS.out _).mono ?_
  rintro e w2 ⟨rfl, hb2⟩
  have c0 : w2.cell? ⟨w.heap.size, 0, none⟩ = some (.int .u8 1) := boxCells (hb2.mono (by simp)) rfl
  have c1 : w2.cell? ⟨w.heap.size, 1, none⟩ = some (.string ⟨#[]⟩) := boxCells (hb2.mono (by simp)) rfl
  have c2 : w2.cell? ⟨w.heap.size, 2, none⟩ = some (.int .u8 x.kind) := boxCells (hb2.mono (by simp)) rfl
  have c3 : w2.cell? ⟨w.heap.size, 3, none⟩ = some (.int .i64 x.n) := boxCells (hb2.mono (by simp)) rfl
  have c4 : w2.cell? ⟨w.heap.size, 4, none⟩ = some (.int .u64 x.bits) := boxCells (hb2.mono (by simp)) rfl
  have c5 : w2.cell? ⟨w.heap.size, 5, none⟩ = some (.string x.text) := boxCells (hb2.mono (by simp)) rfl
  have c6 : w2.cell? ⟨w.heap.size, 6, none⟩ = some (.slice A x.items.length cap) := boxCells (hb2.mono (by simp)) rfl
  have c7 : w2.cell? ⟨w.heap.size, 7, none⟩ = some (.slice none 0 0) := boxCells (hb2.mono (by simp)) rfl
  have c8 : w2.cell? ⟨w.heap.size, 8, none⟩ = some (.slice none 0 0) := boxCells (hb2.mono (by simp)) rfl
  have c9 : w2.cell? ⟨w.heap.size, 9, none⟩ = some (.slice none 0 0) := boxCells (hb2.mono (by simp)) rfl
  have c10 : w2.cell? ⟨w.heap.size, 10, none⟩ = some (.int .i64 0) := boxCells (hb2.mono (by simp)) rfl
  have HB2 := Lib.hid (alloc_then (hb2.mono (by simp)))
  clear hb2
  go_wp2_with fail
  refine (must_true _).mono ?_
  rintro e w3 ⟨rfl, rfl⟩
  go_wp2_with fail
  refine (TP.out _ HB2.out).mono ?_
  rintro e w3 hend
  have hend' := hend.after HB2.out hlt
  have HEND := Lib.hid hend'
  rcases hend.1 with ⟨hok, rfl, hl3⟩ | ⟨hok, rfl⟩
  · clear hend hend' hok hl3
    go_wp2_with fail
    go_ret
    exact HEND.out
  · clear hend hend'
    go_wp2_with fail
    exact ⟨rfl, HEND.out⟩
end Go.Proofs.YtoklnpoacckbfaaGreatDoor
namespace Go.Proofs.YtoklnpoacckbfaaGreatDoor
open Go.RowKit
theorem assert_wrong (v : Value) (w : World) : (Instr.typeAssert (.iface 180 v) 20 180 true).run Tryz.prog w = .ok (.tuple #[v, .bool true]) w := by
  have hu := Tryz.underlying180
  unfold Instr.typeAssert
  simp only [Sem.run_bind, run_underlying hu, Result.andThen_ok, if_true, Sem.run_pure]
theorem assert_nil (w : World) : (Instr.typeAssert .nilIface 20 180 true).run Tryz.prog w = .ok (.tuple #[.agg #[.int .i64 0], .bool false]) w := by
  have hu := Tryz.underlying180
  have hz := Tryz.zeroValue180
  unfold Instr.typeAssert
  simp only [Sem.run_bind, run_underlying hu, Result.andThen_ok, if_true, Sem.run_pure, hz]
set_option maxRecDepth 100000 in
set_option maxHeartbeats 1000000 in
theorem caught_panicking (E : Nat) (x : Int) (w : World) (hc : w.cell? ⟨E, 0, none⟩ = some (.int .i64 x)) (hz : w.frozen? ⟨E, 0, none⟩ = false) (hE : E < w.heap.size) :
    CallsD Tryz.prog 130 #[.pointer (some ⟨E, 0, none⟩)] (.panicking wrong) w fun e u' w' =>
      e = .returned (.tuple #[]) ∧ u' = .panicking [{ v := .iface 180 (.agg #[.int .i64 150]), recovered := true }] ∧ w'.cell? ⟨E, 0, none⟩ = some (.int .i64 150) ∧ Only E w w' := by
  refine callsD_of_wpS Tryz.func130 rfl fun c₀ cs hu => ?_
  unfold wrong at hu
  apply wpS_seq
  apply wpS_region
  have hta := assert_wrong (.agg #[.int .i64 150])
  simp only [Tryz.ntmps130, List.size_toArray, List.length_cons, List.length_nil, Nat.reduceAdd, Nat.reduceSub, Array.replicate_succ, Array.replicate_zero, List.push_toArray, List.append_toArray, List.nil_append, List.cons_append]
  simp [wpOpsS, go_sem, recoverD, hu, Exit.thenS, hta]
  apply wpS_seq
  apply wpS_region
  simp [wpOpsS, go_sem, Exit.thenS]
  refine wpS_cond (t := true) (by simp [Act.eval]) ?_
  simp only [if_true]
  apply wpS_region
  simp [wpOpsS, go_sem, hc, hz, hE, bodyPostS, results, Tryz.results130]
  exact (Only.set w E _).trans (Only.of_below ((Below.refl _ _).alloc (Nat.le_refl _) _) (by simpa using hE))
set_option maxRecDepth 100000 in
set_option maxHeartbeats 1000000 in
theorem caught_idle (E : Nat) (w : World) :
    CallsD Tryz.prog 130 #[.pointer (some ⟨E, 0, none⟩)] .returning w fun e u' w' => e = .returned (.tuple #[]) ∧ u' = .returning ∧ Below w.heap.size w w' := by
  refine callsD_of_wpS Tryz.func130 rfl fun c₀ cs hu => ?_
  apply wpS_seq
  apply wpS_region
  have hta := assert_nil
  simp only [Tryz.ntmps130, List.size_toArray, List.length_cons, List.length_nil, Nat.reduceAdd, Nat.reduceSub, Array.replicate_succ, Array.replicate_zero, List.push_toArray, List.append_toArray, List.nil_append, List.cons_append]
  simp [wpOpsS, go_sem, recoverD, hu, Exit.thenS, hta]
  apply wpS_seq
  apply wpS_region
  simp [wpOpsS, go_sem, Exit.thenS]
  refine wpS_cond (t := false) (by simp [Act.eval]) ?_
  simp only [Bool.false_eq_true, if_false]
  refine wpS_of_wp (wp_skip ?_)
  have hb : Below w.heap.size w (w.alloc (.cells #[.int .i64 0] 180)) := (Below.refl _ _).alloc (Nat.le_refl _) _
  cases c₀
  simp_all [bodyPostS, results, Tryz.results130]
end Go.Proofs.YtoklnpoacckbfaaGreatDoor
namespace Go.Proofs.YtoklnpoacckbfaaGreatDoor
open Go.RowKit
/-- a literal as an expression, as it lies in memory -/
def NodeAt (w : World) (N : Nat) (x : Pl.Lit) (v : Value) : Prop := ∀ (j : Nat) (u : Value), #[Value.int .u8 1, Value.string ⟨#[]⟩, Value.int .u8 x.kind, Value.int .i64 x.n, Value.int .u64 x.bits, Value.string x.text, v, Value.slice none 0 0, Value.slice none 0 0, Value.slice none 0 0, Value.int .i64 0][j]? = some u → w.cell? ⟨N, j, none⟩ = some u
/-- how the look ends -/
def ClosEnd (P : Nat) (x : Pl.Lit) (w : World) (e : Ending) (w' : World) : Prop :=
  (Pl.litOk false x = true ∧ e = .returned (.tuple #[]) ∧ LookAt w' P (Pl.litMany x) (decide (40 < Pl.litDeep x)) ∨ Pl.litOk false x = false ∧ e = .panicked wrong) ∧ Only P w w'
theorem Only.set1 (w : World) (P : Nat) (v : Value) : Only P w (w.setCell ⟨P, 1, none⟩ v) :=
  ⟨(Below.refl P w).setCell (p := ⟨P, 1, none⟩) (Nat.le_refl _) _, fun k _ hne => Below.heap_setCell w ⟨P, 1, none⟩ v k hne⟩
theorem LookAt.set1 {w : World} {P : Nat} {m d : Bool} (h : LookAt w P m d) (b : Bool) : LookAt (w.setCell ⟨P, 1, none⟩ (.bool b)) P m b := by
  obtain ⟨h0, h1, h2, h3, h4⟩ := h
  exact ⟨by rw [World.cell?_setCell_other _ _ _ _ (by simp)]; exact h0, World.cell?_setCell_same' _ _ _ (by rw [h1]; rfl), by rw [World.frozen?_setCell]; exact h2, by rw [World.frozen?_setCell]; exact h3, by simpa using h4⟩
theorem LookAt.cast1 {w : World} {P : Nat} {m d d' : Bool} (h : LookAt w P m d) (e : d = d') : LookAt w P m d' := by rw [← e]; exact h
set_option maxRecDepth 100000 in
set_option maxHeartbeats 1000000 in
theorem clos_any {B : Nat} {w0 : World} {x : Pl.Lit} {v : Value} (h : LitsAt B w0 x.items v) (P N : Nat) (w : World) (hxw : Pl.LitW x) (hbel : Below B w0 w) (hBP : B ≤ P) (hL : LookAt w P false false) (hN : NodeAt w N x v) (he : ErrAt w) (hEB : 9 < B) (hdp : Pl.litDeep x ≤ 262144) :
    Calls Tryz.prog 90 #[.pointer (some ⟨P, 0, none⟩), .pointer (some ⟨N, 0, none⟩)] w (ClosEnd P x w) := by
  have TV := Lib.hid (tvalue_any h false false P w hxw hbel hBP hL he hEB hdp)
  obtain ⟨A, cap, V, rfl, _⟩ := h.out
  have c0 := hN 0 _ rfl
  have c1 := hN 1 _ rfl
  have c2 := hN 2 _ rfl
  have c3 := hN 3 _ rfl
  have c4 := hN 4 _ rfl
  have c5 := hN 5 _ rfl
  have c6 := hN 6 _ rfl
  have c7 := hN 7 _ rfl
  have c8 := hN 8 _ rfl
  have c9 := hN 9 _ rfl
  have c10 := hN 10 _ rfl
  unfold nodeV at TV
  clear hbel hL he hN
  go_enter Tryz.func90, Tryz.ntmps90
  go_wp2_with fail
  refine TV.out.mono ?_
  rintro e w2 ⟨(⟨hok, rfl, hl⟩ | ⟨hok, rfl⟩), ho⟩
  · have HOK := Lib.hid hok
    have HO := Lib.hid ho
    have HL := Lib.hid (LookAt.cast hl (Bool.false_or _))
    obtain ⟨l0, l1, l2, l3, _⟩ := hl
    clear hok ho c0 c1 c2 c3 c4 c5 c6 c7 c8 c9 c10
    go_wp2_with fail
    go_end0
    exact ⟨.inl ⟨HOK.out, rfl, LookAt.cast1 (HL.out.set1 _) (by rw [decide_eq_decide]; omega)⟩, HO.out.trans (Only.set1 _ _ _)⟩
  · have HOK := Lib.hid hok
    have HO := Lib.hid ho
    clear hok ho c0 c1 c2 c3 c4 c5 c6 c7 c8 c9 c10
    go_wp2_with fail
    exact ⟨rfl, .inr ⟨HOK.out, rfl⟩, HO.out⟩
end Go.Proofs.YtoklnpoacckbfaaGreatDoor
namespace Go.Proofs.YtoklnpoacckbfaaGreatDoor
open Go.RowKit
theorem litErr_eq (x : Pl.Lit) : Pl.litErr x = if Pl.litOk false x = false then 150 else if Pl.litMany x = true then 151 else if 40 < Pl.litDeep x then 152 else 0 := rfl
set_option maxRecDepth 100000 in
set_option maxHeartbeats 1000000 in
theorem caughtNode_any {B : Nat} {w0 : World} {x : Pl.Lit} {v : Value} (h : LitsAt B w0 x.items v) (hB0 : B ≤ w0.heap.size) (N : Nat) (w : World) (hxw : Pl.LitW x) (hbel : Below B w0 w) (hN : NodeAt w N x v) (hNl : N < w.heap.size) (he : ErrAt w) (hEB : 9 < B) (hdp : Pl.litDeep x ≤ 262144) :
    Calls Tryz.prog 89 #[.func (.func 90) #[] #[.pointer (some ⟨N, 0, none⟩)]] w fun e w' => e = .returned (.int .i64 (Pl.litErr x : Nat)) ∧ Below w.heap.size w w' := by
  have hs := hbel.size
  have hmf : ∀ (fn : Fn) (first cap : Array Value) (w : World), (Instr.makeFunc fn first cap).run Tryz.prog w = .ok (.func fn first cap) w := fun _ _ _ _ => rfl
  have CL := Lib.hid (fun (W : World) (hb : Below w.heap.size w W) (hL : LookAt W (w.heap.size + 1) false false) => clos_any h (w.heap.size + 1) N W hxw (hbel.trans (hb.mono (by omega))) (by omega) hL (fun j u hj => (hb.cell (p := ⟨N, j, none⟩) hNl).trans (hN j u hj)) (he.keep hb he.1) hEB hdp)
  clear hbel hN he
  go_enter_defers Tryz.func89, Tryz.ntmps89
  go_wp2_with fail
  have hb1 : Below w.heap.size w ((w.alloc (.cells #[.int .i64 0] 29)).alloc (.cells #[.bool false, .bool false] 152)) := ((Below.refl _ _).alloc (Nat.le_refl _) _).alloc (by simp) _
  have hl1 : LookAt ((w.alloc (.cells #[.int .i64 0] 29)).alloc (.cells #[.bool false, .bool false] 152)) (w.heap.size + 1) false false := ⟨by simp [go_sem], by simp [go_sem], by simp [go_sem], by simp [go_sem], by simp⟩
  have HB1 := Lib.hid hb1
  refine (CL.out _ hb1 hl1).mono ?_
  clear hb1 hl1
  rintro e w2 ⟨(⟨hok, rfl, hl⟩ | ⟨hok, rfl⟩), ho⟩
  all_goals
    have e0 : w2.cell? ⟨w.heap.size, 0, none⟩ = some (.int .i64 0) := by
      rw [ho.cell (b := w.heap.size) (by simp; omega) (by omega)]; simp [go_sem]
    have ef : w2.frozen? ⟨w.heap.size, 0, none⟩ = false := by
      rw [ho.frozen (b := w.heap.size) (by simp; omega) (by omega)]; simp [go_sem]
    have hz2 := ho.low.size
    simp only [World.size_alloc] at hz2
    have HO := Lib.hid (show Below w.heap.size w w2 from HB1.out.trans (ho.low.mono (by omega)))
    have hE2 : w.heap.size < w2.heap.size := by omega
    clear ho
  · have HR := Lib.hid (litErr_eq x)
    rw [hok] at HR
    clear hok
    obtain ⟨l0, l1, l2, l3, _⟩ := hl
    have hsx : w.heap.size ≤ w2.heap.size := by omega
    cases hm : Pl.litMany x
    · rw [hm] at HR l0
      by_cases hdd : 40 < Pl.litDeep x
      · rw [decide_eq_true hdd] at l1
        have HF := Lib.hid (HR.out.trans (show _ = 152 by simp [hdd]))
        clear hm hdd
        go_wp2_with fail
        refine leaves_cons (f := 130) (args := #[.pointer (some ⟨w.heap.size, 0, none⟩)]) (by simp) (by simp [go_sem]) ?_
        refine (caught_idle w.heap.size _).mono ?_
        rintro e u' w3 ⟨rfl, rfl, hb3⟩
        have ec : w3.cell? ⟨w.heap.size, 0, none⟩ = some (.int .i64 152) := (hb3.cell (p := ⟨w.heap.size, 0, none⟩) (by simpa using hE2)).trans (World.cell?_setCell_same' _ _ _ (by rw [e0]; rfl))
        have hfin : Below w.heap.size w w3 := (HO.out.setCell (p := ⟨w.heap.size, 0, none⟩) (Nat.le_refl _) _).trans (hb3.mono (by simpa using hsx))
        simp [Leaves, settle, results, Tryz.results89, go_sem, ec, HF.out, hfin]
      · rw [decide_eq_false hdd] at l1
        have HF := Lib.hid (HR.out.trans (show _ = 0 by simp [hdd]))
        clear hm hdd
        go_wp2_with fail
        refine leaves_cons (f := 130) (args := #[.pointer (some ⟨w.heap.size, 0, none⟩)]) (by simp) (by simp [go_sem]) ?_
        refine (caught_idle w.heap.size _).mono ?_
        rintro e u' w3 ⟨rfl, rfl, hb3⟩
        have ec : w3.cell? ⟨w.heap.size, 0, none⟩ = some (.int .i64 0) := (hb3.cell (p := ⟨w.heap.size, 0, none⟩) (by simpa using hE2)).trans (World.cell?_setCell_same' _ _ _ (by rw [e0]; rfl))
        have hfin : Below w.heap.size w w3 := (HO.out.setCell (p := ⟨w.heap.size, 0, none⟩) (Nat.le_refl _) _).trans (hb3.mono (by simpa using hsx))
        simp [Leaves, settle, results, Tryz.results89, go_sem, ec, HF.out, hfin]
    · rw [hm] at HR l0
      have HF := Lib.hid (HR.out.trans (show _ = 151 by simp))
      clear hm
      · go_wp2_with fail
        refine leaves_cons (f := 130) (args := #[.pointer (some ⟨w.heap.size, 0, none⟩)]) (by simp) (by simp [go_sem]) ?_
        refine (caught_idle w.heap.size _).mono ?_
        rintro e u' w3 ⟨rfl, rfl, hb3⟩
        have ec : w3.cell? ⟨w.heap.size, 0, none⟩ = some (.int .i64 151) := (hb3.cell (p := ⟨w.heap.size, 0, none⟩) (by simpa using hE2)).trans (World.cell?_setCell_same' _ _ _ (by rw [e0]; rfl))
        have hfin : Below w.heap.size w w3 := (HO.out.setCell (p := ⟨w.heap.size, 0, none⟩) (Nat.le_refl _) _).trans (hb3.mono (by simpa using hsx))
        simp [Leaves, settle, results, Tryz.results89, go_sem, ec, HF.out, hfin]
  · have HF := Lib.hid (show Pl.litErr x = 150 by rw [litErr_eq, hok]; rfl)
    clear hok
    go_wp2_with fail
    refine leaves_cons (f := 130) (args := #[.pointer (some ⟨w.heap.size, 0, none⟩)]) (by simp) (by simp [go_sem]) ?_
    refine (caught_panicking w.heap.size 0 _ e0 ef hE2).mono ?_
    rintro e u' w3 ⟨rfl, rfl, ec, ho3⟩
    have hfin : Below w.heap.size w w3 := HO.out.trans ho3.low
    simp [Leaves, settle, results, Tryz.results89, go_sem, ec, HF.out, hfin]
set_option maxRecDepth 100000 in
set_option maxHeartbeats 1000000 in
theorem checkNode_any {B : Nat} {w0 : World} {x : Pl.Lit} {v : Value} (h : LitsAt B w0 x.items v) (hB0 : B ≤ w0.heap.size) (hxw : Pl.LitW x) (w : World) (hbel : Below B w0 w) (he : ErrAt w) (hEB : 9 < B) (hdp : Pl.litDeep x ≤ 262144) :
    Calls Tryz.prog 58 #[nodeV x v] w fun e w' => e = .returned (.int .i64 (Pl.litErr x : Nat)) ∧ Below w.heap.size w w' := by
  have hs := hbel.size
  have hmf : ∀ (fn : Fn) (first cap : Array Value) (w : World), (Instr.makeFunc fn first cap).run Tryz.prog w = .ok (.func fn first cap) w := fun _ _ _ _ => rfl
  have CN := Lib.hid (fun (W : World) (hb : Below w.heap.size w W) (hN : NodeAt W w.heap.size x v) (hl : w.heap.size < W.heap.size) => caughtNode_any h hB0 w.heap.size W hxw (hbel.trans (hb.mono (by omega))) hN hl (he.keep hb he.1) hEB hdp)
  obtain ⟨A, cap, V, rfl, _⟩ := h.out
  unfold nodeV
  clear hbel he
  go_enter Tryz.func58, Tryz.ntmps58
  go_wp2_with fail
  refine (CN.out _ ((Below.refl _ _).alloc (Nat.le_refl _) _) (fun j u hj => by simp [go_sem, hj]) (by simp)).mono ?_
  rintro e w2 ⟨rfl, hb2⟩
  have HB2 := Lib.hid (alloc_then (hb2.mono (by simp)))
  clear hb2
  go_wp2_with fail
  go_ret
  exact ⟨rfl, HB2.out⟩
end Go.Proofs.YtoklnpoacckbfaaGreatDoor
