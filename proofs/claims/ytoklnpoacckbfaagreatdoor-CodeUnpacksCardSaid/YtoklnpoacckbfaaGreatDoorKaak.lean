/- code.of: what an operation is. The document's tables: First, Second, Moves, and small functions of both. The document's plain, longer, literal, Integer. What the reading of the listed variables gives: strconv.ErrRange is there. -/
import Derived.Test.YtoklnpoacckbfaaGreatDoorKaaj
import Derived.WalkSmall
import Derived.Test.YtoklnpoacckbfaaGreatDoorKaab
import Derived.HandedShaped
import Derived.Shelf.Vars
import Derived.Lib.LaidU8
namespace Go.Proofs.YtoklnpoacckbfaaGreatDoor
open Go.RowKit
def shapeZ : Value := .agg #[.string ⟨#[]⟩, .int .i64 0, .bool false, .int .i64 0, .int .i64 0]
theorem eql_shape (n : ByteArray) (f o l : Int) (t : Bool) (w : World) : (binOp .eql 69 (.agg #[.string n, .int .i64 f, .bool t, .int .i64 o, .int .i64 l]) (.agg #[.string ⟨#[]⟩, .int .i64 0, .bool false, .int .i64 0, .int .i64 0])).run Tryz.prog w = .ok (.bool ((n.toList == (⟨#[]⟩ : ByteArray).toList) && ((f == 0) && ((t == false) && ((o == 0) && (l == 0)))))) w := by
  have hS : Tryz.prog.underlying 69 = some (.struct (Tryz.prog.fieldsOf 69)) := by kernel_rfl
  have hp : Tryz.prog.stoodInHeld 69 = false := by kernel_rfl
  have u3 := Tryz.underlying3
  have a3 := Tryz.isAgg3
  have z3 := Tryz.sizeOf3
  have u4 := Tryz.underlying4
  have a4 := Tryz.isAgg4
  have z4 := Tryz.sizeOf4
  have u9 := Tryz.underlying9
  have a9 := Tryz.isAgg9
  have z9 := Tryz.sizeOf9
  rw [run_eql_struct, show (10000 : Nat) = 9999 + 1 from rfl, run_equalIn_agg w 9999 69 _ _ hS hp]
  simp only [Program.fieldsOf, Tryz.underlying69]
  go_simp
  by_cases h1 : n.toList = (⟨#[]⟩ : ByteArray).toList <;> by_cases h2 : f = 0 <;> cases t <;> by_cases h3 : o = 0 <;> by_cases h4 : l = 0 <;> simp [h1, h2, h3, h4] <;> (split <;> simp_all)
def shapeEq (n : Nat) : Bool := ((Pl.opName n).toList == (⟨#[]⟩ : ByteArray).toList) && ((Pl.shFirst n == 0) && ((Pl.two n == false) && ((Pl.shOff n == 0) && (Pl.shLays n == 0))))
theorem shapeEq_known : ∀ n, n < 26 → shapeEq n = decide (n = 0) := by decide +kernel
theorem eql_known (n : Nat) (h : n < 26) (w : World) : (binOp .eql 69 (.agg #[.string (Pl.opName n), .int .i64 (Pl.shFirst n), .bool (Pl.two n), .int .i64 (Pl.shOff n), .int .i64 (Pl.shLays n)]) (.agg #[.string ⟨#[]⟩, .int .i64 0, .bool false, .int .i64 0, .int .i64 0])).run Tryz.prog w = .ok (.bool (decide (n = 0))) w := by
  rw [eql_shape, ← shapeEq_known n h]; rfl
theorem guard_shape (op : BinOp) (x y : Operand) (xs ys : Array Value) (w : World) : (eqGuard op 69 x y (.agg xs) (.agg ys)).run Tryz.prog w = .ok () w := run_eqGuard_agg w op 69 x y xs ys (by kernel_rfl)
theorem shape_cell {w W : World} (hb : Below (w.heap.size + 1) (w.alloc (.cells Pl.shapesV 123)) W) {j : Nat} {u : Value} (h : Pl.shapesV[j]? = some u) : W.cell? ⟨w.heap.size, j, none⟩ = some u := boxCells hb h
set_option maxRecDepth 100000 in
set_option maxHeartbeats 4000000 in
theorem of_known (n : Nat) (h : Pl.known n) (w : World) : Calls Tryz.prog 35 #[.int .u8 n] w fun e w' => e = .returned (.tuple #[.agg (Pl.shapeV n), .bool true]) ∧ Below w.heap.size w w' := by
  unfold Pl.known at h
  have hn : ((26 : Int) ≤ (n : Int)) = False := by simp; omega
  have hS := Pl.shapes_at n (by omega)
  have HS := Lib.hid hS
  clear hS
  go_enter Tryz.func35, Tryz.ntmps35
  go_wp2_with fail
  refine (shapes_any _).mono ?_
  rintro e w2 ⟨rfl, hb⟩
  have hst := shapes_store Pl.shapesV.toList rfl w2
  have hsz := Pl.shapes_size
  have hz := hb.size
  simp only [World.size_alloc] at hz
  have hCells : ∀ j u, Pl.shapesV[j]? = some u → (w2.alloc (.cells Pl.shapesV 123)).cell? ⟨w2.heap.size, j, none⟩ = some u := fun j u h => by simp [go_sem, h]
  have c0 := hCells _ _ HS.out.1
  have c1 := hCells _ _ HS.out.2.1
  have c2 := hCells _ _ HS.out.2.2.1
  have c3 := hCells _ _ HS.out.2.2.2.1
  have c4 := hCells _ _ HS.out.2.2.2.2
  clear hCells
  have d0 : w2.cell? ⟨w.heap.size, 0, none⟩ = some (.string ⟨#[]⟩) := boxCells (hb.mono (by simp)) rfl
  have d1 : w2.cell? ⟨w.heap.size, 1, none⟩ = some (.int .i64 0) := boxCells (hb.mono (by simp)) rfl
  have d2 : w2.cell? ⟨w.heap.size, 2, none⟩ = some (.bool false) := boxCells (hb.mono (by simp)) rfl
  have d3 : w2.cell? ⟨w.heap.size, 3, none⟩ = some (.int .i64 0) := boxCells (hb.mono (by simp)) rfl
  have d4 : w2.cell? ⟨w.heap.size, 4, none⟩ = some (.int .i64 0) := boxCells (hb.mono (by simp)) rfl
  have hfz : ∀ j, w2.frozen? ⟨w.heap.size, j, none⟩ = false := fun j => by rw [hb.frozen (p := ⟨w.heap.size, j, none⟩) (by simp)]; simp [go_sem]
  have f0 := hfz 0
  have f1 := hfz 1
  have f2 := hfz 2
  have f3 := hfz 3
  have f4 := hfz 4
  clear hfz
  have hlt : w.heap.size < w2.heap.size := by omega
  have hne : ¬ w.heap.size = w2.heap.size := by omega
  have hBB := Lib.hid hb
  clear hb
  have heq := fun w => (eql_known n (by omega) w).trans (by rw [show decide (n = 0) = false by simp; omega])
  have hgd := guard_shape .eql
  go_wp2_with fail
  refine bodyPost_ret (v := .tuple #[.agg (Pl.shapeV n), .bool true]) (by simp [results, Tryz.results35, go_sem, Pl.shapeV, d0, d1, d2, d3, d4, hlt]) rfl ⟨rfl, ?_⟩
  exact ((((((((Below.refl _ _).alloc (Nat.le_refl _) _).trans (hBB.out.mono (by simp))).setCell (Nat.le_refl _) _).setCell (Nat.le_refl _) _).setCell (Nat.le_refl _) _).setCell (Nat.le_refl _) _).setCell (Nat.le_refl _) _).alloc (by simp; omega) _
set_option maxRecDepth 100000 in
set_option maxHeartbeats 4000000 in
theorem of_zero (w : World) : Calls Tryz.prog 35 #[.int .u8 ((0 : Nat) : Int)] w fun e w' => e = .returned (.tuple #[shapeZ, .bool false]) ∧ Below w.heap.size w w' := by
  have hS := Pl.shapes_at 0 (by omega)
  have HS := Lib.hid hS
  clear hS
  go_enter Tryz.func35, Tryz.ntmps35
  go_wp2_with fail
  refine (shapes_any _).mono ?_
  rintro e w2 ⟨rfl, hb⟩
  have hst := shapes_store Pl.shapesV.toList rfl w2
  have hsz := Pl.shapes_size
  have hz := hb.size
  simp only [World.size_alloc] at hz
  have hCells : ∀ j u, Pl.shapesV[j]? = some u → (w2.alloc (.cells Pl.shapesV 123)).cell? ⟨w2.heap.size, j, none⟩ = some u := fun j u h => by simp [go_sem, h]
  have c0 := hCells _ _ HS.out.1
  have c1 := hCells _ _ HS.out.2.1
  have c2 := hCells _ _ HS.out.2.2.1
  have c3 := hCells _ _ HS.out.2.2.2.1
  have c4 := hCells _ _ HS.out.2.2.2.2
  clear hCells
  have d0 : w2.cell? ⟨w.heap.size, 0, none⟩ = some (.string ⟨#[]⟩) := boxCells (hb.mono (by simp)) rfl
  have d1 : w2.cell? ⟨w.heap.size, 1, none⟩ = some (.int .i64 0) := boxCells (hb.mono (by simp)) rfl
  have d2 : w2.cell? ⟨w.heap.size, 2, none⟩ = some (.bool false) := boxCells (hb.mono (by simp)) rfl
  have d3 : w2.cell? ⟨w.heap.size, 3, none⟩ = some (.int .i64 0) := boxCells (hb.mono (by simp)) rfl
  have d4 : w2.cell? ⟨w.heap.size, 4, none⟩ = some (.int .i64 0) := boxCells (hb.mono (by simp)) rfl
  have hfz : ∀ j, w2.frozen? ⟨w.heap.size, j, none⟩ = false := fun j => by rw [hb.frozen (p := ⟨w.heap.size, j, none⟩) (by simp)]; simp [go_sem]
  have f0 := hfz 0
  have f1 := hfz 1
  have f2 := hfz 2
  have f3 := hfz 3
  have f4 := hfz 4
  clear hfz
  have hlt : w.heap.size < w2.heap.size := by omega
  have hne : ¬ w.heap.size = w2.heap.size := by omega
  have hBB := Lib.hid hb
  clear hb
  have heq := fun w => (eql_known 0 (by omega) w)
  have hgd := guard_shape .eql
  go_wp2_with fail
  refine bodyPost_ret (v := .tuple #[shapeZ, .bool false]) (by simp [results, Tryz.results35, go_sem, shapeZ, d0, d1, d2, d3, d4, hlt]) rfl ⟨rfl, ?_⟩
  exact ((((((((Below.refl _ _).alloc (Nat.le_refl _) _).trans (hBB.out.mono (by simp))).setCell (Nat.le_refl _) _).setCell (Nat.le_refl _) _).setCell (Nat.le_refl _) _).setCell (Nat.le_refl _) _).setCell (Nat.le_refl _) _).alloc (by simp; omega) _
set_option maxRecDepth 100000 in
set_option maxHeartbeats 4000000 in
theorem of_big (n : Nat) (h : 26 ≤ n) (h2 : n < 256) (w : World) : Calls Tryz.prog 35 #[.int .u8 n] w fun e w' => e = .returned (.tuple #[shapeZ, .bool false]) ∧ Below w.heap.size w w' := by
  go_enter Tryz.func35, Tryz.ntmps35
  go_wp2_with fail
  refine (shapes_any _).mono ?_
  rintro e w2 ⟨rfl, hb⟩
  have hst := shapes_store Pl.shapesV.toList rfl w2
  have hsz := Pl.shapes_size
  have hz := hb.size
  simp only [World.size_alloc] at hz
  have d0 : w2.cell? ⟨w.heap.size, 0, none⟩ = some (.string ⟨#[]⟩) := boxCells (hb.mono (by simp)) rfl
  have d1 : w2.cell? ⟨w.heap.size, 1, none⟩ = some (.int .i64 0) := boxCells (hb.mono (by simp)) rfl
  have d2 : w2.cell? ⟨w.heap.size, 2, none⟩ = some (.bool false) := boxCells (hb.mono (by simp)) rfl
  have d3 : w2.cell? ⟨w.heap.size, 3, none⟩ = some (.int .i64 0) := boxCells (hb.mono (by simp)) rfl
  have d4 : w2.cell? ⟨w.heap.size, 4, none⟩ = some (.int .i64 0) := boxCells (hb.mono (by simp)) rfl
  have hfz : ∀ j, w2.frozen? ⟨w.heap.size, j, none⟩ = false := fun j => by rw [hb.frozen (p := ⟨w.heap.size, j, none⟩) (by simp)]; simp [go_sem]
  have f0 := hfz 0
  have f1 := hfz 1
  have f2 := hfz 2
  have f3 := hfz 3
  have f4 := hfz 4
  clear hfz
  have hlt : w.heap.size < w2.heap.size := by omega
  have hne : ¬ w.heap.size = w2.heap.size := by omega
  have hBB := Lib.hid hb
  clear hb
  have hI : (26 : Int) ≤ (n : Int) := by omega
  go_wp2_with fail
  refine bodyPost_ret (v := .tuple #[shapeZ, .bool false]) (by simp [results, Tryz.results35, go_sem, shapeZ, d0, d1, d2, d3, d4, hlt]) rfl ⟨rfl, ?_⟩
  exact ((((((((Below.refl _ _).alloc (Nat.le_refl _) _).trans (hBB.out.mono (by simp))).setCell (Nat.le_refl _) _).setCell (Nat.le_refl _) _).setCell (Nat.le_refl _) _).setCell (Nat.le_refl _) _).setCell (Nat.le_refl _) _).alloc (by simp; omega) _
theorem of_none (n : Nat) (h : ¬ Pl.known n) (h2 : n < 256) (w : World) : Calls Tryz.prog 35 #[.int .u8 n] w fun e w' => e = .returned (.tuple #[shapeZ, .bool false]) ∧ Below w.heap.size w w' := by
  unfold Pl.known at h
  by_cases h0 : n = 0
  · subst h0; exact of_zero w
  · exact of_big n (by omega) h2 w
end Go.Proofs.YtoklnpoacckbfaaGreatDoor
namespace Go.Proofs.YtoklnpoacckbfaaGreatDoor
open Go.RowKit
theorem bytesA_two {n : Nat} (h : 18 ≤ n ∧ n ≤ 20) : (2 : Int) = ((Pl.bytesA n : Nat) : Int) := by unfold Pl.bytesA; rw [if_pos h]; rfl
theorem bytesA_nil {n : Nat} (h : 1 ≤ n ∧ n ≤ 4 ∨ n = 14 ∨ n = 15 ∨ n = 21 ∨ n = 22) : (0 : Int) = ((Pl.bytesA n : Nat) : Int) := by unfold Pl.bytesA; rw [if_neg (by omega), if_pos h]; rfl
theorem bytesA_one {n : Nat} (h : ¬ (18 ≤ n ∧ n ≤ 20)) (h2 : ¬ (1 ≤ n ∧ n ≤ 4 ∨ n = 14 ∨ n = 15 ∨ n = 21 ∨ n = 22)) : (1 : Int) = ((Pl.bytesA n : Nat) : Int) := by unfold Pl.bytesA; rw [if_neg h, if_neg h2]; rfl
set_option maxRecDepth 100000 in
set_option maxHeartbeats 2000000 in
theorem first_any (n : Nat) (w : World) : Calls Tryz.prog 41 #[.int .u8 n] w fun e w' => e = .returned (.int .i64 (Pl.bytesA n : Nat)) ∧ w = w' := by
  go_enter Tryz.func41, Tryz.ntmps41
  go_wp2_with fail
  all_goals
    go_ret
    refine ⟨ret_int ?_, rfl⟩
    simp only [beq_iff_eq, beq_eq_false_iff_ne] at *
    first
      | exact bytesA_two (by omega)
      | exact bytesA_nil (by omega)
      | exact bytesA_one (by omega) (by omega)
set_option maxRecDepth 100000 in
set_option maxHeartbeats 2000000 in
theorem second_any (n : Nat) (w : World) : Calls Tryz.prog 42 #[.int .u8 n] w fun e w' => e = .returned (.bool (Pl.two n)) ∧ w = w' := by
  go_enter Tryz.func42, Tryz.ntmps42
  go_wp2_with fail
  all_goals
    go_ret
    refine ⟨ret_bool ?_, rfl⟩
    unfold Pl.two
    try simp only [beq_iff_eq, beq_eq_false_iff_ne] at *
    rw [Bool.eq_iff_iff]; simp; try omega
namespace Pl
def inB (n lo hi : Int) : Bool := decide (lo ≤ n) && decide (n ≤ hi)
theorem inB_true {n lo hi : Int} (h : in_ n lo hi) : inB n lo hi = true := by unfold inB; unfold in_ at h; simp; exact h
theorem inB_false {n lo hi : Int} (h : ¬ in_ n lo hi) : inB n lo hi = false := by unfold inB; unfold in_ at h; simp; omega
end Pl
theorem in_any (n lo hi : Int) (w : World) : Calls Tryz.prog 66 #[.int .i64 n, .int .i64 lo, .int .i64 hi] w fun e w' => e = .returned (.bool (Pl.inB n lo hi)) ∧ w = w' := by
  go_enter Tryz.func66, Tryz.ntmps66
  go_wp2_with fail
  all_goals
    go_ret
    refine ⟨ret_bool ?_, rfl⟩
    unfold Pl.inB
    rw [Bool.eq_iff_iff]; simp; try omega
theorem within_any (n lo hi : Int) (w : World) : Calls Tryz.prog 57 #[.int .i64 n, .int .i64 lo, .int .i64 hi] w fun e w' => e = .returned (.bool (Pl.inB n lo hi)) ∧ w = w' := by
  go_enter Tryz.func57, Tryz.ntmps57
  go_wp2_with fail
  all_goals
    go_ret
    refine ⟨ret_bool ?_, rfl⟩
    unfold Pl.inB
    rw [Bool.eq_iff_iff]; simp; try omega
namespace Pl
open Classical in
noncomputable def takenB (s : ByteArray) : Bool := decide (taken s)
theorem taken_bytes {s : ByteArray} : taken s ↔ s.toList = [115, 101, 108, 102] ∨ s.toList = [115, 117, 112, 101, 114] ∨ s.toList = [110, 105, 108] ∨ s.toList = [116, 114, 117, 101] ∨ s.toList = [102, 97, 108, 115, 101] := Iff.rfl
theorem takenB_iff {s : ByteArray} : takenB s = true ↔ taken s := by unfold takenB; simp
end Pl
set_option maxRecDepth 100000 in
set_option maxHeartbeats 2000000 in
theorem taken_any (s : ByteArray) (w : World) : Calls Tryz.prog 60 #[.string s] w fun e w' => e = .returned (.bool (Pl.takenB s)) ∧ w = w' := by
  go_enter Tryz.func60, Tryz.ntmps60
  go_wp2_with fail
  all_goals
    go_ret
    refine ⟨ret_bool ?_, rfl⟩
    rw [Bool.eq_iff_iff, Pl.takenB_iff, Pl.taken_bytes]
    simp_all
set_option maxRecDepth 100000 in
set_option maxHeartbeats 2000000 in
theorem rtaken_any (s : ByteArray) (w : World) : Calls Tryz.prog 68 #[.string s] w fun e w' => e = .returned (.bool (Pl.takenB s)) ∧ w = w' := by
  go_enter Tryz.func68, Tryz.ntmps68
  go_wp2_with fail
  all_goals
    go_ret
    refine ⟨ret_bool ?_, rfl⟩
    rw [Bool.eq_iff_iff, Pl.takenB_iff, Pl.taken_bytes]
    simp_all
end Go.Proofs.YtoklnpoacckbfaaGreatDoor
namespace Go.Proofs.YtoklnpoacckbfaaGreatDoor
open Go.RowKit
/-- strconv.ErrRange is some error -/
def ErrAt (w : World) : Prop := 9 < w.heap.size ∧ ∃ (tp : TypeId) (p : Value), w.var? Tryz.prog "strconv.ErrRange" = some #[.iface tp p]
theorem ErrAt.keep {w w' : World} (h : ErrAt w) {B : Nat} (hb : Below B w w') (hB : 9 < B) : ErrAt w' := by
  obtain ⟨h1, tp, p, h2⟩ := h
  exact ⟨Nat.lt_of_lt_of_le h1 hb.size, tp, p, var?_below hb (g := 9) (by kernel_rfl) hB h2⟩
theorem size_list (s : ByteArray) : s.data.toList.length = s.size := by simp
theorem drop1 (s : ByteArray) : (s.extract 1 s.size).data.toList = s.data.toList.drop 1 := by
  rw [ext_list, List.take_of_length_le]; simp
theorem size_drop1 (s : ByteArray) : (s.extract 1 s.size).size = s.size - 1 := by simp
namespace Pl
theorem dw_same (r : List UInt8) : (48 :: r).dropWhile (· == 48) = r.dropWhile (· == 48) := by rw [List.dropWhile_cons, if_pos (by rfl)]
theorem dw_other {c : UInt8} (r : List UInt8) (hc : c ≠ 48) : (c :: r).dropWhile (· == 48) = c :: r := by rw [List.dropWhile_cons, if_neg (by simpa using hc)]
theorem bare_other {c : UInt8} {r : List UInt8} (hc : c ≠ 48) : bare (c :: r) = c :: r := by
  unfold bare
  rw [dw_other r hc, if_neg (by simp)]
theorem bare_step {r : List UInt8} (h : r ≠ []) : bare (48 :: r) = bare r := by
  unfold bare
  rw [dw_same]
  by_cases he : r.dropWhile (· == 48) = []
  · rw [if_pos he, if_pos he]
    cases r with
    | nil => exact absurd rfl h
    | cons c t =>
      by_cases hc : c = 48
      · subst hc; rfl
      · rw [dw_other t hc] at he; cases he
  · rw [if_neg he, if_neg he]
theorem bare_short {l : List UInt8} (h : l.length ≤ 1) : bare l = l := by
  match l, h with
  | [], _ => rfl
  | [c], _ =>
    by_cases hc : c = 48
    · subst hc; rfl
    · exact bare_other hc
theorem bare_bare (l : List UInt8) : bare (bare l) = bare l := by
  rcases bare_form l with h | h | ⟨c, r, h, hc⟩
  · rw [h]; rfl
  · rw [h]; rfl
  · rw [h]; exact bare_other hc
theorem bare_len (l : List UInt8) : (bare l).length ≤ l.length := by
  unfold bare; split
  · rw [List.length_take]; omega
  · exact (List.dropWhile_sublist _).length_le
def numV : Num → Array Value
  | .small n => #[.int .u8 4, .int .i64 n, .int .u64 0, .string ⟨#[]⟩, .slice none 0 0]
  | .large t => #[.int .u8 5, .int .i64 0, .int .u64 0, .string ⟨t.toArray⟩, .slice none 0 0]
end Pl
set_option maxRecDepth 100000 in
set_option maxHeartbeats 1000000 in
theorem rplain_any (s : ByteArray) (w : World) :
    Calls Tryz.prog 163 #[.string s] w fun e w' => (∃ t : ByteArray, e = .returned (.string t) ∧ t.data.toList = Pl.bare s.data.toList) ∧ w = w' := by
  go_enter Tryz.func163, Tryz.ntmps163
  go_wp2_with fail
  go_loop [0] (fun v => ∃ t : ByteArray, v = .string t ∧ t.size ≤ s.size ∧ Pl.bare t.data.toList = Pl.bare s.data.toList) (fun v => match v with | .string t => t.size | _ => 0)
  case atStart => exact ⟨s, rfl, Nat.le_refl _, rfl⟩
  case round =>
    obtain ⟨t, rfl, ht, hb⟩ := hrel
    have HB := Lib.hid hb
    clear hb
    have hlen := size_list t
    have HLEN := Lib.hid hlen
    clear hlen
    by_cases h1 : 1 < t.size
    · have h0 : 0 < t.size := by omega
      have hc : t.data.toList = t[0] :: t.data.toList.drop 1 := by
        cases e : t.data.toList with
        | nil => have := HLEN.out; rw [e] at this; simp at this; omega
        | cons c r =>
          have : t[0] = c := by
            have h2 : t.data.toList[0]? = some c := by rw [e]; rfl
            have h3 : t.data.toList[0]? = some t[0] := by rw [List.getElem?_eq_getElem (by rw [HLEN.out]; exact h0)]; rfl
            rw [h2] at h3; exact (Option.some.inj h3).symm
          rw [this]; rfl
      have HC := Lib.hid hc
      clear hc
      have h1I : (1 : Int) < (t.size : Int) := by omega
      by_cases h48 : t[0] = 48
      · have hI : ((t[0].toNat : Int) == 48) = true := by rw [h48]; rfl
        have hstep : Pl.bare (t.extract 1 t.size).data.toList = Pl.bare s.data.toList := by
          rw [drop1 t, ← HB.out, HC.out, h48, Pl.bare_step]
          · rfl
          · intro e
            have := HLEN.out; rw [HC.out, e] at this; simp at this; omega
        have HS := Lib.hid hstep
        have hsz := size_drop1 t
        clear h48 hstep
        go_wp2_with fail
        go_round
        case rel => exact ⟨_, rfl, by rw [hsz]; omega, HS.out⟩
        case measure => simp only [hsz]; omega
      · have hI : ((t[0].toNat : Int) == 48) = false := by
          have : t[0].toNat ≠ 48 := fun e => h48 (UInt8.toNat_inj.1 e)
          simp; omega
        have e : Pl.bare t.data.toList = t.data.toList := by rw [HC.out]; exact Pl.bare_other h48
        have HS := Lib.hid (show t.data.toList = Pl.bare s.data.toList from e.symm.trans HB.out)
        clear e
        clear h48
        go_wp2_with fail
        go_ret
        exact ⟨⟨t, rfl, HS.out⟩, rfl⟩
    · have HS := Lib.hid (show t.data.toList = Pl.bare s.data.toList by rw [← HB.out, Pl.bare_short (by rw [HLEN.out]; omega)])
      go_wp2_with fail
      go_ret
      exact ⟨⟨t, rfl, HS.out⟩, rfl⟩
namespace Pl
def longerB (a b : List UInt8) : Bool := decide (b.length < a.length) || decide (a.length = b.length) && Op.bytesLess b a
/-- greater of two texts of one length -/
theorem not_less : ∀ (x y : List UInt8), x.length = y.length → (!(Op.bytesLess x y || x == y)) = Op.bytesLess y x
  | [], [], _ => rfl
  | a :: x, b :: y, h => by
    have ih := not_less x y (by simpa using h)
    have e1 : ∀ c d : UInt8, decide (c < d) = decide (c.toNat < d.toNat) := fun c d => by rw [decide_eq_decide]; exact UInt8.lt_iff_toNat_lt
    have e2 : ∀ c d : UInt8, (c == d) = decide (c.toNat = d.toNat) := fun c d => by
      rw [Bool.eq_iff_iff]; simp only [beq_iff_eq, decide_eq_true_eq]; exact ⟨fun h => by rw [h], fun h => UInt8.toNat_inj.1 h⟩
    unfold Op.bytesLess
    rw [← ih, e1, e1, e2, e2, List.cons_beq_cons, e2]
    rcases Nat.lt_trichotomy a.toNat b.toNat with h1 | h1 | h1
    · rw [show decide (a.toNat < b.toNat) = true by simpa using h1, show decide (b.toNat < a.toNat) = false by simp; omega, show decide (b.toNat = a.toNat) = false by simp; omega]; rfl
    · rw [show decide (a.toNat < b.toNat) = false by simp; omega, show decide (b.toNat < a.toNat) = false by simp; omega, show decide (b.toNat = a.toNat) = true by simp; omega, show decide (a.toNat = b.toNat) = true by simp; omega]; simp
    · rw [show decide (a.toNat < b.toNat) = false by simp; omega, show decide (b.toNat < a.toNat) = true by simpa using h1, show decide (a.toNat = b.toNat) = false by simp; omega]; rfl
end Pl
set_option maxRecDepth 100000 in
set_option maxHeartbeats 1000000 in
theorem longer_any (a b : ByteArray) (w : World) : Calls Tryz.prog 212 #[.string a, .string b] w fun e w' => e = .returned (.bool (Pl.longerB a.data.toList b.data.toList)) ∧ w = w' := by
  have la := Lib.hid (size_list a)
  have lb := Lib.hid (size_list b)
  by_cases h1 : b.size < a.size
  · have HR := Lib.hid (show Pl.longerB a.data.toList b.data.toList = true by unfold Pl.longerB; rw [la.out, lb.out, show decide (b.size < a.size) = true by simpa using h1]; rfl)
    go_enter Tryz.func212, Tryz.ntmps212
    go_wp2_with fail
    go_ret
    exact ⟨ret_bool (by rw [HR.out]), rfl⟩
  · by_cases h2 : a.size = b.size
    · have HR := Lib.hid (show Pl.longerB a.data.toList b.data.toList = !(Op.bytesLess a.toList b.toList || a.toList == b.toList) by
        unfold Pl.longerB
        rw [la.out, lb.out, show decide (b.size < a.size) = false by simpa using h1, show decide (a.size = b.size) = true by simpa using h2, ByteArray.toList_eq, ByteArray.toList_eq, Pl.not_less _ _ (by rw [la.out, lb.out, h2])]; rfl)
      have h2I : ((a.size : Int) == (b.size : Int)) = true := by rw [h2]; simp
      clear h2
      go_enter Tryz.func212, Tryz.ntmps212
      go_wp2_with fail
      all_goals
        go_ret
        refine ⟨ret_bool ?_, rfl⟩
        rw [HR.out]
        simp
    · have HR := Lib.hid (show Pl.longerB a.data.toList b.data.toList = false by unfold Pl.longerB; rw [la.out, lb.out, show decide (b.size < a.size) = false by simpa using h1, show decide (a.size = b.size) = false by simpa using h2]; rfl)
      have h2I : ((a.size : Int) == (b.size : Int)) = false := by simp; omega
      go_enter Tryz.func212, Tryz.ntmps212
      go_wp2_with fail
      go_ret
      exact ⟨ret_bool (by rw [HR.out]), rfl⟩
theorem bytes_eta (s : ByteArray) : (⟨s.data.toList.toArray⟩ : ByteArray) = s := by cases s; simp
theorem minus_eta (s : ByteArray) : (⟨(45 :: s.data.toList).toArray⟩ : ByteArray) = ⟨#[45]⟩ ++ s := by
  apply ByteArray.ext
  rw [ByteArray.data_append]
  apply Array.ext'
  simp
theorem bytesWorld_or {w w' : World} {e : TypeId} (h : w' = w ∨ ∃ t, w' = Lib.bytesWorld w e t) : Below w.heap.size w w' := by
  rcases h with rfl | ⟨t, rfl⟩
  · exact Below.refl _ _
  · exact Lib.bytesWorld_below w e t
/-- the five cells of a new literal, in a later world -/
theorem newLit {w w2 : World} {c : Array Value} {t : TypeId} (hb : Below (w.heap.size + 1) (w.alloc (.cells c t)) w2) (hc : c = #[.int .u8 0, .int .i64 0, .int .u64 0, .string ⟨#[]⟩, .slice none 0 0]) :
    (w2.cell? ⟨w.heap.size, 0, none⟩ = some (.int .u8 0) ∧ w2.cell? ⟨w.heap.size, 1, none⟩ = some (.int .i64 0) ∧ w2.cell? ⟨w.heap.size, 2, none⟩ = some (.int .u64 0) ∧ w2.cell? ⟨w.heap.size, 3, none⟩ = some (.string ⟨#[]⟩) ∧ w2.cell? ⟨w.heap.size, 4, none⟩ = some (.slice none 0 0)) ∧
    (w2.frozen? ⟨w.heap.size, 0, none⟩ = false ∧ w2.frozen? ⟨w.heap.size, 1, none⟩ = false ∧ w2.frozen? ⟨w.heap.size, 2, none⟩ = false ∧ w2.frozen? ⟨w.heap.size, 3, none⟩ = false ∧ w2.frozen? ⟨w.heap.size, 4, none⟩ = false) ∧ w.heap.size < w2.heap.size := by
  subst hc
  have hfz : ∀ j, w2.frozen? ⟨w.heap.size, j, none⟩ = false := fun j => by rw [hb.frozen (p := ⟨w.heap.size, j, none⟩) (by simp)]; simp [go_sem]
  have hz := hb.size
  simp only [World.size_alloc] at hz
  exact ⟨⟨boxCells hb rfl, boxCells hb rfl, boxCells hb rfl, boxCells hb rfl, boxCells hb rfl⟩, ⟨hfz 0, hfz 1, hfz 2, hfz 3, hfz 4⟩, by omega⟩
namespace Pl
theorem whole_small {d : List UInt8} {m : Bool} (h : val d ≤ top m) : whole d m = .small (if m = true then -(val d : Int) else val d) := by unfold whole; rw [if_pos h]
theorem whole_large {d : List UInt8} {m : Bool} (h : top m < val d) : whole d m = .large (if m = true then 45 :: d else d) := by unfold whole; rw [if_neg (by omega)]
theorem longer_75 {b : List UInt8} (hb : bare b = b) (hd : digs b = true) : longerB b d75 = decide (top false < val b) := by
  have h := longer_iff (m := d75) (by decide) rfl (by rw [val_75]; decide) hb hd
  rw [val_75] at h; exact h
theorem longer_76 {b : List UInt8} (hb : bare b = b) (hd : digs b = true) : longerB b d76 = decide (top true < val b) := by
  have h := longer_iff (m := d76) (by decide) rfl (by rw [val_76]; decide) hb hd
  rw [val_76] at h; exact h
theorem small_len {b : List UInt8} {m : Bool} (hb : bare b = b) (hd : digs b = true) (h : val b ≤ top m) : b.length ≤ 19 := by
  rcases bare_form b with e | e | ⟨c, r, e, hc⟩
  · rw [hb] at e; rw [e]; decide
  · rw [hb] at e; rw [e]; decide
  · rw [hb] at e
    have h3 := val_ge e hc hd
    rcases Nat.lt_or_ge 19 b.length with h4 | h4
    · have h5 : 10 ^ 19 ≤ 10 ^ (b.length - 1) := Nat.pow_le_pow_right (by decide) (by omega)
      have h6 : top m ≤ 1152921504606846976 := by unfold top; split <;> omega
      omega
    · exact h4
end Pl
end Go.Proofs.YtoklnpoacckbfaaGreatDoor
namespace Go.Proofs.YtoklnpoacckbfaaGreatDoor
open Go.RowKit Go.Lib
theorem trod_face2 {H : Type} {enc : TypeId × Value → H} {P : Program} {w : World} {base : Nat} {spare : Nat → Bool} {held : Bool} {fuel : Nat} {t : TypeId} {cs : List Value} {n : String} {d : DataW H} {p : List MemPlace} {ms}
    (ht : P.underlying t = some (.interface ms)) (h : DataW.trod enc P w base spare held fuel t cs = some (.iface n d, p)) : ∃ u v, cs = [.iface u v] := by
  cases fuel with
  | zero => simp [DataW.trod] at h
  | succ n =>
    unfold DataW.trod at h
    rw [ht] at h
    split at h <;> simp_all
theorem var_lt {P : Program} {w : World} {n : String} {g : Nat} {cs : Array Value} (hg : P.globalNamed n = some g) (h : w.var? P n = some cs) : g < w.heap.size := by
  unfold World.var? at h
  rw [hg] at h
  rcases Nat.lt_or_ge g w.heap.size with hl | hl
  · exact hl
  · rw [Option.bind_some, Array.getElem?_eq_none hl] at h
    cases h
theorem err_of {W : World} (hL : laidMet Tryz.prog laidL W) : ErrAt W := by
  have h : VarReads Tryz.prog W "strconv.ErrRange" Rows.laid_strconv_ErrRange := laidMet.reads hL (List.mem_of_getElem? (i := 5) rfl)
  obtain ⟨g, t, cs, fuel, p, hg, hty, hvar, hd⟩ := h
  obtain rfl := Option.some.inj ((show Tryz.prog.globalNamed "strconv.ErrRange" = some 9 by kernel_rfl).symm.trans hg)
  obtain rfl := Option.some.inj ((show (Tryz.prog.globals[9]?).map (·.type) = some 126 by kernel_rfl).symm.trans hty)
  obtain ⟨u, v, hc⟩ := trod_face2 Tryz.underlying126 hd
  refine ⟨var_lt hg hvar, u, v, ?_⟩
  rw [hvar]
  have : cs = #[.iface u v] := by cases cs; simp_all
  rw [this]
end Go.Proofs.YtoklnpoacckbfaaGreatDoor
