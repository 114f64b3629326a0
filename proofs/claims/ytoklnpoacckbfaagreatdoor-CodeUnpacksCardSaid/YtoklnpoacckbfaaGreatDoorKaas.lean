/- The document's Literal: may a literal be? The document's Literal: large integers, arrays; whatever literal. The document's Literal at arrays, and so at whatever literal. -/
import Derived.Test.YtoklnpoacckbfaaGreatDoorKaar
import Derived.Test.YtoklnpoacckbfaaGreatDoorKaan
namespace Go.Proofs.YtoklnpoacckbfaaGreatDoor
open Go.RowKit
theorem wrap_nat {a : Nat} (h : a < 18446744073709551616) : IntKind.u64.wrap (a : Int) = a := by
  have := IntKind.wrap_u64 (a : Int)
  rw [this]; omega
theorem bits_low {a k : Nat} (ha : a < 18446744073709551616) (hk : k ≤ 63) : bits .and .u64 (a : Int) ((2 ^ k - 1 : Nat) : Int) = ((a % 2 ^ k : Nat) : Int) := by
  have h64 : (2 : Nat) ^ IntKind.u64.bits = 18446744073709551616 := rfl
  have hp : 2 ^ k ≤ 2 ^ 63 := Nat.pow_le_pow_right (by decide) hk
  have hm : a % 2 ^ k < 2 ^ k := Nat.mod_lt _ (Nat.pow_pos (by decide))
  simp only [bits, BitVec.ofInt_natCast, BitVec.toNat_and, BitVec.toNat_ofNat, h64]
  rw [Nat.mod_eq_of_lt ha, Nat.mod_eq_of_lt (by omega), Nat.and_two_pow_sub_one_eq_mod, wrap_nat (by omega)]
theorem bits_exu (a : Nat) (ha : a < 18446744073709551616) : bits .and .u64 ((a : Int) / 4503599627370496) 2047 = ((a / 4503599627370496 % 2048 : Nat) : Int) := by
  have := bits_low (a := a / 4503599627370496) (k := 11) (by omega) (by decide)
  rw [show ((2 ^ 11 - 1 : Nat) : Int) = 2047 from rfl, show (2 : Nat) ^ 11 = 2048 from rfl] at this
  rw [← this]; simp
namespace Pl
theorem noText_eq (t : ByteArray) : noText t = t.toList.isEmpty := by
  unfold noText
  rw [ByteArray.toList_eq, Bool.eq_iff_iff]
  have := size_list t
  simp only [decide_eq_true_eq, List.isEmpty_iff]
  constructor
  · intro h; exact List.eq_nil_of_length_eq_zero (by omega)
  · intro h; rw [h] at this; simpa using this.symm
theorem isEmpty_eq {α : Type} (l : List α) : l.isEmpty = decide ((l.length : Int) = 0) := by cases l <;> simp; omega
theorem ok_sing {b : Bool} {x : Lit} (h : x.kind = 1 ∨ x.kind = 2 ∨ x.kind = 3) : litOk b x = (b && decide (x.n = 0) && decide (x.bits = 0) && noText x.text && x.items.isEmpty) := by
  cases x; simp only [Lit.kind] at h; simp only [litOk, Lit.n, Lit.bits, Lit.items, Lit.text]
  rw [if_pos h]; try rfl
theorem ok_small {b : Bool} {x : Lit} (h : x.kind = 4) : litOk b x = (decide (-1152921504606846976 ≤ x.n ∧ x.n ≤ 1152921504606846975) && decide (x.bits = 0) && noText x.text && x.items.isEmpty) := by
  cases x; simp only [Lit.kind] at h; simp only [litOk, Lit.n, Lit.bits, Lit.items, Lit.text]
  rw [if_neg (by omega), if_pos h]; try rfl
theorem ok_large {b : Bool} {x : Lit} (h : x.kind = 5) : litOk b x = (largeText x.text.data.toList && decide (x.n = 0) && decide (x.bits = 0) && x.items.isEmpty) := by
  cases x; simp only [Lit.kind] at h; simp only [litOk, Lit.n, Lit.bits, Lit.items, Lit.text]
  rw [if_neg (by omega), if_neg (by omega), if_pos h]; try rfl
theorem ok_float {b : Bool} {x : Lit} (h : x.kind = 6) : litOk b x = (decide (x.bits / 4503599627370496 % 2048 ≠ 2047) && decide (x.n = 0) && noText x.text && x.items.isEmpty) := by
  cases x; simp only [Lit.kind] at h; simp only [litOk, Lit.n, Lit.bits, Lit.items, Lit.text]
  rw [if_neg (by omega), if_neg (by omega), if_neg (by omega), if_pos h]; try rfl
theorem ok_char {b : Bool} {x : Lit} (h : x.kind = 7) : litOk b x = (decide (0 ≤ x.n ∧ x.n ≤ 255) && decide (x.bits = 0) && noText x.text && x.items.isEmpty) := by
  cases x; simp only [Lit.kind] at h; simp only [litOk, Lit.n, Lit.bits, Lit.items, Lit.text]
  rw [if_neg (by omega), if_neg (by omega), if_neg (by omega), if_neg (by omega), if_pos h]; try rfl
theorem ok_text {b : Bool} {x : Lit} (h : x.kind = 8 ∨ x.kind = 9 ∨ x.kind = 11) : litOk b x = (decide (x.n = 0) && decide (x.bits = 0) && x.items.isEmpty) := by
  cases x; simp only [Lit.kind] at h; simp only [litOk, Lit.n, Lit.bits, Lit.items]
  rw [if_neg (by omega), if_neg (by omega), if_neg (by omega), if_neg (by omega), if_neg (by omega), if_pos h]; try rfl
theorem ok_array {b : Bool} {x : Lit} (h : x.kind = 10) : litOk b x = (litsOk x.items && decide (x.n = 0) && decide (x.bits = 0) && noText x.text) := by
  cases x; simp only [Lit.kind] at h; simp only [litOk, Lit.n, Lit.bits, Lit.items, Lit.text]
  rw [if_neg (by omega), if_neg (by omega), if_neg (by omega), if_neg (by omega), if_neg (by omega), if_neg (by omega), if_pos h]; try rfl
theorem ok_none {b : Bool} {x : Lit} (h : x.kind = 0 ∨ 12 ≤ x.kind) : litOk b x = false := by
  cases x; simp only [Lit.kind] at h; simp only [litOk]
  rw [if_neg (by omega), if_neg (by omega), if_neg (by omega), if_neg (by omega), if_neg (by omega), if_neg (by omega), if_neg (by omega)]
end Pl
set_option maxRecDepth 100000 in
set_option maxHeartbeats 2000000 in
theorem rlit_sing {B : Nat} {v : Value} (x : Pl.Lit) (i : Bool) (w : World) (hv : LitsAt B w x.items v) (hxw : Pl.LitW x) (hk : x.kind = 1 ∨ x.kind = 2 ∨ x.kind = 3) :
    Calls Tryz.prog 76 #[litV x v, .bool i] w fun e w' => e = .returned (.bool (Pl.litOk i x)) ∧ Below w.heap.size w w' := by
  have HOK := Lib.hid (Pl.ok_sing (b := i) hk)
  have HI := Lib.hid (Pl.isEmpty_eq x.items)
  have HT := Lib.hid (Pl.noText_eq x.text)
  obtain ⟨A, cap, V, rfl, _, hrow, _, _⟩ := hv.out
  have h1 := hrow.le
  have h2 := hrow.len
  have hn0 := hxw.n0
  have hn1 := hxw.n1
  have hbt := hxw.b
  unfold litV
  rcases hk with hk | hk | hk
  all_goals rw [hk]
  all_goals
    go_enter Tryz.func76, Tryz.ntmps76
    go_wp2_with fail
    all_goals
      go_ret
      refine ⟨ret_bool ?_, (Below.refl _ _).alloc (Nat.le_refl _) _⟩
      rw [HOK.out]
      try rw [HI.out]
      try rw [HT.out]
      rw [Bool.eq_iff_iff]
      simp_all
      try (intros; omega)
set_option maxRecDepth 100000 in
set_option maxHeartbeats 2000000 in
theorem rlit_small {B : Nat} {v : Value} (x : Pl.Lit) (i : Bool) (w : World) (hv : LitsAt B w x.items v) (hxw : Pl.LitW x) (hk : x.kind = 4) :
    Calls Tryz.prog 76 #[litV x v, .bool i] w fun e w' => e = .returned (.bool (Pl.litOk i x)) ∧ Below w.heap.size w w' := by
  have HOK := Lib.hid (Pl.ok_small (b := i) hk)
  have HI := Lib.hid (Pl.isEmpty_eq x.items)
  have HT := Lib.hid (Pl.noText_eq x.text)
  obtain ⟨A, cap, V, rfl, _, hrow, _, _⟩ := hv.out
  have h1 := hrow.le
  have h2 := hrow.len
  have hn0 := hxw.n0
  have hn1 := hxw.n1
  have hbt := hxw.b
  unfold litV
  rw [hk]
  all_goals
    go_enter Tryz.func76, Tryz.ntmps76
    go_wp2_with fail
    all_goals
      go_ret
      refine ⟨ret_bool ?_, (Below.refl _ _).alloc (Nat.le_refl _) _⟩
      rw [HOK.out]
      try rw [HI.out]
      try rw [HT.out]
      rw [Bool.eq_iff_iff]
      simp_all
      try (intros; omega)
set_option maxRecDepth 100000 in
set_option maxHeartbeats 2000000 in
theorem rlit_float {B : Nat} {v : Value} (x : Pl.Lit) (i : Bool) (w : World) (hv : LitsAt B w x.items v) (hxw : Pl.LitW x) (hk : x.kind = 6) :
    Calls Tryz.prog 76 #[litV x v, .bool i] w fun e w' => e = .returned (.bool (Pl.litOk i x)) ∧ Below w.heap.size w w' := by
  have HOK := Lib.hid (Pl.ok_float (b := i) hk)
  have HI := Lib.hid (Pl.isEmpty_eq x.items)
  have HT := Lib.hid (Pl.noText_eq x.text)
  obtain ⟨A, cap, V, rfl, _, hrow, _, _⟩ := hv.out
  have h1 := hrow.le
  have h2 := hrow.len
  have hn0 := hxw.n0
  have hn1 := hxw.n1
  have hbt := hxw.b
  have hex := bits_exu x.bits hbt
  obtain ⟨ex, hexx⟩ : ∃ ex : Nat, x.bits / 4503599627370496 % 2048 = ex := ⟨_, rfl⟩
  have HEX := Lib.hid hexx
  rw [hexx] at hex
  clear hexx
  unfold litV
  rw [hk]
  all_goals
    go_enter Tryz.func76, Tryz.ntmps76
    go_wp2_with fail
    all_goals
      go_ret
      refine ⟨ret_bool ?_, (Below.refl _ _).alloc (Nat.le_refl _) _⟩
      rw [HOK.out]
      rw [HEX.out]
      try rw [HI.out]
      try rw [HT.out]
      rw [Bool.eq_iff_iff]
      simp_all
      try (intros; omega)
set_option maxRecDepth 100000 in
set_option maxHeartbeats 2000000 in
theorem rlit_char {B : Nat} {v : Value} (x : Pl.Lit) (i : Bool) (w : World) (hv : LitsAt B w x.items v) (hxw : Pl.LitW x) (hk : x.kind = 7) :
    Calls Tryz.prog 76 #[litV x v, .bool i] w fun e w' => e = .returned (.bool (Pl.litOk i x)) ∧ Below w.heap.size w w' := by
  have HOK := Lib.hid (Pl.ok_char (b := i) hk)
  have HI := Lib.hid (Pl.isEmpty_eq x.items)
  have HT := Lib.hid (Pl.noText_eq x.text)
  obtain ⟨A, cap, V, rfl, _, hrow, _, _⟩ := hv.out
  have h1 := hrow.le
  have h2 := hrow.len
  have hn0 := hxw.n0
  have hn1 := hxw.n1
  have hbt := hxw.b
  unfold litV
  rw [hk]
  all_goals
    go_enter Tryz.func76, Tryz.ntmps76
    go_wp2_with fail
    all_goals
      go_ret
      refine ⟨ret_bool ?_, (Below.refl _ _).alloc (Nat.le_refl _) _⟩
      rw [HOK.out]
      try rw [HI.out]
      try rw [HT.out]
      rw [Bool.eq_iff_iff]
      simp_all
      try (intros; omega)
set_option maxRecDepth 100000 in
set_option maxHeartbeats 2000000 in
theorem rlit_text {B : Nat} {v : Value} (x : Pl.Lit) (i : Bool) (w : World) (hv : LitsAt B w x.items v) (hxw : Pl.LitW x) (hk : x.kind = 8 ∨ x.kind = 9 ∨ x.kind = 11) :
    Calls Tryz.prog 76 #[litV x v, .bool i] w fun e w' => e = .returned (.bool (Pl.litOk i x)) ∧ Below w.heap.size w w' := by
  have HOK := Lib.hid (Pl.ok_text (b := i) hk)
  have HI := Lib.hid (Pl.isEmpty_eq x.items)
  have HT := Lib.hid (Pl.noText_eq x.text)
  obtain ⟨A, cap, V, rfl, _, hrow, _, _⟩ := hv.out
  have h1 := hrow.le
  have h2 := hrow.len
  have hn0 := hxw.n0
  have hn1 := hxw.n1
  have hbt := hxw.b
  unfold litV
  rcases hk with hk | hk | hk
  all_goals rw [hk]
  all_goals
    go_enter Tryz.func76, Tryz.ntmps76
    go_wp2_with fail
    all_goals
      go_ret
      refine ⟨ret_bool ?_, (Below.refl _ _).alloc (Nat.le_refl _) _⟩
      rw [HOK.out]
      try rw [HI.out]
      try rw [HT.out]
      rw [Bool.eq_iff_iff]
      simp_all
      try (intros; omega)
set_option maxRecDepth 100000 in
set_option maxHeartbeats 2000000 in
theorem rlit_none (x : Pl.Lit) (v : Value) (i : Bool) (w : World) (hk : x.kind = 0 ∨ 12 ≤ x.kind) :
    Calls Tryz.prog 76 #[litV x v, .bool i] w fun e w' => e = .returned (.bool (Pl.litOk i x)) ∧ Below w.heap.size w w' := by
  have HOK := Lib.hid (Pl.ok_none (b := i) hk)
  have e1 : ((x.kind : Int) == 1) = false := by simp; omega
  have e2 : ((x.kind : Int) == 2) = false := by simp; omega
  have e3 : ((x.kind : Int) == 3) = false := by simp; omega
  have e4 : ((x.kind : Int) == 4) = false := by simp; omega
  have e5 : ((x.kind : Int) == 5) = false := by simp; omega
  have e6 : ((x.kind : Int) == 6) = false := by simp; omega
  have e7 : ((x.kind : Int) == 7) = false := by simp; omega
  have e8 : ((x.kind : Int) == 8) = false := by simp; omega
  have e9 : ((x.kind : Int) == 9) = false := by simp; omega
  have e10 : ((x.kind : Int) == 10) = false := by simp; omega
  have e11 : ((x.kind : Int) == 11) = false := by simp; omega
  clear hk
  unfold litV
  go_enter Tryz.func76, Tryz.ntmps76
  go_wp2_with fail
  go_ret
  exact ⟨ret_bool (by rw [HOK.out]), (Below.refl _ _).alloc (Nat.le_refl _) _⟩
end Go.Proofs.YtoklnpoacckbfaaGreatDoor
namespace Go.Proofs.YtoklnpoacckbfaaGreatDoor
open Go.RowKit
namespace Pl
theorem large_none {l : List UInt8} (h : integer l = none) : largeText l = false := by unfold largeText; rw [h]; rfl
theorem large_small {l : List UInt8} {n : Int} (h : integer l = some (.small n)) : largeText l = false := by unfold largeText; rw [h]; rfl
theorem large_large {l t : List UInt8} (h : integer l = some (.large t)) : largeText l = decide (t = l) := by
  unfold largeText; rw [h, decide_eq_decide]
  exact ⟨fun e => by injection e with e; injection e, fun e => by rw [e]⟩
theorem all_take {l : List Lit} {k : Nat} {x : Lit} (hx : l[k]? = some x) (f : Lit → Bool) : (l.take (k + 1)).all f = ((l.take k).all f && f x) := by
  rw [List.take_add_one, hx, List.all_append]; simp
end Pl
set_option maxRecDepth 100000 in
set_option maxHeartbeats 2000000 in
theorem rlit_large {B : Nat} {v : Value} (x : Pl.Lit) (i : Bool) (w : World) (hv : LitsAt B w x.items v) (hxw : Pl.LitW x) (hk : x.kind = 5) :
    Calls Tryz.prog 76 #[litV x v, .bool i] w fun e w' => e = .returned (.bool (Pl.litOk i x)) ∧ Below w.heap.size w w' := by
  have HOK := Lib.hid (Pl.ok_large (b := i) hk)
  have HI := Lib.hid (Pl.isEmpty_eq x.items)
  have hts := hxw.t
  obtain ⟨A, cap, V, rfl, _, hrow, _, _⟩ := hv.out
  have h1 := hrow.le
  have h2 := hrow.len
  unfold litV
  rw [hk]
  clear hk
  have RI := Lib.hid (fun w => rinteger_any x.text w hts)
  cases hn : Pl.integer x.text.data.toList with
  | none =>
    rw [hn] at RI
    have HL := Lib.hid (Pl.large_none hn)
    clear hn
    go_enter Tryz.func76, Tryz.ntmps76
    go_wp2_with fail
    refine (RI.out _).mono ?_
    rintro e w2 ⟨rfl, hb2⟩
    have c0 : w2.cell? ⟨w.heap.size, 0, none⟩ = some (.int .u8 5) := boxCells (hb2.mono (by simp)) rfl
    have c1 : w2.cell? ⟨w.heap.size, 1, none⟩ = some (.int .i64 x.n) := boxCells (hb2.mono (by simp)) rfl
    have c2 : w2.cell? ⟨w.heap.size, 2, none⟩ = some (.int .u64 x.bits) := boxCells (hb2.mono (by simp)) rfl
    have c3 : w2.cell? ⟨w.heap.size, 3, none⟩ = some (.string x.text) := boxCells (hb2.mono (by simp)) rfl
    have c4 : w2.cell? ⟨w.heap.size, 4, none⟩ = some (.slice A x.items.length cap) := boxCells (hb2.mono (by simp)) rfl
    have f3 : w2.frozen? ⟨w.heap.size, 3, none⟩ = false := by rw [hb2.frozen (p := ⟨w.heap.size, 3, none⟩) (by simp)]; simp [go_sem]
    have hz := hb2.size
    simp only [World.size_alloc] at hz
    have HB := Lib.hid (alloc_then (hb2.mono (by simp)))
    have hlt : w.heap.size < w2.heap.size := by omega
    clear hb2
    simp only [Pl.intV, zeroLit]
    go_wp2_with fail
    go_ret
    refine ⟨ret_bool (by rw [HOK.out, HL.out]; rfl), ?_⟩
    first
      | exact (HB.out.setCell (Nat.le_refl _) _).alloc (by simp; omega) _
      | exact (HB.out.alloc (by omega) _).setCell (Nat.le_refl _) _
  | some nm =>
    rw [hn] at RI
    cases nm with
    | small n =>
      have HL := Lib.hid (Pl.large_small hn)
      clear hn
      go_enter Tryz.func76, Tryz.ntmps76
      go_wp2_with fail
      refine (RI.out _).mono ?_
      rintro e w2 ⟨rfl, hb2⟩
      have c0 : w2.cell? ⟨w.heap.size, 0, none⟩ = some (.int .u8 5) := boxCells (hb2.mono (by simp)) rfl
      have c1 : w2.cell? ⟨w.heap.size, 1, none⟩ = some (.int .i64 x.n) := boxCells (hb2.mono (by simp)) rfl
      have c2 : w2.cell? ⟨w.heap.size, 2, none⟩ = some (.int .u64 x.bits) := boxCells (hb2.mono (by simp)) rfl
      have c3 : w2.cell? ⟨w.heap.size, 3, none⟩ = some (.string x.text) := boxCells (hb2.mono (by simp)) rfl
      have c4 : w2.cell? ⟨w.heap.size, 4, none⟩ = some (.slice A x.items.length cap) := boxCells (hb2.mono (by simp)) rfl
      have f3 : w2.frozen? ⟨w.heap.size, 3, none⟩ = false := by rw [hb2.frozen (p := ⟨w.heap.size, 3, none⟩) (by simp)]; simp [go_sem]
      have hz := hb2.size
      simp only [World.size_alloc] at hz
      have HB := Lib.hid (alloc_then (hb2.mono (by simp)))
      have hlt : w.heap.size < w2.heap.size := by omega
      clear hb2
      simp only [Pl.intV, Pl.numV]
      go_wp2_with fail
      go_ret
      refine ⟨ret_bool (by rw [HOK.out, HL.out]; rfl), ?_⟩
      first
        | exact (HB.out.setCell (Nat.le_refl _) _).alloc (by simp; omega) _
        | exact (HB.out.alloc (by omega) _).setCell (Nat.le_refl _) _
    | large t =>
      have HL := Lib.hid (Pl.large_large hn)
      have ET := Lib.hid (ByteArray.toList_eq (⟨t.toArray⟩ : ByteArray))
      have EX := Lib.hid (ByteArray.toList_eq x.text)
      clear hn
      obtain ⟨tb, htb⟩ : ∃ tb : ByteArray, (⟨t.toArray⟩ : ByteArray) = tb := ⟨_, rfl⟩
      have HTB := Lib.hid (show tb.toList = t by rw [← htb, ET.out])
      by_cases he : t = x.text.data.toList
      · have hI : (tb.toList == x.text.toList) = true := by rw [HTB.out, EX.out, he]; simp
        have HLT := Lib.hid (HL.out.trans (decide_eq_true he))
        clear he
        go_enter Tryz.func76, Tryz.ntmps76
        go_wp2_with fail
        refine (RI.out _).mono ?_
        rintro e w2 ⟨rfl, hb2⟩
        have c0 : w2.cell? ⟨w.heap.size, 0, none⟩ = some (.int .u8 5) := boxCells (hb2.mono (by simp)) rfl
        have c1 : w2.cell? ⟨w.heap.size, 1, none⟩ = some (.int .i64 x.n) := boxCells (hb2.mono (by simp)) rfl
        have c2 : w2.cell? ⟨w.heap.size, 2, none⟩ = some (.int .u64 x.bits) := boxCells (hb2.mono (by simp)) rfl
        have c3 : w2.cell? ⟨w.heap.size, 3, none⟩ = some (.string x.text) := boxCells (hb2.mono (by simp)) rfl
        have c4 : w2.cell? ⟨w.heap.size, 4, none⟩ = some (.slice A x.items.length cap) := boxCells (hb2.mono (by simp)) rfl
        have f3 : w2.frozen? ⟨w.heap.size, 3, none⟩ = false := by rw [hb2.frozen (p := ⟨w.heap.size, 3, none⟩) (by simp)]; simp [go_sem]
        have hz := hb2.size
        simp only [World.size_alloc] at hz
        have HB := Lib.hid (alloc_then (hb2.mono (by simp)))
        have hlt : w.heap.size < w2.heap.size := by omega
        clear hb2
        simp only [Pl.intV, Pl.numV]
        rw [htb]
        go_wp2_with fail
        all_goals
          go_ret
          refine ⟨ret_bool ?_, ?_⟩
          · rw [HOK.out, HLT.out]
            try rw [HI.out]
            rw [Bool.eq_iff_iff]
            simp_all
          · first
              | exact (HB.out.setCell (Nat.le_refl _) _).alloc (by simp; omega) _
              | exact (HB.out.alloc (by omega) _).setCell (Nat.le_refl _) _
      · have hI : (tb.toList == x.text.toList) = false := by rw [HTB.out, EX.out]; simpa using he
        have HLT := Lib.hid (HL.out.trans (decide_eq_false he))
        clear he
        go_enter Tryz.func76, Tryz.ntmps76
        go_wp2_with fail
        refine (RI.out _).mono ?_
        rintro e w2 ⟨rfl, hb2⟩
        have c0 : w2.cell? ⟨w.heap.size, 0, none⟩ = some (.int .u8 5) := boxCells (hb2.mono (by simp)) rfl
        have c1 : w2.cell? ⟨w.heap.size, 1, none⟩ = some (.int .i64 x.n) := boxCells (hb2.mono (by simp)) rfl
        have c2 : w2.cell? ⟨w.heap.size, 2, none⟩ = some (.int .u64 x.bits) := boxCells (hb2.mono (by simp)) rfl
        have c3 : w2.cell? ⟨w.heap.size, 3, none⟩ = some (.string x.text) := boxCells (hb2.mono (by simp)) rfl
        have c4 : w2.cell? ⟨w.heap.size, 4, none⟩ = some (.slice A x.items.length cap) := boxCells (hb2.mono (by simp)) rfl
        have f3 : w2.frozen? ⟨w.heap.size, 3, none⟩ = false := by rw [hb2.frozen (p := ⟨w.heap.size, 3, none⟩) (by simp)]; simp [go_sem]
        have hz := hb2.size
        simp only [World.size_alloc] at hz
        have HB := Lib.hid (alloc_then (hb2.mono (by simp)))
        have hlt : w.heap.size < w2.heap.size := by omega
        clear hb2
        simp only [Pl.intV, Pl.numV]
        rw [htb]
        go_wp2_with fail
        go_ret
        refine ⟨ret_bool (by rw [HOK.out, HLT.out]; rfl), ?_⟩
        first
          | exact (HB.out.setCell (Nat.le_refl _) _).alloc (by simp; omega) _
          | exact (HB.out.alloc (by omega) _).setCell (Nat.le_refl _) _
end Go.Proofs.YtoklnpoacckbfaaGreatDoor
namespace Go.Proofs.YtoklnpoacckbfaaGreatDoor
open Go.RowKit
namespace Pl
theorem all_get {l : List Lit} {k : Nat} {x : Lit} (hx : l[k]? = some x) (f : Lit → Bool) (h : f x = false) : l.all f = false := by
  rw [List.all_eq_false]; exact ⟨x, List.mem_of_getElem? hx, by rw [h]; simp⟩
end Pl
set_option maxRecDepth 100000 in
set_option maxHeartbeats 2000000 in
theorem rlit_any {B : Nat} {w0 : World} {l : List Pl.Lit} {v : Value} (h : LitsAt B w0 l v) (hB0 : B ≤ w0.heap.size) : ∀ (x : Pl.Lit) (i : Bool) (w : World), x.items = l → Pl.LitW x → Below B w0 w →
    Calls Tryz.prog 76 #[litV x v, .bool i] w fun e w' => e = .returned (.bool (Pl.litOk i x)) ∧ Below w.heap.size w w' := by
  have h' := h
  induction h with
  | mk A l cap V hB hrow hw hr ih =>
    intro x i w hx hxw hbel
    have hlits := h'.keep hbel
    rw [← hx] at hlits
    have hs0 := hbel.size
    by_cases c0 : x.kind = 0 ∨ 12 ≤ x.kind
    · exact rlit_none x _ i w c0
    by_cases c1 : x.kind = 1 ∨ x.kind = 2 ∨ x.kind = 3
    · have := rlit_sing x i w hlits hxw c1; rw [hx] at this; exact this
    by_cases c2 : x.kind = 4
    · have := rlit_small x i w hlits hxw c2; rw [hx] at this; exact this
    by_cases c3 : x.kind = 5
    · have := rlit_large x i w hlits hxw c3; rw [hx] at this; exact this
    by_cases c4 : x.kind = 6
    · have := rlit_float x i w hlits hxw c4; rw [hx] at this; exact this
    by_cases c5 : x.kind = 7
    · have := rlit_char x i w hlits hxw c5; rw [hx] at this; exact this
    by_cases c6 : x.kind = 8 ∨ x.kind = 9 ∨ x.kind = 11
    · have := rlit_text x i w hlits hxw c6; rw [hx] at this; exact this
    have hk : x.kind = 10 := by omega
    clear c0 c1 c2 c3 c4 c5 c6 hlits
    subst hx
    have HOK := Lib.hid ((Pl.ok_array (b := i) hk).trans (by rw [Pl.litsOk_iff]))
    have HT := Lib.hid (Pl.noText_eq x.text)
    have h1 := hrow.le
    have h2 := hrow.len
    unfold litV
    rw [hk, show ((10 : Nat) : Int) = 10 from rfl]
    clear hk
    go_enter Tryz.func76, Tryz.ntmps76
    go_wp2_with fail
    go_loopw [5, 8] (fun ov iv wr => ∃ k : Nat, ov = .bool ((x.items.take k).all (Pl.litOk true)) ∧ iv = .int .i64 k ∧ k ≤ x.items.length ∧ Below (w.heap.size + 1) (w.alloc (.cells #[.int .u8 10, .int .i64 x.n, .int .u64 x.bits, .string x.text, .slice A x.items.length cap] 37)) wr) (fun _ iv _ => x.items.length - (intOf iv).toNat)
    case atStart => exact ⟨0, rfl, rfl, Nat.zero_le _, Below.refl _ _⟩
    case round =>
      obtain ⟨k, rfl, rfl, hk, hb⟩ := hrel
      have c1 : wr.cell? ⟨w.heap.size, 1, none⟩ = some (.int .i64 x.n) := boxCells hb rfl
      have c2 : wr.cell? ⟨w.heap.size, 2, none⟩ = some (.int .u64 x.bits) := boxCells hb rfl
      have c3 : wr.cell? ⟨w.heap.size, 3, none⟩ = some (.string x.text) := boxCells hb rfl
      have c4 : wr.cell? ⟨w.heap.size, 4, none⟩ = some (.slice A x.items.length cap) := boxCells hb rfl
      have f4 : wr.frozen? ⟨w.heap.size, 4, none⟩ = false := by rw [hb.frozen (p := ⟨w.heap.size, 4, none⟩) (by simp)]; simp [go_sem]
      have hz := hb.size
      simp only [World.size_alloc] at hz
      have hbw := alloc_then hb
      have hlt0 : w.heap.size < wr.heap.size := by omega
      cases hok : (x.items.take k).all (Pl.litOk true) with
      | false =>
        have HF := Lib.hid (show x.items.all (Pl.litOk true) = false by
          rw [List.all_eq_false] at hok ⊢
          obtain ⟨y, hy, hf⟩ := hok
          exact ⟨y, List.mem_of_mem_take hy, hf⟩)
        clear hok
        by_cases hlt : k < x.items.length
        all_goals
          go_wp2_with fail
          go_ret
          exact ⟨ret_bool (by rw [HOK.out, HF.out]; rfl), hbw.setCell (Nat.le_refl _) _⟩
      | true =>
        have HK := Lib.hid hok
        clear hok
        by_cases hlt : k < x.items.length
        · obtain ⟨b, o, rfl, hbb⟩ := hrow.some_of hlt
          obtain ⟨y, hy⟩ : ∃ y, x.items[k]? = some y := ⟨_, List.getElem?_eq_getElem hlt⟩
          have hB2 : Below B w0 wr := hbel.trans (hbw.mono (by omega))
          obtain ⟨e0, e1, e2, e3, e4⟩ := (hrow.keep hB2 hB).lit hy
          have hyw := hw y (List.mem_of_getElem? hy)
          have IH := Lib.hid (ih k y hy (hr k y hy) y true wr rfl hyw hB2)
          have HS := Lib.hid (show (x.items.take (k + 1)).all (Pl.litOk true) = Pl.litOk true y by rw [Pl.all_take hy, HK.out, Bool.true_and])
          clear hy
          go_wp2_with fail
          refine IH.out.mono ?_
          rintro e w3 ⟨rfl, hb3⟩
          go_wp2_with fail
          go_roundw
          case rel => exact ⟨k + 1, by rw [HS.out], by go_num, by omega, hb.trans (hb3.mono (by omega))⟩
          case measure => simp [intOf]; omega
        · have HA := Lib.hid (show x.items.all (Pl.litOk true) = true by
            have h := HK.out
            rwa [List.take_of_length_le (by omega)] at h)
          go_wp2_with fail
          all_goals
            go_ret
            refine ⟨ret_bool ?_, hbw.setCell (Nat.le_refl _) _⟩
            rw [HOK.out, HA.out, HT.out]
            rw [Bool.eq_iff_iff]
            simp_all
end Go.Proofs.YtoklnpoacckbfaaGreatDoor
