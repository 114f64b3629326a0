/- print.Literal: small integers below 100, symbols that are selectors. print.Node, print.Literal, where a literal's text is put at once. -/
import Derived.Test.YtoklnpoacckbfaaGreatDoorKabr
import Derived.Test.YtoklnpoacckbfaaGreatDoorKabb
import Derived.Test.YtoklnpoacckbfaaGreatDoorKabe
namespace Go.Proofs.YtoklnpoacckbfaaGreatDoor
open Go Go.RowKit
/-- a literal's text, where it is put at once -/
def PutsAs (x : Pl.Lit) (s : List UInt8) : Prop := ∀ {B b : Nat} {l : List UInt8} {w : World} {v : Value}, LitsAt w.heap.size w x.items v → Lib.IsBuilder 130 5 B b (Lib.byteCells l) w → B ≤ w.heap.size → l.length ≤ 1000 →
  Calls Tryz.prog 73 #[.pointer (some ⟨b, 0, none⟩), litV x v] w fun e w' => e = .returned (.tuple #[]) ∧ Lib.IsBuilder 130 5 B b (Lib.byteCells (l ++ s)) w' ∧ Below B w w'
set_option maxHeartbeats 2000000 in
set_option maxRecDepth 100000 in
theorem puts_small (n : Nat) (hn : n < 100) : PutsAs (.mk 4 n 0 ⟨#[]⟩ []) (Lib.decDigits n) := by
  intro B b l w v hv h hBw hl
  have H0 := Lib.hid h
  have hd2 := dec_len hn
  have hb := isBuilder_lt h
  obtain ⟨A, cap, V, rfl, _⟩ := hv.out
  clear h hv
  show Calls Tryz.prog 73 #[.pointer (some ⟨b, 0, none⟩), .agg #[.int .u8 4, .int .i64 (n : Int), .int .u64 0, .string ⟨#[]⟩, .slice A 0 cap]] w _
  have HB := Lib.hid (isBuilder_alloc (isBuilder_alloc H0.out (.cells #[.pointer (some ⟨b, 0, none⟩)] 129)) (.cells #[.int .u8 4, .int .i64 (n : Int), .int .u64 0, .string ⟨#[]⟩, .slice A 0 cap] 37))
  go_enter Tryz.func73, Tryz.ntmps73
  go_wp2_with fail
  have HBW := Lib.hid (show Below B w ((w.alloc (.cells #[.pointer (some ⟨b, 0, none⟩)] 129)).alloc (.cells #[.int .u8 4, .int .i64 (n : Int), .int .u64 0, .string ⟨#[]⟩, .slice A 0 cap] 37)) from ((Below.refl B w).alloc hBw _).alloc (by simp; omega) _)
  have p0 : ((w.alloc (.cells #[.pointer (some ⟨b, 0, none⟩)] 129)).alloc (.cells #[.int .u8 4, .int .i64 (n : Int), .int .u64 0, .string ⟨#[]⟩, .slice A 0 cap] 37)).cell? ⟨w.heap.size, 0, none⟩ = some (.pointer (some ⟨b, 0, none⟩)) := by simp [go_sem]
  have x1 : ((w.alloc (.cells #[.pointer (some ⟨b, 0, none⟩)] 129)).alloc (.cells #[.int .u8 4, .int .i64 (n : Int), .int .u64 0, .string ⟨#[]⟩, .slice A 0 cap] 37)).cell? ⟨w.heap.size + 1, 1, none⟩ = some (.int .i64 (n : Int)) := by simp [go_sem]
  have hz : w.heap.size + 1 < ((w.alloc (.cells #[.pointer (some ⟨b, 0, none⟩)] 129)).alloc (.cells #[.int .u8 4, .int .i64 (n : Int), .int .u64 0, .string ⟨#[]⟩, .slice A 0 cap] 37)).heap.size := by simp
  have hzB : B ≤ ((w.alloc (.cells #[.pointer (some ⟨b, 0, none⟩)] 129)).alloc (.cells #[.int .u8 4, .int .i64 (n : Int), .int .u64 0, .string ⟨#[]⟩, .slice A 0 cap] 37)).heap.size := by omega
  generalize ((w.alloc (.cells #[.pointer (some ⟨b, 0, none⟩)] 129)).alloc (.cells #[.int .u8 4, .int .i64 (n : Int), .int .u64 0, .string ⟨#[]⟩, .slice A 0 cap] 37)) = w1 at HB HBW p0 x1 hz hzB ⊢
  have hne1 : w1.heap.size ≠ b := by omega
  have hpn : ¬ w.heap.size = w1.heap.size := by omega
  have hpl : w.heap.size < w1.heap.size := by omega
  have hxn : ¬ w.heap.size + 1 = w1.heap.size := by omega
  have hzA : B ≤ (w1.alloc (.cells #[.string ⟨(Lib.decDigits n).toArray⟩] 9)).drew.heap.size := by show B ≤ (w1.alloc (.cells #[.string ⟨(Lib.decDigits n).toArray⟩] 9)).heap.size; simp; omega
  have HB4 := Lib.hid (show Below B w (w1.alloc (.cells #[.string ⟨(Lib.decDigits n).toArray⟩] 9)).drew from (HBW.out.alloc hzB _).drew)
  have hds : (⟨(Lib.decDigits n).toArray⟩ : ByteArray).size = (Lib.decDigits n).length := rfl
  go_region_with (first
    | (go_at_call 108; refine (Tryz.strconv_FormatInt_10_small n hn _).mono ?_; rintro e w2 ⟨rfl, rfl⟩)
    | (go_at_call 106; refine (pput_any (B := B) (b := b) (l := l) (ss := [⟨(Lib.decDigits n).toArray⟩]) (isBuilder_drew (isBuilder_alloc HB.out _)) (heap_alloc_new w1 _) hne1 (by simp [texts]; omega) (by simp) hzA 1 rfl).mono ?_; rintro e w3 ⟨rfl, hB3, hb3, hr3⟩; have HB3 := Lib.hid hB3; have HW3 := Lib.hid hb3; clear hB3 hb3 hr3))
  all_goals
    go_wp2_with fail
    go_end0
    exact ⟨rfl, by simpa [texts] using HB3.out, HB4.out.trans HW3.out⟩
set_option maxHeartbeats 2000000 in
set_option maxRecDepth 100000 in
theorem puts_symbol (s : ByteArray) (hs : s.size ≤ 1000) (ha : 0 ≤ Pl.arity s.data.toList) : PutsAs (.mk 9 0 0 s []) (35 :: s.data.toList) := by
  intro B b l w v hv h hBw hl
  have H0 := Lib.hid h
  have hb := isBuilder_lt h
  obtain ⟨A, cap, V, rfl, _⟩ := hv.out
  clear h hv
  show Calls Tryz.prog 73 #[.pointer (some ⟨b, 0, none⟩), .agg #[.int .u8 9, .int .i64 0, .int .u64 0, .string s, .slice A 0 cap]] w _
  have HB := Lib.hid (isBuilder_alloc (isBuilder_alloc H0.out (.cells #[.pointer (some ⟨b, 0, none⟩)] 129)) (.cells #[.int .u8 9, .int .i64 0, .int .u64 0, .string s, .slice A 0 cap] 37))
  have HBW := Lib.hid (show Below B w ((w.alloc (.cells #[.pointer (some ⟨b, 0, none⟩)] 129)).alloc (.cells #[.int .u8 9, .int .i64 0, .int .u64 0, .string s, .slice A 0 cap] 37)) from ((Below.refl B w).alloc hBw _).alloc (by simp; omega) _)
  have HP := Lib.hid (show ((w.alloc (.cells #[.pointer (some ⟨b, 0, none⟩)] 129)).alloc (.cells #[.int .u8 9, .int .i64 0, .int .u64 0, .string s, .slice A 0 cap] 37)).heap[w.heap.size]? = some (.cells #[.pointer (some ⟨b, 0, none⟩)] 129 (0, 0)) from by rw [heap_alloc_old _ _ (by simp)]; exact heap_alloc_new w _)
  have HX := Lib.hid (show ((w.alloc (.cells #[.pointer (some ⟨b, 0, none⟩)] 129)).alloc (.cells #[.int .u8 9, .int .i64 0, .int .u64 0, .string s, .slice A 0 cap] 37)).heap[w.heap.size + 1]? = some (.cells #[.int .u8 9, .int .i64 0, .int .u64 0, .string s, .slice A 0 cap] 37 (0, 0)) from by have := heap_alloc_new (w.alloc (.cells #[.pointer (some ⟨b, 0, none⟩)] 129)) (.cells #[.int .u8 9, .int .i64 0, .int .u64 0, .string s, .slice A 0 cap] 37); rw [World.size_alloc] at this; exact this)
  have hz : w.heap.size + 1 < ((w.alloc (.cells #[.pointer (some ⟨b, 0, none⟩)] 129)).alloc (.cells #[.int .u8 9, .int .i64 0, .int .u64 0, .string s, .slice A 0 cap] 37)).heap.size := by simp
  have hzB : B ≤ ((w.alloc (.cells #[.pointer (some ⟨b, 0, none⟩)] 129)).alloc (.cells #[.int .u8 9, .int .i64 0, .int .u64 0, .string s, .slice A 0 cap] 37)).heap.size := by omega
  have hsl : s.data.toList.length = s.size := rfl
  go_enter Tryz.func73, Tryz.ntmps73
  go_upto_region 19 with (fail)
  have p0 : ((w.alloc (.cells #[.pointer (some ⟨b, 0, none⟩)] 129)).alloc (.cells #[.int .u8 9, .int .i64 0, .int .u64 0, .string s, .slice A 0 cap] 37)).cell? ⟨w.heap.size, 0, none⟩ = some (.pointer (some ⟨b, 0, none⟩)) := by simp [go_sem]
  generalize ((w.alloc (.cells #[.pointer (some ⟨b, 0, none⟩)] 129)).alloc (.cells #[.int .u8 9, .int .i64 0, .int .u64 0, .string s, .slice A 0 cap] 37)) = w1 at HB HBW HP HX p0 hz hzB ⊢
  go_wp2_with (first
    | (go_at_call 106; refine (pput_new HB.out [⟨#[35]⟩] _ rfl (by simp [texts]; omega) (by simp) hzB 1 rfl).mono ?_; rintro e w3 ⟨rfl, hB3, hb3, hr3⟩
       have HB3 := Lib.hid hB3
       have HW3 := Lib.hid hb3
       have hp3 := hr3.row HP.out (by decide) (by omega)
       have hx3 := hr3.row HX.out (by decide) (by omega)
       have p03 : w3.cell? ⟨w.heap.size, 0, none⟩ = some (.pointer (some ⟨b, 0, none⟩)) := Lib.cell_of_heap hp3 0
       have x3 : w3.cell? ⟨w.heap.size + 1, 3, none⟩ = some (.string s) := Lib.cell_of_heap hx3 3
       have hl3 := heap_lt hx3
       have HB9 := HB
       clear hB3 hb3 hr3 hp3 hx3 HB))
  refine (arity_any s _ (by omega)).mono ?_
  rintro e w5 ⟨rfl, hb5⟩
  have p05 : w5.cell? ⟨w.heap.size, 0, none⟩ = some (.pointer (some ⟨b, 0, none⟩)) := (hb5.cell (p := ⟨w.heap.size, 0, none⟩) (by show w.heap.size < w3.heap.size; omega)).trans p03
  have x5 : w5.cell? ⟨w.heap.size + 1, 3, none⟩ = some (.string s) := (hb5.cell (p := ⟨w.heap.size + 1, 3, none⟩) hl3).trans x3
  have hl5 := hb5.size
  have HB5 := Lib.hid (isBuilder_keep HB3.out hb5)
  have HW5 := Lib.hid (HW3.out.trans (hb5.mono (by omega)))
  have hl5a : w.heap.size + 1 < w5.heap.size := by omega
  clear hb5
  go_wp2_with (go_at_call 106; refine (pput_new HB5.out [s] _ rfl (by simp [texts]; omega) (by simp) (by omega) 1 rfl).mono ?_; rintro e w6 ⟨rfl, hB6, hb6, hr6⟩; have HB6 := Lib.hid hB6; have HW6 := Lib.hid hb6; clear hB6 hb6 hr6)
  refine bodyPost_ret (results_none rfl _ _ _) rfl ?_
  exact ⟨rfl, by simpa [texts] using HB6.out, HBW.out.trans (HW5.out.trans HW6.out)⟩
end Go.Proofs.YtoklnpoacckbfaaGreatDoor
namespace Go.Proofs.YtoklnpoacckbfaaGreatDoor
open Go Go.RowKit
theorem pdone_any {B b : Nat} {l : List UInt8} {w : World} (h : Lib.IsBuilder 130 5 B b (Lib.byteCells l) w) (h0 : l ≠ []) (hl : l.length ≤ 16384) :
    Calls Tryz.prog 74 #[.pointer (some ⟨b, 0, none⟩)] w fun e w' => e = .returned (.tuple #[.string ⟨l.toArray⟩, .int .i64 0]) ∧ Below B w w' := by
  have H0 := Lib.hid h
  have hb := isBuilder_lt h
  have hlI : ((Lib.byteCells l).length : Int) ≤ 16384 := by rw [Lib.byteCells_length]; omega
  obtain ⟨p, hp⟩ : ∃ p, w.cell? ⟨b, 0, none⟩ = some p := by
    rcases h with h' | h' <;> exact ⟨_, h'.cell0⟩
  clear h
  go_enter Tryz.func74, Tryz.ntmps74
  go_wp2_with (first
    | (go_at_call 115; refine (blen_any B b _ _ H0.out).mono ?_; rintro e w2 ⟨rfl, rfl⟩)
    | (go_at_call 40; refine (bstring_any B b l _ H0.out h0).mono ?_; rintro e w2 ⟨rfl, hb2⟩; have HB2 := Lib.hid hb2; clear hb2))
  go_ret2
  exact ⟨rfl, HB2.out⟩
set_option maxHeartbeats 2000000 in
set_option maxRecDepth 100000 in
theorem pnode_lit {x : Pl.Lit} {s : List UInt8} (hp : PutsAs x s) {B b : Nat} {l : List UInt8} {w : World} {v : Value} (hv : LitsAt w.heap.size w x.items v) (h : Lib.IsBuilder 130 5 B b (Lib.byteCells l) w) (hBw : B ≤ w.heap.size) (hl : l.length ≤ 1000) :
    Calls Tryz.prog 116 #[.pointer (some ⟨b, 0, none⟩), nodeV x v] w fun e w' => e = .returned (.tuple #[]) ∧ Lib.IsBuilder 130 5 B b (Lib.byteCells (l ++ s)) w' ∧ Below B w w' := by
  have HP := Lib.hid (fun (W : World) (hb : Below w.heap.size w W) => hp (B := B) (b := b) (l := l) (w := W) (v := v) ((hv.keep hb).up hb.size) (isBuilder_keep h hb) (Nat.le_trans hBw hb.size) hl)
  obtain ⟨A, cap, V, rfl, _⟩ := hv.out
  unfold litV at HP
  unfold nodeV
  clear hv h hp
  go_enter Tryz.func116, Tryz.ntmps116
  go_wp2_with fail
  have hba : Below w.heap.size w (w.alloc (.cells #[.int .u8 1, .string ⟨#[]⟩, .int .u8 x.kind, .int .i64 x.n, .int .u64 x.bits, .string x.text, .slice A x.items.length cap, .slice none 0 0, .slice none 0 0, .slice none 0 0, .int .i64 0] 110)) := (Below.refl _ _).alloc (Nat.le_refl _) _
  refine (HP.out _ hba).mono ?_
  rintro e w2 ⟨rfl, h2, hb2⟩
  have H2 := Lib.hid h2
  have HB2 := Lib.hid ((hba.mono hBw).trans hb2)
  clear h2 hb2 hba
  go_wp2_with fail
  go_end0
  exact ⟨rfl, H2.out, HB2.out⟩
set_option maxHeartbeats 2000000 in
set_option maxRecDepth 100000 in
theorem pNode_lit {x : Pl.Lit} {s : List UInt8} (hp : PutsAs x s) {w : World} {v : Value} (hv : LitsAt w.heap.size w x.items v) (hxw : Pl.LitW x) (he : ErrAt w) (hdp : Pl.litDeep x ≤ 262144) (hok : Pl.litErr x = 0) (hs0 : s ≠ []) (hs : s.length ≤ 16384) :
    Calls Tryz.prog 75 #[nodeV x v] w fun e w' => e = .returned (.tuple #[.string ⟨s.toArray⟩, .int .i64 0]) ∧ Below w.heap.size w w' := by
  have CK := Lib.hid (fun (W : World) (hb : Below w.heap.size w W) => checkNode_any (x := x) (v := v) hv (Nat.le_refl _) hxw W hb (he.keep hb he.1) he.1 hdp)
  have PN := Lib.hid (fun (W : World) (b : Nat) (hb : Below w.heap.size w W) (hB : Lib.IsBuilder 130 5 b b (Lib.byteCells []) W) (hbw : b ≤ W.heap.size) => pnode_lit hp (B := b) (b := b) (l := []) (w := W) (v := v) ((hv.keep hb).up hb.size) hB hbw (by simp))
  rw [hok] at CK
  obtain ⟨A, cap, V, rfl, _⟩ := hv.out
  unfold nodeV at CK PN ⊢
  clear hv he
  go_enter Tryz.func75, Tryz.ntmps75
  go_wp2_with (first
    | (go_at_call 58
       refine (CK.out _ ((Below.refl _ _).alloc (Nat.le_refl _) _)).mono ?_
       rintro e w2 ⟨rfl, hb2⟩
       have y0 : w2.cell? ⟨w.heap.size, 0, none⟩ = some (.int .u8 1) := boxCells (hb2.mono (by simp)) rfl
       have y1 : w2.cell? ⟨w.heap.size, 1, none⟩ = some (.string ⟨#[]⟩) := boxCells (hb2.mono (by simp)) rfl
       have y2 : w2.cell? ⟨w.heap.size, 2, none⟩ = some (.int .u8 x.kind) := boxCells (hb2.mono (by simp)) rfl
       have y3 : w2.cell? ⟨w.heap.size, 3, none⟩ = some (.int .i64 x.n) := boxCells (hb2.mono (by simp)) rfl
       have y4 : w2.cell? ⟨w.heap.size, 4, none⟩ = some (.int .u64 x.bits) := boxCells (hb2.mono (by simp)) rfl
       have y5 : w2.cell? ⟨w.heap.size, 5, none⟩ = some (.string x.text) := boxCells (hb2.mono (by simp)) rfl
       have y6 : w2.cell? ⟨w.heap.size, 6, none⟩ = some (.slice A x.items.length cap) := boxCells (hb2.mono (by simp)) rfl
       have y7 : w2.cell? ⟨w.heap.size, 7, none⟩ = some (.slice none 0 0) := boxCells (hb2.mono (by simp)) rfl
       have y8 : w2.cell? ⟨w.heap.size, 8, none⟩ = some (.slice none 0 0) := boxCells (hb2.mono (by simp)) rfl
       have y9 : w2.cell? ⟨w.heap.size, 9, none⟩ = some (.slice none 0 0) := boxCells (hb2.mono (by simp)) rfl
       have y10 : w2.cell? ⟨w.heap.size, 10, none⟩ = some (.int .i64 0) := boxCells (hb2.mono (by simp)) rfl
       have hl2 : w.heap.size < w2.heap.size := (by have := hb2.size; simp at this; omega)
       have hl2n : ¬ w.heap.size = w2.heap.size := (by omega)
       have HB2 := Lib.hid (show Below w.heap.size w (w2.alloc (.cells #[.pointer none, .slice none 0 0] 130)) from (alloc_then (hb2.mono (by simp))).alloc (by omega) _)
       clear hb2)
    | (go_at_call 116
       go_loud (refine (PN.out _ w2.heap.size HB2.out (by simpa [Lib.byteCells] using Lib.fresh_isBuilder 130 5 w2) (by simp)).mono ?_)
       rintro e w4 ⟨rfl, h4, hb4⟩
       have H4 := Lib.hid h4
       have HB4 := Lib.hid (HB2.out.trans (hb4.mono (by omega)))
       have hl4 := isBuilder_lt h4
       clear h4 hb4)
    | (go_at_call 74
       refine (pdone_any (by simpa using H4.out) hs0 hs).mono ?_
       rintro e w5 ⟨rfl, hb5⟩
       have HB5 := Lib.hid (HB4.out.trans (hb5.mono (by omega)))
       clear hb5))
  go_ret2
  exact ⟨rfl, HB5.out⟩
/-- what print.Literal answers for a literal -/
def PrintsAs (x : Pl.Lit) (s : List UInt8) : Prop := ∀ {w : World} {v : Value}, LitsAt w.heap.size w x.items v → ErrAt w →
  Calls Tryz.prog 38 #[litV x v] w fun e w' => e = .returned (.tuple #[.string ⟨s.toArray⟩, .int .i64 0]) ∧ Below w.heap.size w w'
set_option maxHeartbeats 2000000 in
set_option maxRecDepth 100000 in
theorem prints_as {x : Pl.Lit} {s : List UInt8} (hp : PutsAs x s) (hk : x.kind ≠ 1 ∧ x.kind ≠ 2 ∧ x.kind ≠ 3) (hxw : Pl.LitW x) (hdp : Pl.litDeep x ≤ 262144) (hok : Pl.litErr x = 0) (hs0 : s ≠ []) (hs : s.length ≤ 16384) : PrintsAs x s := by
  intro w v hv he
  have PN := Lib.hid (fun (W : World) (hb : Below w.heap.size w W) => pNode_lit hp (w := W) (v := v) ((hv.keep hb).up hb.size) hxw (he.keep hb he.1) hdp hok hs0 hs)
  obtain ⟨A, cap, V, rfl, _⟩ := hv.out
  have hk1 : ¬ (x.kind : Int) = 1 := by omega
  have hk2 : ¬ (x.kind : Int) = 2 := by omega
  have hk3 : ¬ (x.kind : Int) = 3 := by omega
  unfold nodeV at PN
  unfold litV
  clear hv he
  go_enter Tryz.func38, Tryz.ntmps38
  go_wp2_with (go_at_call 75; refine (PN.out _ ((Below.refl _ _).alloc (Nat.le_refl _) _)).mono ?_; rintro e w2 ⟨rfl, hb2⟩; have HB2 := Lib.hid (alloc_then (hb2.mono (by simp))); clear hb2)
  go_ret2
  exact ⟨rfl, HB2.out⟩
theorem prints_small : PrintsAs (.mk 4 1 0 ⟨#[]⟩ []) [49] := by
  have h : PutsAs (.mk 4 ((1 : Nat) : Int) 0 ⟨#[]⟩ []) (Lib.decDigits 1) := puts_small 1 (by omega)
  rw [dec_one (by omega)] at h
  intro w v hv he
  exact prints_as h (by decide) ⟨by decide, by decide, by decide, by decide, by decide⟩ (by decide) (by decide) (by simp) (by simp) hv he
theorem prints_plus : PrintsAs (.mk 9 0 0 ⟨#[43]⟩ []) [35, 43] := by
  have h : PutsAs (.mk 9 0 0 ⟨#[43]⟩ []) (35 :: (⟨#[43]⟩ : ByteArray).data.toList) := puts_symbol ⟨#[43]⟩ (by decide) (by decide)
  intro w v hv he
  exact prints_as h (by decide) ⟨by decide, by decide, by decide, by decide, by decide⟩ (by decide) (by decide) (by simp) (by simp) hv he
end Go.Proofs.YtoklnpoacckbfaaGreatDoor
