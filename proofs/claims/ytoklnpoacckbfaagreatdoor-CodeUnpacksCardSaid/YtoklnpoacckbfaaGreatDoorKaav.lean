/- The document's litMany, litDepth. The document's CheckNode at a literal. The document's Many, Deep, CheckNode at a literal. The document's formed. (Under way.) The document's frame, where three ranges are known. -/
import Derived.Test.YtoklnpoacckbfaaGreatDoorKaau
import Derived.Test.YtoklnpoacckbfaaGreatDoorKaan
namespace Go.Proofs.YtoklnpoacckbfaaGreatDoor
open Go.RowKit
namespace Pl
theorem litMany_eq (x : Lit) : litMany x = ((decide (255 < x.items.length) || decide (x.kind = 11) && decide (255 < x.text.size)) || litsMany x.items) := by
  cases x; simp only [litMany, Lit.items, Lit.kind, Lit.text]; try rfl
theorem litsMany_at {l : List Lit} {k : Nat} {x : Lit} (h : l[k]? = some x) (hm : litMany x = true) : litsMany l = true := by
  rw [litsMany_iff, List.any_eq_true]; exact ⟨x, List.mem_of_getElem? h, hm⟩
end Pl
set_option maxRecDepth 100000 in
set_option maxHeartbeats 2000000 in
theorem rmany_any {B : Nat} {w0 : World} {l : List Pl.Lit} {v : Value} (h : LitsAt B w0 l v) (hB0 : B ≤ w0.heap.size) : ∀ (x : Pl.Lit) (w : World), x.items = l → Pl.LitW x → Below B w0 w →
    Calls Tryz.prog 138 #[litV x v] w fun e w' => e = .returned (.bool (Pl.litMany x)) ∧ Below w.heap.size w w' := by
  induction h with
  | mk A l cap V hB hrow hw hr ih =>
    intro x w hx hxw hbel
    subst hx
    have hs0 := hbel.size
    have HMA := Lib.hid (Pl.litMany_eq x)
    have h1 := hrow.le
    have h2 := hrow.len
    have hts := hxw.t
    unfold litV
    by_cases hf : (decide (255 < x.items.length) || decide (x.kind = 11) && decide (255 < x.text.size)) = true
    · have HF := Lib.hid (show Pl.litMany x = true by rw [HMA.out, hf]; rfl)
      by_cases hi : 255 < x.items.length
      · clear hf
        go_enter Tryz.func138, Tryz.ntmps138
        go_wp2_with fail
        go_ret
        exact ⟨ret_bool (by rw [HF.out]), (Below.refl _ _).alloc (Nat.le_refl _) _⟩
      · have hk : x.kind = 11 ∧ 255 < x.text.size := by simpa [hi] using hf
        obtain ⟨hk, ht⟩ := hk
        clear hf
        rw [hk, show ((11 : Nat) : Int) = 11 from rfl]
        go_enter Tryz.func138, Tryz.ntmps138
        go_wp2_with fail
        go_ret
        exact ⟨ret_bool (by rw [HF.out]), (Below.refl _ _).alloc (Nat.le_refl _) _⟩
    · have HS := Lib.hid (show Pl.litMany x = Pl.litsMany x.items by rw [HMA.out, Bool.not_eq_true _ |>.mp hf]; rfl)
      have hi : ¬ 255 < x.items.length := by intro e; exact hf (by simp [e])
      have hkt : ((x.kind : Int) == 11) = true → ¬ 255 < x.text.size := by
        intro e1 e2
        have : x.kind = 11 := by simp at e1; omega
        exact hf (by simp [this, e2])
      have HKT := Lib.hid hkt
      clear hf hkt
      obtain ⟨bk, hbk⟩ : ∃ bk, ((x.kind : Int) == 11) = bk := ⟨_, rfl⟩
      have hgo : bk = false ∨ bk = true ∧ ¬ 255 < x.text.size := by
        cases bk
        · exact .inl rfl
        · exact .inr ⟨rfl, HKT.out hbk⟩
      rcases hgo with rfl | ⟨rfl, ht⟩
      all_goals
        go_enter Tryz.func138, Tryz.ntmps138
        go_wp2_with fail
        obtain ⟨W1, hW1⟩ : ∃ W1, w.alloc (.cells #[.int .u8 x.kind, .int .i64 x.n, .int .u64 x.bits, .string x.text, .slice A x.items.length cap] 37) = W1 := ⟨_, rfl⟩
        have HB1 := Lib.hid (show Below w.heap.size w (w.alloc (.cells #[.int .u8 x.kind, .int .i64 x.n, .int .u64 x.bits, .string x.text, .slice A x.items.length cap] 37)) from (Below.refl _ _).alloc (Nat.le_refl _) _)
        have r4 : W1.cell? ⟨w.heap.size, 4, none⟩ = some (.slice A x.items.length cap) := by rw [← hW1]; simp [go_sem]
        have hz1 : W1.heap.size = w.heap.size + 1 := by rw [← hW1]; simp
        rw [hW1] at HB1 ⊢
        clear hW1
        go_loopw [3] (fun iv wr => ∃ k : Nat, iv = .int .i64 k ∧ k ≤ x.items.length ∧ Pl.litsMany (x.items.take k) = false ∧ Below W1.heap.size W1 wr) (fun iv _ => x.items.length - (intOf iv).toNat)
        case atStart => exact ⟨0, rfl, Nat.zero_le _, rfl, Below.refl _ _⟩
        case round =>
          obtain ⟨k, rfl, hk, hall, hb⟩ := hrel
          have HALL := Lib.hid hall
          clear hall
          have c4 : wr.cell? ⟨w.heap.size, 4, none⟩ = some (.slice A x.items.length cap) := by rw [hb.cell (p := ⟨w.heap.size, 4, none⟩) (by simp; omega)]; exact r4
          have hz := hb.size
          have hbw : Below w.heap.size w wr := HB1.out.trans (hb.mono (by omega))
          by_cases hlt : k < x.items.length
          · obtain ⟨b, o, rfl, hbb⟩ := hrow.some_of hlt
            obtain ⟨y, hy⟩ : ∃ y, x.items[k]? = some y := ⟨_, List.getElem?_eq_getElem hlt⟩
            have hB2 : Below B w0 wr := hbel.trans (hbw.mono (by omega))
            obtain ⟨e0, e1, e2, e3, e4⟩ := (hrow.keep hB2 hB).lit hy
            have hyw := hw y (List.mem_of_getElem? hy)
            have IH := Lib.hid (ih k y hy y wr rfl hyw hB2)
            have HMG := Lib.hid (Pl.litsMany_get hy)
            have HAT := Lib.hid (fun h => Pl.litsMany_at hy h)
            clear hy
            cases hm : Pl.litMany y
            · rw [hm] at IH HMG
              clear hm
              go_wp2_with fail
              refine IH.out.mono ?_
              rintro e w3 ⟨rfl, hb3⟩
              go_wp2_with fail
              go_roundw
              case rel => exact ⟨k + 1, by go_num, by omega, by rw [HMG.out, HALL.out]; rfl, hb.trans (hb3.mono (by omega))⟩
              case measure => simp [intOf]; omega
            · have HF := Lib.hid (HS.out.trans (HAT.out hm))
              rw [hm] at IH
              clear hm
              go_wp2_with fail
              refine IH.out.mono ?_
              rintro e w3 ⟨rfl, hb3⟩
              go_wp2_with fail
              go_ret
              exact ⟨ret_bool (by rw [HF.out]), hbw.trans (hb3.mono (by omega))⟩
          · have HF := Lib.hid (show Pl.litMany x = false by
              have h := HALL.out
              rw [List.take_of_length_le (by omega)] at h
              rw [HS.out, h])
            go_wp2_with fail
            go_ret
            exact ⟨ret_bool (by rw [HF.out]), hbw⟩
set_option maxRecDepth 100000 in
set_option maxHeartbeats 2000000 in
theorem rdeep_any {B : Nat} {w0 : World} {l : List Pl.Lit} {v : Value} (h : LitsAt B w0 l v) (hB0 : B ≤ w0.heap.size) : ∀ (x : Pl.Lit) (w : World), x.items = l → Below B w0 w → Pl.litDeep x ≤ 262144 →
    Calls Tryz.prog 139 #[litV x v] w fun e w' => e = .returned (.int .i64 (Pl.litDeep x : Nat)) ∧ Below w.heap.size w w' := by
  induction h with
  | mk A l cap V hB hrow hw hr ih =>
    intro x w hx hbel hdp
    subst hx
    have hs0 := hbel.size
    have h1 := hrow.le
    have h2 := hrow.len
    unfold litV
    by_cases hk : x.kind = 10
    · have HDA := Lib.hid (Pl.litDeep_array hk)
      have hdl : Pl.litsDeep x.items ≤ 262144 := by have := HDA.out; omega
      rw [hk, show ((10 : Nat) : Int) = 10 from rfl]
      clear hk
      go_enter Tryz.func139, Tryz.ntmps139
      go_wp2_with fail
      obtain ⟨W1, hW1⟩ : ∃ W1, w.alloc (.cells #[.int .u8 10, .int .i64 x.n, .int .u64 x.bits, .string x.text, .slice A x.items.length cap] 37) = W1 := ⟨_, rfl⟩
      have HB1 := Lib.hid (show Below w.heap.size w (w.alloc (.cells #[.int .u8 10, .int .i64 x.n, .int .u64 x.bits, .string x.text, .slice A x.items.length cap] 37)) from (Below.refl _ _).alloc (Nat.le_refl _) _)
      have r4 : W1.cell? ⟨w.heap.size, 4, none⟩ = some (.slice A x.items.length cap) := by rw [← hW1]; simp [go_sem]
      have hz1 : W1.heap.size = w.heap.size + 1 := by rw [← hW1]; simp
      rw [hW1] at HB1 ⊢
      clear hW1
      go_loopw [3, 4] (fun dv iv wr => ∃ k : Nat, dv = .int .i64 (Pl.litsDeep (x.items.take k) : Nat) ∧ iv = .int .i64 k ∧ k ≤ x.items.length ∧ Below W1.heap.size W1 wr) (fun _ iv _ => x.items.length - (intOf iv).toNat)
      case atStart => exact ⟨0, by simp [Pl.litsDeep], rfl, Nat.zero_le _, Below.refl _ _⟩
      case round =>
        obtain ⟨k, rfl, rfl, hk, hb⟩ := hrel
        have hdt := Pl.litsDeep_take x.items k
        have c4 : wr.cell? ⟨w.heap.size, 4, none⟩ = some (.slice A x.items.length cap) := by rw [hb.cell (p := ⟨w.heap.size, 4, none⟩) (by simp; omega)]; exact r4
        have hz := hb.size
        have hbw : Below w.heap.size w wr := HB1.out.trans (hb.mono (by omega))
        by_cases hlt : k < x.items.length
        · obtain ⟨b, o, rfl, hbb⟩ := hrow.some_of hlt
          obtain ⟨y, hy⟩ : ∃ y, x.items[k]? = some y := ⟨_, List.getElem?_eq_getElem hlt⟩
          have hB2 : Below B w0 wr := hbel.trans (hbw.mono (by omega))
          obtain ⟨e0, e1, e2, e3, e4⟩ := (hrow.keep hB2 hB).lit hy
          have hyd : Pl.litDeep y ≤ 262144 := by have := Pl.litDeep_mem (List.mem_of_getElem? hy); omega
          have IH := Lib.hid (ih k y hy y wr rfl hB2 hyd)
          have HDG := Lib.hid (Pl.litsDeep_get hy)
          clear hy
          by_cases hgt : Pl.litsDeep (x.items.take k) < Pl.litDeep y
          all_goals
            go_wp2_with fail
            refine IH.out.mono ?_
            rintro e w3 ⟨rfl, hb3⟩
            go_wp2_with fail
            go_roundw
            case rel => exact ⟨k + 1, by rw [HDG.out]; congr 1; omega, by go_num, by omega, hb.trans (hb3.mono (by omega))⟩
            case measure => simp [intOf]; omega
        · have HF := Lib.hid (show x.items.take k = x.items from List.take_of_length_le (by omega))
          go_wp2_with fail
          go_ret
          exact ⟨ret_int (by rw [HDA.out, HF.out]; simp), hbw⟩
    · have HD := Lib.hid (Pl.deep_flat hk)
      have hkI : ((x.kind : Int) != 10) = true := by simp; omega
      clear hk
      go_enter Tryz.func139, Tryz.ntmps139
      go_wp2_with fail
      go_ret
      exact ⟨ret_int (by rw [HD.out]; rfl), (Below.refl _ _).alloc (Nat.le_refl _) _⟩
end Go.Proofs.YtoklnpoacckbfaaGreatDoor
namespace Go.Proofs.YtoklnpoacckbfaaGreatDoor
open Go.RowKit
theorem setCellsLit {B : Nat} {a w : World} (h : Below B a w) (v0 v1 v2 v3 v4 : Value) : Below B a (((((w.setCell ⟨B, 2, none⟩ v0).setCell ⟨B, 3, none⟩ v1).setCell ⟨B, 4, none⟩ v2).setCell ⟨B, 5, none⟩ v3).setCell ⟨B, 6, none⟩ v4) :=
  ((((h.setCell (p := ⟨B, 2, none⟩) (Nat.le_refl _) _).setCell (p := ⟨B, 3, none⟩) (Nat.le_refl _) _).setCell (p := ⟨B, 4, none⟩) (Nat.le_refl _) _).setCell (p := ⟨B, 5, none⟩) (Nat.le_refl _) _).setCell (p := ⟨B, 6, none⟩) (Nat.le_refl _) _
/-- a literal as an expression -/
def nodeV (x : Pl.Lit) (v : Value) : Value := .agg #[.int .u8 1, .string ⟨#[]⟩, .int .u8 x.kind, .int .i64 x.n, .int .u64 x.bits, .string x.text, v, .slice none 0 0, .slice none 0 0, .slice none 0 0, .int .i64 0]
set_option maxRecDepth 100000 in
set_option maxHeartbeats 2000000 in
theorem rsuper_any (x : Pl.Lit) (v : Value) (w : World) : Calls Tryz.prog 137 #[nodeV x v] w fun e w' => e = .returned (.bool false) ∧ Below w.heap.size w w' := by
  unfold nodeV
  go_enter Tryz.func137, Tryz.ntmps137
  go_wp2_with fail
  go_ret
  exact ⟨rfl, (Below.refl _ _).alloc (Nat.le_refl _) _⟩
set_option maxRecDepth 100000 in
set_option maxHeartbeats 2000000 in
theorem rexpr_any {B : Nat} {w0 : World} {x : Pl.Lit} {v : Value} (h : LitsAt B w0 x.items v) (w : World) : Calls Tryz.prog 99 #[nodeV x v] w fun e w' => e = .returned (.bool true) ∧ Below w.heap.size w w' := by
  have SU := Lib.hid (fun w => rsuper_any x v w)
  obtain ⟨A, cap, V, rfl, _⟩ := h.out
  unfold nodeV at SU ⊢
  go_enter Tryz.func99, Tryz.ntmps99
  go_wp2_with fail
  refine (SU.out _).mono ?_
  rintro e w2 ⟨rfl, hb2⟩
  go_wp2_with fail
  go_ret
  exact ⟨rfl, ((Below.refl _ _).alloc (Nat.le_refl _) _).trans (hb2.mono (by simp))⟩
set_option maxRecDepth 100000 in
set_option maxHeartbeats 2000000 in
theorem rnone_any (w : World) :
    Calls Tryz.prog 186 #[.agg #[.int .u8 1, .string ⟨#[]⟩, .int .u8 0, .int .i64 0, .int .u64 0, .string ⟨#[]⟩, .slice none 0 0, .slice none 0 0, .slice none 0 0, .slice none 0 0, .int .i64 0]] w fun e w' => e = .returned (.bool true) ∧ Below w.heap.size w w' := by
  go_enter Tryz.func186, Tryz.ntmps186
  go_wp2_with fail
  go_ret
  exact ⟨rfl, (Below.refl _ _).alloc (Nat.le_refl _) _⟩
set_option maxRecDepth 100000 in
set_option maxHeartbeats 2000000 in
theorem rone_any {B : Nat} {w0 : World} {x : Pl.Lit} {v : Value} (h : LitsAt B w0 x.items v) (hB0 : B ≤ w0.heap.size) (hxw : Pl.LitW x) (w : World) (hbel : Below B w0 w) :
    Calls Tryz.prog 136 #[nodeV x v] w fun e w' => e = .returned (.tuple #[.bool (Pl.litOk false x), .int .i64 0]) ∧ Below w.heap.size w w' := by
  have hs := hbel.size
  have RL := Lib.hid (fun W hb => rlit_any h hB0 x false W rfl hxw hb)
  have RN := Lib.hid (fun w => rnone_any w)
  have HB := Lib.hid hbel
  obtain ⟨A, cap, V, rfl, _⟩ := h.out
  unfold litV at RL
  unfold nodeV
  cases hok : Pl.litOk false x
  all_goals
    rw [hok] at RL
    clear hok
    go_enter Tryz.func136, Tryz.ntmps136
    go_wp2_with fail
    refine (RL.out _ (HB.out.trans (((Below.refl w.heap.size w).alloc (Nat.le_refl _) _).mono (by omega)))).mono ?_
    rintro e w2 ⟨rfl, hb2⟩
    have c0 : w2.cell? ⟨w.heap.size, 0, none⟩ = some (.int .u8 1) := boxCells (hb2.mono (by simp)) rfl
    have c1 : w2.cell? ⟨w.heap.size, 1, none⟩ = some (.string ⟨#[]⟩) := boxCells (hb2.mono (by simp)) rfl
    have c2 : w2.cell? ⟨w.heap.size, 2, none⟩ = some (.int .u8 x.kind) := boxCells (hb2.mono (by simp)) rfl
    have c3 : w2.cell? ⟨w.heap.size, 3, none⟩ = some (.int .i64 x.n) := boxCells (hb2.mono (by simp)) rfl
    have c4 : w2.cell? ⟨w.heap.size, 4, none⟩ = some (.int .u64 x.bits) := boxCells (hb2.mono (by simp)) rfl
    have c5 : w2.cell? ⟨w.heap.size, 5, none⟩ = some (.string x.text) := boxCells (hb2.mono (by simp)) rfl
    have c6 : w2.cell? ⟨w.heap.size, 6, none⟩ = some (.slice A x.items.length cap) := boxCells (hb2.mono (by simp)) rfl
    have c7 : w2.cell? ⟨w.heap.size, 7, none⟩ = some (.slice none 0 0) := boxCells (hb2.mono (by simp)) rfl
    have c8 : w2.cell? ⟨w.heap.size, 8, none⟩ = some (.slice none 0 0) := boxCells (hb2.mono (by simp)) rfl
    have c9 : w2.cell? ⟨w.heap.size, 9, none⟩ = some (.slice none 0 0) := boxCells (hb2.mono (by simp)) rfl
    have c10 : w2.cell? ⟨w.heap.size, 10, none⟩ = some (.int .i64 0) := boxCells (hb2.mono (by simp)) rfl
    have f2 : w2.frozen? ⟨w.heap.size, 2, none⟩ = false := by rw [hb2.frozen (p := ⟨w.heap.size, 2, none⟩) (by simp)]; simp [go_sem]
    have f3 : w2.frozen? ⟨w.heap.size, 3, none⟩ = false := by rw [hb2.frozen (p := ⟨w.heap.size, 3, none⟩) (by simp)]; simp [go_sem]
    have f4 : w2.frozen? ⟨w.heap.size, 4, none⟩ = false := by rw [hb2.frozen (p := ⟨w.heap.size, 4, none⟩) (by simp)]; simp [go_sem]
    have f5 : w2.frozen? ⟨w.heap.size, 5, none⟩ = false := by rw [hb2.frozen (p := ⟨w.heap.size, 5, none⟩) (by simp)]; simp [go_sem]
    have f6 : w2.frozen? ⟨w.heap.size, 6, none⟩ = false := by rw [hb2.frozen (p := ⟨w.heap.size, 6, none⟩) (by simp)]; simp [go_sem]
    have hz := hb2.size
    simp only [World.size_alloc] at hz
    have hlt : w.heap.size < w2.heap.size := by omega
    have HB2 := Lib.hid (alloc_then (hb2.mono (by simp)))
    clear hb2
  · go_wp2_with fail
    go_ret2
    exact ⟨rfl, setCellsLit HB2.out _ _ _ _ _⟩
  · go_wp2_with fail
    refine (RN.out _).mono ?_
    rintro e w3 ⟨rfl, hb3⟩
    have HB3 := Lib.hid hb3
    clear hb3
    go_wp2_with fail
    go_ret2
    exact ⟨rfl, (setCellsLit HB2.out _ _ _ _ _).trans (HB3.out.mono (by simp; omega))⟩
set_option maxRecDepth 100000 in
set_option maxHeartbeats 2000000 in
theorem rformed_any {B : Nat} {w0 : World} {x : Pl.Lit} {v : Value} (h : LitsAt B w0 x.items v) (hB0 : B ≤ w0.heap.size) (hxw : Pl.LitW x) (w : World) (hbel : Below B w0 w) :
    Calls Tryz.prog 98 #[nodeV x v] w fun e w' => e = .returned (.bool (Pl.litOk false x)) ∧ Below w.heap.size w w' := by
  have hs := hbel.size
  have RO := Lib.hid (fun W hb => rone_any h hB0 hxw W hb)
  have HB := Lib.hid hbel
  obtain ⟨A, cap, V, rfl, _⟩ := h.out
  unfold nodeV at RO ⊢
  cases hok : Pl.litOk false x
  all_goals
    rw [hok] at RO
    clear hok
    go_enter Tryz.func98, Tryz.ntmps98
    go_wp2_with fail
    refine (RO.out _ (HB.out.trans (((Below.refl w.heap.size w).alloc (Nat.le_refl _) _).mono (by omega)))).mono ?_
    rintro e w2 ⟨rfl, hb2⟩
    have c9 : w2.cell? ⟨w.heap.size, 9, none⟩ = some (.slice none 0 0) := boxCells (hb2.mono (by simp)) rfl
    have HB2 := Lib.hid (alloc_then (hb2.mono (by simp)))
    clear hb2
  · go_wp2_with fail
    go_ret
    exact ⟨rfl, HB2.out⟩
  · go_wp2_with fail
    go_loopw [5] (fun iv wr => iv = .int .i64 0 ∧ wr = w2) (fun _ _ => 0)
    case atStart => exact ⟨rfl, rfl⟩
    case round =>
      obtain ⟨rfl, rfl⟩ := hrel
      go_wp2_with fail
      go_ret
      exact ⟨rfl, HB2.out⟩
end Go.Proofs.YtoklnpoacckbfaaGreatDoor
namespace Go.Proofs.YtoklnpoacckbfaaGreatDoor
open Go.RowKit
set_option maxRecDepth 100000 in
set_option maxHeartbeats 2000000 in
theorem rnmany_any {B : Nat} {w0 : World} {x : Pl.Lit} {v : Value} (h : LitsAt B w0 x.items v) (hB0 : B ≤ w0.heap.size) (hxw : Pl.LitW x) (w : World) (hbel : Below B w0 w) :
    Calls Tryz.prog 100 #[nodeV x v] w fun e w' => e = .returned (.bool (Pl.litMany x)) ∧ Below w.heap.size w w' := by
  have hs := hbel.size
  have RO := Lib.hid (fun W hb => rmany_any h hB0 x W rfl hxw hb)
  have HB := Lib.hid hbel
  obtain ⟨A, cap, V, rfl, _⟩ := h.out
  unfold litV at RO
  unfold nodeV
  cases hok : Pl.litMany x
  all_goals
    rw [hok] at RO
    clear hok
    go_enter Tryz.func100, Tryz.ntmps100
    go_wp2_with fail
    refine (RO.out _ (HB.out.trans (((Below.refl w.heap.size w).alloc (Nat.le_refl _) _).mono (by omega)))).mono ?_
    rintro e w2 ⟨rfl, hb2⟩
    have c0 : w2.cell? ⟨w.heap.size, 0, none⟩ = some (.int .u8 1) := boxCells (hb2.mono (by simp)) rfl
    have c7 : w2.cell? ⟨w.heap.size, 7, none⟩ = some (.slice none 0 0) := boxCells (hb2.mono (by simp)) rfl
    have c8 : w2.cell? ⟨w.heap.size, 8, none⟩ = some (.slice none 0 0) := boxCells (hb2.mono (by simp)) rfl
    have c9 : w2.cell? ⟨w.heap.size, 9, none⟩ = some (.slice none 0 0) := boxCells (hb2.mono (by simp)) rfl
    have HB2 := Lib.hid (alloc_then (hb2.mono (by simp)))
    clear hb2
  · go_wp2_with fail
    go_loopw [5] (fun iv wr => iv = .int .i64 0 ∧ wr = w2) (fun _ _ => 0)
    case atStart => exact ⟨rfl, rfl⟩
    case round =>
      obtain ⟨rfl, rfl⟩ := hrel
      go_wp2_with fail
      go_ret
      exact ⟨rfl, HB2.out⟩
  · go_wp2_with fail
    go_ret
    exact ⟨rfl, HB2.out⟩
set_option maxRecDepth 100000 in
set_option maxHeartbeats 2000000 in
theorem rndeep_any {B : Nat} {w0 : World} {x : Pl.Lit} {v : Value} (h : LitsAt B w0 x.items v) (hB0 : B ≤ w0.heap.size) (w : World) (hbel : Below B w0 w) (hd : Pl.litDeep x ≤ 262144) :
    Calls Tryz.prog 101 #[nodeV x v] w fun e w' => e = .returned (.int .i64 (Pl.litDeep x : Nat)) ∧ Below w.heap.size w w' := by
  have hs := hbel.size
  have RO := Lib.hid (fun W hb => rdeep_any h hB0 x W rfl hb hd)
  have HB := Lib.hid hbel
  obtain ⟨A, cap, V, rfl, _⟩ := h.out
  unfold litV at RO
  unfold nodeV
  go_enter Tryz.func101, Tryz.ntmps101
  go_wp2_with fail
  refine (RO.out _ (HB.out.trans (((Below.refl w.heap.size w).alloc (Nat.le_refl _) _).mono (by omega)))).mono ?_
  rintro e w2 ⟨rfl, hb2⟩
  have c0 : w2.cell? ⟨w.heap.size, 0, none⟩ = some (.int .u8 1) := boxCells (hb2.mono (by simp)) rfl
  have c9 : w2.cell? ⟨w.heap.size, 9, none⟩ = some (.slice none 0 0) := boxCells (hb2.mono (by simp)) rfl
  have HB2 := Lib.hid (alloc_then (hb2.mono (by simp)))
  clear hb2
  go_wp2_with fail
  go_loopw [3, 4] (fun dv iv wr => dv = .int .i64 (Pl.litDeep x : Nat) ∧ iv = .int .i64 0 ∧ wr = w2) (fun _ _ _ => 0)
  case atStart => exact ⟨rfl, rfl, rfl⟩
  case round =>
    obtain ⟨rfl, rfl, rfl⟩ := hrel
    go_wp2_with fail
    go_ret
    exact ⟨rfl, HB2.out⟩
set_option maxRecDepth 100000 in
set_option maxHeartbeats 2000000 in
theorem rcheckNode_any {B : Nat} {w0 : World} {x : Pl.Lit} {v : Value} (h : LitsAt B w0 x.items v) (hB0 : B ≤ w0.heap.size) (hxw : Pl.LitW x) (w : World) (hbel : Below B w0 w) (hd : Pl.litDeep x ≤ 262144) :
    Calls Tryz.prog 63 #[nodeV x v] w fun e w' => e = .returned (.int .i64 (Pl.litErr x : Nat)) ∧ Below w.heap.size w w' := by
  have hs := hbel.size
  have RF := Lib.hid (fun W hb => rformed_any h hB0 hxw W hb)
  have RX := Lib.hid (fun W => rexpr_any h W)
  have RM := Lib.hid (fun W hb => rnmany_any h hB0 hxw W hb)
  have RD := Lib.hid (fun W hb => rndeep_any h hB0 W hb hd)
  have HB := Lib.hid hbel
  have HE := Lib.hid (show Pl.litErr x = if Pl.litOk false x = false then 150 else if Pl.litMany x = true then 151 else if 40 < Pl.litDeep x then 152 else 0 from rfl)
  obtain ⟨A, cap, V, rfl, _⟩ := h.out
  unfold nodeV at RF RX RM RD ⊢
  obtain ⟨W1, hW1⟩ : ∃ W1, w.alloc (.cells #[.int .u8 1, .string ⟨#[]⟩, .int .u8 x.kind, .int .i64 x.n, .int .u64 x.bits, .string x.text, .slice A x.items.length cap, .slice none 0 0, .slice none 0 0, .slice none 0 0, .int .i64 0] 110) = W1 := ⟨_, rfl⟩
  have HB1 := Lib.hid (show Below w.heap.size w W1 by rw [← hW1]; exact (Below.refl _ _).alloc (Nat.le_refl _) _)
  have HC := Lib.hid (fun (W : World) (hb : Below W1.heap.size W1 W) => show (W.cell? ⟨w.heap.size, 0, none⟩ = some (.int .u8 1) ∧ W.cell? ⟨w.heap.size, 1, none⟩ = some (.string ⟨#[]⟩) ∧ W.cell? ⟨w.heap.size, 2, none⟩ = some (.int .u8 x.kind) ∧ W.cell? ⟨w.heap.size, 3, none⟩ = some (.int .i64 x.n) ∧ W.cell? ⟨w.heap.size, 4, none⟩ = some (.int .u64 x.bits) ∧ W.cell? ⟨w.heap.size, 5, none⟩ = some (.string x.text)) ∧ (W.cell? ⟨w.heap.size, 6, none⟩ = some (.slice A x.items.length cap) ∧ W.cell? ⟨w.heap.size, 7, none⟩ = some (.slice none 0 0) ∧ W.cell? ⟨w.heap.size, 8, none⟩ = some (.slice none 0 0) ∧ W.cell? ⟨w.heap.size, 9, none⟩ = some (.slice none 0 0) ∧ W.cell? ⟨w.heap.size, 10, none⟩ = some (.int .i64 0)) from by
    subst hW1
    have hb' : Below (w.heap.size + 1) _ W := hb.mono (by simp)
    exact ⟨⟨boxCells hb' rfl, boxCells hb' rfl, boxCells hb' rfl, boxCells hb' rfl, boxCells hb' rfl, boxCells hb' rfl⟩, boxCells hb' rfl, boxCells hb' rfl, boxCells hb' rfl, boxCells hb' rfl, boxCells hb' rfl⟩)
  have hz1 : W1.heap.size = w.heap.size + 1 := by rw [← hW1]; simp
  have HW1 := Lib.hid hW1
  clear hW1
  cases hok : Pl.litOk false x
  · have HR := Lib.hid (HE.out.trans (if_pos hok))
    rw [hok] at RF
    clear hok
    go_enter Tryz.func63, Tryz.ntmps63
    go_wp2_with fail
    rw [HW1.out]
    refine (RF.out _ (HB.out.trans (HB1.out.mono (by omega)))).mono ?_
    rintro e w2 ⟨rfl, hb2⟩
    have HB2 := Lib.hid hb2
    clear hb2
    go_wp2_with fail
    go_ret
    exact ⟨by rw [HR.out]; rfl, HB1.out.trans (HB2.out.mono (by omega))⟩
  · cases hm : Pl.litMany x
    · have HR := Lib.hid (show Pl.litErr x = if 40 < Pl.litDeep x then 152 else 0 by rw [HE.out, hok, hm]; rfl)
      rw [hok] at RF
      rw [hm] at RM
      clear hok hm
      by_cases hdd : 40 < Pl.litDeep x
      all_goals
        go_enter Tryz.func63, Tryz.ntmps63
        go_wp2_with fail
        rw [HW1.out]
        refine (RF.out _ (HB.out.trans (HB1.out.mono (by omega)))).mono ?_
        rintro e w2 ⟨rfl, hb2⟩
        obtain ⟨⟨c0, c1, c2, c3, c4, c5⟩, c6, c7, c8, c9, c10⟩ := HC.out w2 hb2
        have HB2 := Lib.hid hb2
        have hz2 := hb2.size
        clear hb2
        go_wp2_with fail
        refine (RX.out _).mono ?_
        rintro e w3 ⟨rfl, hb3⟩
        obtain ⟨⟨d0, d1, d2, d3, d4, d5⟩, d6, d7, d8, d9, d10⟩ := HC.out w3 (HB2.out.trans (hb3.mono (by omega)))
        have HB3 := Lib.hid (show Below W1.heap.size W1 w3 from HB2.out.trans (hb3.mono (by omega)))
        have hz3 := hb3.size
        clear hb3 c0 c1 c2 c3 c4 c5 c6 c7 c8 c9 c10
        go_wp2_with fail
        refine (RM.out _ (HB.out.trans ((HB1.out.trans (HB3.out.mono (by omega))).mono (by omega)))).mono ?_
        rintro e w4 ⟨rfl, hb4⟩
        obtain ⟨⟨c0, c1, c2, c3, c4, c5⟩, c6, c7, c8, c9, c10⟩ := HC.out w4 (HB3.out.trans (hb4.mono (by omega)))
        have HB4 := Lib.hid (show Below W1.heap.size W1 w4 from HB3.out.trans (hb4.mono (by omega)))
        have hz4 := hb4.size
        clear hb4 d0 d1 d2 d3 d4 d5 d6 d7 d8 d9 d10
        go_wp2_with fail
        refine (RD.out _ (HB.out.trans ((HB1.out.trans (HB4.out.mono (by omega))).mono (by omega)))).mono ?_
        rintro e w5 ⟨rfl, hb5⟩
        have HB5 := Lib.hid (show Below W1.heap.size W1 w5 from HB4.out.trans (hb5.mono (by omega)))
        clear hb5
        go_wp2_with fail
        go_ret
        refine ⟨?_, HB1.out.trans (HB5.out.mono (by omega))⟩
        rw [HR.out]
        first
          | (rw [if_pos (by omega)]; rfl)
          | (rw [if_neg (by omega)]; rfl)
    · have HR := Lib.hid (show Pl.litErr x = 151 by rw [HE.out, hok, hm]; rfl)
      rw [hok] at RF
      rw [hm] at RM
      clear hok hm
      go_enter Tryz.func63, Tryz.ntmps63
      go_wp2_with fail
      rw [HW1.out]
      refine (RF.out _ (HB.out.trans (HB1.out.mono (by omega)))).mono ?_
      rintro e w2 ⟨rfl, hb2⟩
      obtain ⟨⟨c0, c1, c2, c3, c4, c5⟩, c6, c7, c8, c9, c10⟩ := HC.out w2 hb2
      have HB2 := Lib.hid hb2
      have hz2 := hb2.size
      clear hb2
      go_wp2_with fail
      refine (RX.out _).mono ?_
      rintro e w3 ⟨rfl, hb3⟩
      obtain ⟨⟨d0, d1, d2, d3, d4, d5⟩, d6, d7, d8, d9, d10⟩ := HC.out w3 (HB2.out.trans (hb3.mono (by omega)))
      have HB3 := Lib.hid (show Below W1.heap.size W1 w3 from HB2.out.trans (hb3.mono (by omega)))
      have hz3 := hb3.size
      clear hb3 c0 c1 c2 c3 c4 c5 c6 c7 c8 c9 c10
      go_wp2_with fail
      refine (RM.out _ (HB.out.trans ((HB1.out.trans (HB3.out.mono (by omega))).mono (by omega)))).mono ?_
      rintro e w4 ⟨rfl, hb4⟩
      have HB4 := Lib.hid (show Below W1.heap.size W1 w4 from HB3.out.trans (hb4.mono (by omega)))
      clear hb4
      go_wp2_with fail
      go_ret
      exact ⟨by rw [HR.out]; rfl, HB1.out.trans (HB4.out.mono (by omega))⟩
end Go.Proofs.YtoklnpoacckbfaaGreatDoor
namespace Go.Proofs.YtoklnpoacckbfaaGreatDoor
open Go.RowKit
namespace Pl
/-- what is asked of a code ahead of its literals -/
structure Form1 (c : Cod) : Prop where
  ar : 0 ≤ arity c.sel.data.toList
  p : in_ c.prim 0 255
  nl : c.lits.length ≤ 255
  nu : 1 ≤ c.units.length ∧ c.units.length ≤ 255
open Classical in
noncomputable def formedB (c : Cod) : Bool := decide (Formed c)
theorem formedB_no1 {c : Cod} (h : ¬ Form1 c) : formedB c = false := by
  unfold formedB; simp only [decide_eq_false_iff_not]; intro f; exact h ⟨f.ar, f.p, f.nl, f.nu⟩
end Pl
set_option maxRecDepth 100000 in
set_option maxHeartbeats 2000000 in
theorem rformed1_any {B : Nat} {c : Pl.Cod} {L U : Value} (w : World) (h : CodAt B w c L U) (hf : ¬ Pl.Form1 c) :
    Calls Tryz.prog 32 #[codV c L U] w fun e w' => e = .returned (.bool (Pl.formedB c)) ∧ Below w.heap.size w w' := by
  have HF := Lib.hid (Pl.formedB_no1 hf)
  have HNF := Lib.hid hf
  obtain ⟨Al, capl, Vl, rfl, _⟩ := h.l.out
  obtain ⟨Au, capu, Vu, rfl, _⟩ := h.u
  have hs := h.s
  clear hf
  unfold codV
  go_enter Tryz.func32, Tryz.ntmps32
  go_wp2_with fail
  refine (rarity_any c.sel _ (by omega)).mono ?_
  rintro e w2 ⟨rfl, rfl⟩
  go_wp2_with fail
  all_goals first
    | (go_ret
       exact ⟨ret_bool (by rw [HF.out]), (Below.refl _ _).alloc (Nat.le_refl _) _⟩)
    | (exfalso
       apply HNF.out
       refine ⟨by assumption, ⟨by assumption, by assumption⟩, by omega, by omega, by omega⟩)
end Go.Proofs.YtoklnpoacckbfaaGreatDoor
namespace Go.Proofs.YtoklnpoacckbfaaGreatDoor
open Go.RowKit
set_option maxHeartbeats 400000 in
theorem frame_in (u : Pl.Unt) (a0 : 0 ≤ u.args) (a1 : u.args ≤ 15) (c0 : 0 ≤ u.copied) (c1 : u.copied ≤ 63) (l0 : 0 ≤ u.locals) (l1 : u.locals ≤ 63) (v : Value) (w : World) :
    Calls Tryz.prog 64 #[untV u v] w fun e w' => e = .returned (.int .i64 (Pl.frameOf u)) ∧ Below w.heap.size w w' := by
  unfold untV
  go_enter Tryz.func64, Tryz.ntmps64
  go_wp2_with fail
  go_ret
  exact ⟨rfl, (Below.refl _ _).alloc (Nat.le_refl _) _⟩
end Go.Proofs.YtoklnpoacckbfaaGreatDoor
