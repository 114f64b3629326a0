/- How many things a code has: far. Whether two lists of instructions, two literals, two codes are the same. Whether two literals are the same. -/
import Derived.Test.YtoklnpoacckbfaaGreatDoorKaah
import Derived.WalkKit
import Derived.WalkLawsBesides
import Derived.WalkSpells
import Derived.Lib.Hide
import Derived.Outline
import Derived.Deep.QuietTactic
import Derived.BigQuiet
import Derived.Laws.StructEq
import Derived.Deep.RegionHeld3
import Derived.Test.YtoklnpoacckbfaaGreatDoorKaae
import Derived.StillTailTactics
namespace Go.Proofs.YtoklnpoacckbfaaGreatDoor
open Go.RowKit
/-- a literal as a value -/
def litV (x : Pl.Lit) (v : Value) : Value := .agg #[.int .u8 x.kind, .int .i64 x.n, .int .u64 x.bits, .string x.text, v]
namespace Pl
theorem litsBig_get {l : List Lit} {i : Nat} {x : Lit} (h : l[i]? = some x) : litsBig (l.take (i + 1)) = litsBig (l.take i) + litBig x := by
  rw [List.take_add_one, h]
  have : ∀ (a : List Lit) (x : Lit), litsBig (a ++ [x]) = litsBig a + litBig x := by
    intro a x
    induction a with
    | nil => simp [litsBig]
    | cons y r ih => simp only [List.cons_append, litsBig]; rw [ih]; omega
  exact this _ _
end Pl
set_option maxRecDepth 100000 in
set_option maxHeartbeats 1000000 in
theorem weighLit_any {B : Nat} {w0 : World} {l : List Pl.Lit} {v : Value} (h : LitsAt B w0 l v) (hB0 : B ≤ w0.heap.size) : ∀ (x : Pl.Lit) (n deep : Nat) (w : World), x.items = l → Pl.LitW x → Below B w0 w → n ≤ 262144 → deep ≤ 60001 →
    Calls Tryz.prog 55 #[litV x v, .int .i64 n, .int .i64 deep] w fun e w' => (∃ m : Nat, e = .returned (.int .i64 m) ∧ m ≤ 140737488617473 ∧ (m ≤ 262144 → n + Pl.litBig x ≤ m)) ∧ Below w.heap.size w w' := by
  induction h with
  | mk A l cap V hB hrow hw hr ih =>
    intro x n deep w hx hxw hbel hn hd
    have hl1 := hrow.le
    have hl2 := hrow.len
    have ht := hxw.t
    subst hx
    have hbig : Pl.litBig x = 1 + x.text.size + Pl.litsBig x.items := by cases x; rfl
    have HBIG := Lib.hid hbig
    clear hbig
    unfold litV
    by_cases hdd : 60000 < deep
    · go_enter Tryz.func55, Tryz.ntmps55
      go_wp2_with fail
      go_ret
      exact ⟨⟨262145, rfl, by omega, fun h => absurd h (by decide)⟩, (Below.refl _ _).alloc (Nat.le_refl _) _⟩
    · go_enter Tryz.func55, Tryz.ntmps55
      go_wp2_with fail
      have hs0 := hbel.size
      go_loopw [1, 7] (fun nv iv wr => ∃ m k : Nat, nv = .int .i64 m ∧ iv = .int .i64 k ∧ k ≤ x.items.length ∧ m ≤ 140737488617473 ∧ (m ≤ 262144 → n + 1 + x.text.size + Pl.litsBig (x.items.take k) ≤ m) ∧ Below (w.heap.size + 1) (w.alloc (.cells #[.int .u8 x.kind, .int .i64 x.n, .int .u64 x.bits, .string x.text, .slice A x.items.length cap] 37)) wr) (fun _ iv _ => x.items.length - (intOf iv).toNat)
      case atStart => exact ⟨n + 1 + x.text.size, 0, by go_num, rfl, Nat.zero_le _, by omega, fun _ => by simp [Pl.litsBig], Below.refl _ _⟩
      case round =>
        obtain ⟨m, k, rfl, rfl, hk, hm, hrel, hb⟩ := hrel
        have c4 : wr.cell? ⟨w.heap.size, 4, none⟩ = some (.slice A x.items.length cap) := by
          rw [hb.cell (p := ⟨w.heap.size, 4, none⟩) (by simp)]; simp [go_sem]
        have HR := Lib.hid hrel
        clear hrel
        have hsz := hb.size
        simp only [World.size_alloc] at hsz
        by_cases hlt : k < x.items.length
        · by_cases hm2 : m ≤ 262144
          · obtain ⟨b, o, rfl, hbb⟩ := hrow.some_of hlt
            obtain ⟨y, hy⟩ : ∃ y, x.items[k]? = some y := ⟨_, List.getElem?_eq_getElem hlt⟩
            have hbB : b < B := hB (by intro e; rw [e] at hlt; simp at hlt) _ rfl
            have hB2 : Below B w0 wr := hbel.trans ((((Below.refl w.heap.size w).alloc (Nat.le_refl _) _).trans (hb.mono (by omega))).mono (by omega))
            have hrow' := hrow.keep hB2 hB
            obtain ⟨e0, e1, e2, e3, e4⟩ := hrow'.lit hy
            have HY := Lib.hid hy
            have hyw := hw y (List.mem_of_getElem? hy)
            clear hy
            go_wp2_with fail
            refine (ih k y HY.out y m (deep + 1) wr rfl hyw hB2 hm2 (by omega)).mono ?_
            rintro e w2 ⟨⟨m2, rfl, hm3, hm4⟩, hb2⟩
            have HM := Lib.hid hm4
            clear hm4
            go_wp2_with fail
            go_roundw
            case rel =>
              refine ⟨m2, k + 1, rfl, by go_num, by omega, hm3, ?_, hb.trans (hb2.mono (by omega))⟩
              intro h
              have h1 := HM.out h
              have h2 := HR.out hm2
              rw [Pl.litsBig_get HY.out]; omega
            case measure => simp [intOf]; omega
          · go_wp2_with fail
            go_ret
            exact ⟨⟨m, rfl, hm, fun h => absurd h hm2⟩, ((Below.refl _ _).alloc (Nat.le_refl _) _).trans (hb.mono (by omega))⟩
        · have hk2 : k = x.items.length := by omega
          have HK := Lib.hid hk2
          clear hk2
          go_wp2_with fail
          go_ret
          refine ⟨⟨m, rfl, hm, fun h => ?_⟩, ((Below.refl _ _).alloc (Nat.le_refl _) _).trans (hb.mono (by omega))⟩
          have h2 := HR.out h
          rw [HK.out, List.take_length] at h2
          rw [HBIG.out]; omega
namespace Pl
def untsBig : List Unt → Nat
  | [] => 0
  | u :: r => u.code.length + untsBig r
theorem untsBig_get {l : List Unt} {i : Nat} {x : Unt} (h : l[i]? = some x) : untsBig (l.take (i + 1)) = untsBig (l.take i) + x.code.length := by
  rw [List.take_add_one, h]
  have : ∀ (a : List Unt) (x : Unt), untsBig (a ++ [x]) = untsBig a + x.code.length := by
    intro a x
    induction a with
    | nil => simp [untsBig]
    | cons y r ih => simp only [List.cons_append, untsBig]; rw [ih]; omega
  exact this _ _
def codBig (c : Cod) : Nat := c.sel.size + c.units.length + litsBig c.lits + untsBig c.units
end Pl
/-- a code as it lies in memory -/
structure CodAt (B : Nat) (w : World) (c : Pl.Cod) (L U : Value) : Prop where
  l : LitsAt B w c.lits L
  u : UntsAt B w c.units U
  s : c.sel.size ≤ 140737488355328
  p0 : -9223372036854775808 ≤ c.prim
  p1 : c.prim ≤ 9223372036854775807
  b : B ≤ w.heap.size
theorem CodAt.keep {B : Nat} {w w' : World} {c : Pl.Cod} {L U : Value} (h : CodAt B w c L U) (hb : Below B w w') : CodAt B w' c L U :=
  ⟨h.l.keep hb, h.u.keep hb, h.s, h.p0, h.p1, Nat.le_trans h.b hb.size⟩
def codV (c : Pl.Cod) (L U : Value) : Value := .agg #[.string c.sel, .int .i64 c.prim, L, U]
set_option maxRecDepth 100000 in
set_option maxHeartbeats 1000000 in
theorem weighCode_any {B : Nat} {c : Pl.Cod} {L U : Value} (w : World) (h : CodAt B w c L U) :
    Calls Tryz.prog 25 #[codV c L U] w fun e w' => (∃ m : Nat, e = .returned (.int .i64 m) ∧ (m ≤ 262144 → Pl.codBig c ≤ m)) ∧ Below w.heap.size w w' := by
  obtain ⟨hl, hu, hs, hp0, hp1, hB⟩ := h
  have hl0 := hl
  have hlsz := hl.len
  obtain ⟨Al, capl, Vl, rfl, hBl, hrowl, hwl, hrl⟩ := hl.out
  obtain ⟨Au, capu, Vu, rfl, hBu, hrowu, hwu, hru⟩ := hu
  have hul := hrowu.len
  have h1 := hrowl.le
  have h2 := hrowu.le
  unfold codV
  go_enter Tryz.func25, Tryz.ntmps25
  go_wp2_with fail
  go_loopw [3, 4] (fun nv iv wr => ∃ m k : Nat, nv = .int .i64 m ∧ iv = .int .i64 k ∧ k ≤ c.lits.length ∧ m ≤ 400000000000000 ∧ (m ≤ 262144 → c.sel.size + c.units.length + Pl.litsBig (c.lits.take k) ≤ m) ∧ Below (w.heap.size + 1) (w.alloc (.cells #[.string c.sel, .int .i64 c.prim, .slice Al c.lits.length capl, .slice Au c.units.length capu] 25)) wr) (fun _ iv _ => c.lits.length - (intOf iv).toNat)
  case atStart => exact ⟨c.sel.size + c.units.length, 0, by go_num, rfl, Nat.zero_le _, by omega, fun _ => by simp [Pl.litsBig], Below.refl _ _⟩
  case round =>
    obtain ⟨m, k, rfl, rfl, hk, hm, hrel, hb⟩ := hrel
    have c2 : wr.cell? ⟨w.heap.size, 2, none⟩ = some (.slice Al c.lits.length capl) := by
      rw [hb.cell (p := ⟨w.heap.size, 2, none⟩) (by simp)]; simp [go_sem]
    have c3 : wr.cell? ⟨w.heap.size, 3, none⟩ = some (.slice Au c.units.length capu) := by
      rw [hb.cell (p := ⟨w.heap.size, 3, none⟩) (by simp)]; simp [go_sem]
    have HR := Lib.hid hrel
    clear hrel
    have hsz := hb.size
    simp only [World.size_alloc] at hsz
    have hbw : Below w.heap.size w wr := ((Below.refl w.heap.size w).alloc (Nat.le_refl _) _).trans (hb.mono (by omega))
    have hB2 : Below B w wr := hbw.mono hB
    by_cases hlt : k < c.lits.length ∧ m ≤ 262144
    · obtain ⟨hlt, hm2⟩ := hlt
      obtain ⟨b, o, rfl, hbb⟩ := hrowl.some_of hlt
      obtain ⟨y, hy⟩ : ∃ y, c.lits[k]? = some y := ⟨_, List.getElem?_eq_getElem hlt⟩
      have hrow' := hrowl.keep hB2 hBl
      obtain ⟨e0, e1, e2, e3, e4⟩ := hrow'.lit hy
      have hyw := hwl y (List.mem_of_getElem? hy)
      have hyl := hrl k y hy
      have HY := Lib.hid hy
      clear hy
      go_wp2_with fail
      refine (weighLit_any hyl hB y m 0 wr rfl hyw hB2 hm2 (by omega)).mono ?_
      rintro e w2 ⟨⟨m2, rfl, hm3, hm4⟩, hb2⟩
      have HM := Lib.hid hm4
      clear hm4
      go_wp2_with fail
      go_roundw
      case rel =>
        refine ⟨m2, k + 1, rfl, by go_num, by omega, by omega, ?_, hb.trans (hb2.mono (by omega))⟩
        intro h
        have h1 := HM.out h
        have h2 := HR.out hm2
        rw [Pl.litsBig_get HY.out]; omega
      case measure => simp [intOf]; omega
    · have hrel2 : m ≤ 262144 → c.sel.size + c.units.length + Pl.litsBig c.lits ≤ m := by
        intro h
        have hk2 : k = c.lits.length := by omega
        have h3 := HR.out h
        rw [hk2, List.take_length] at h3
        exact h3
      have HR2 := Lib.hid hrel2
      clear hrel2 HR
      obtain ⟨wp, hwp⟩ : ∃ x, x = wr := ⟨wr, rfl⟩
      subst hwp
      by_cases hlt2 : k < c.lits.length
      all_goals
        go_wp2_with fail
        go_loopw [3, 5] (fun nv iv wr => ∃ m2 j : Nat, nv = .int .i64 m2 ∧ iv = .int .i64 j ∧ j ≤ c.units.length ∧ m2 ≤ 600000000000000 ∧ (m2 ≤ 262144 → c.sel.size + c.units.length + Pl.litsBig c.lits + Pl.untsBig (c.units.take j) ≤ m2) ∧ Below wp.heap.size wp wr) (fun _ iv _ => c.units.length - (intOf iv).toNat)
        case atStart => exact ⟨m, 0, rfl, rfl, Nat.zero_le _, by omega, fun h => by have := HR2.out h; simp [Pl.untsBig]; omega, Below.refl _ _⟩
        case round =>
          obtain ⟨m2, j, rfl, rfl, hj, hm2, hrel, hb2⟩ := hrel
          have HR := Lib.hid hrel
          clear hrel
          have d3 : wr.cell? ⟨w.heap.size, 3, none⟩ = some (.slice Au c.units.length capu) := by
            rw [hb2.cell (p := ⟨w.heap.size, 3, none⟩) (by show w.heap.size < wp.heap.size; omega)]; exact c3
          have hsz2 := hb2.size
          have hbB2 : Below B w wr := hB2.trans (hb2.mono (by omega))
          have hend : Below w.heap.size w wr := hbw.trans (hb2.mono (by omega))
          by_cases hlu : j < c.units.length ∧ m2 ≤ 262144
          · obtain ⟨hlu, hm3⟩ := hlu
            obtain ⟨bu, ou, rfl, hbb⟩ := hrowu.some_of hlu
            obtain ⟨y, hy⟩ : ∃ y, c.units[j]? = some y := ⟨_, List.getElem?_eq_getElem hlu⟩
            have hrow' := hrowu.keep hbB2 hBu
            obtain ⟨e0, e1, e2, e3, e4⟩ := hrow'.unt hy
            obtain ⟨Ai, capi, hVi, hBi, hrowi, hwi⟩ := hru j y hy
            have hil := hrowi.len
            rw [hVi] at e4
            have HY := Lib.hid hy
            clear hy hVi
            go_wp2_with fail
            go_roundw
            case rel =>
              refine ⟨m2 + y.code.length, j + 1, by go_num, by go_num, by omega, by omega, ?_, hb2⟩
              intro h
              have h2 := HR.out hm3
              rw [Pl.untsBig_get HY.out]; omega
            case measure => simp [intOf]; omega
          · have hrel3 : m2 ≤ 262144 → Pl.codBig c ≤ m2 := by
              intro h
              have hk2 : j = c.units.length := by omega
              have h3 := HR.out h
              rw [hk2, List.take_length] at h3
              unfold Pl.codBig; exact h3
            have HR3 := Lib.hid hrel3
            clear hrel3 HR
            by_cases hlu2 : j < c.units.length
            all_goals
              go_wp2_with fail
              go_ret
              exact ⟨⟨m2, rfl, HR3.out⟩, hend⟩
set_option maxRecDepth 100000 in
set_option maxHeartbeats 1000000 in
theorem far_any {B : Nat} {c : Pl.Cod} {L U : Value} (w : World) (h : CodAt B w c L U) :
    Calls Tryz.prog 9 #[codV c L U] w fun e w' => (∃ t : Bool, e = .returned (.bool t) ∧ (t = false → Pl.codBig c ≤ 262144)) ∧ Below w.heap.size w w' := by
  have hw := fun w' (h' : CodAt B w' c L U) => weighCode_any w' h'
  unfold codV at hw ⊢
  go_enter Tryz.func9, Tryz.ntmps9
  go_wp2_with fail
  refine (hw _ (h.keep ((Below.refl _ _).alloc h.b _))).mono ?_
  rintro e w2 ⟨⟨m, rfl, hm⟩, hb⟩
  have HM := Lib.hid hm
  clear hm
  go_wp2_with fail
  all_goals
    go_ret
    refine ⟨⟨_, rfl, fun h => ?_⟩, ((Below.refl _ _).alloc (Nat.le_refl _) _).trans (hb.mono (by simp))⟩
    have := HM.out
    simp at h; omega
end Go.Proofs.YtoklnpoacckbfaaGreatDoor
namespace Go.Proofs.YtoklnpoacckbfaaGreatDoor
open Go.RowKit
namespace Pl
open Classical in
noncomputable def same {α : Type} (a b : α) : Bool := decide (a = b)
theorem same_true {α : Type} {a b : α} (h : a = b) : same a b = true := by unfold same; simpa using h
theorem same_false {α : Type} {a b : α} (h : a ≠ b) : same a b = false := by unfold same; simpa using h
theorem eq_of_get {α : Type} {a b : List α} (hl : a.length = b.length) (h : ∀ i, i < a.length → a[i]? = b[i]?) : a = b := by
  apply List.ext_getElem? ; intro i
  by_cases hi : i < a.length
  · exact h i hi
  · rw [List.getElem?_eq_none (by omega), List.getElem?_eq_none (by omega)]
theorem insEq {x y : Ins} : x = y ↔ (x.op = y.op ∧ x.a = y.a ∧ x.b = y.b) := by cases x; cases y; simp
end Pl
theorem below_drewN (B : Nat) (w : World) (n : Nat) : Below B w (w.drewN n) := ⟨rfl, rfl, rfl, Nat.le_refl _, fun _ _ => rfl⟩
theorem neq_ins (x y : Pl.Ins) (w : World) : (binOp .neq 61 (.agg #[.int .u8 x.op, .int .i64 x.a, .int .i64 x.b]) (.agg #[.int .u8 y.op, .int .i64 y.a, .int .i64 y.b])).run Tryz.prog w = .ok (.bool (!(Pl.same x y))) w := by
  have hS : Tryz.prog.underlying 61 = some (.struct (Tryz.prog.fieldsOf 61)) := by kernel_rfl
  have hp : Tryz.prog.stoodInHeld 61 = false := by kernel_rfl
  have u3 := Tryz.underlying3
  have a3 := Tryz.isAgg3
  have z3 := Tryz.sizeOf3
  have u5 := Tryz.underlying59
  have a5 := Tryz.isAgg59
  have z5 := Tryz.sizeOf59
  rw [run_neq_struct, show (10000 : Nat) = 9999 + 1 from rfl, run_equalIn_agg w 9999 61 _ _ hS hp]
  simp only [Program.fieldsOf, Tryz.underlying61]
  go_simp
  have e : Pl.same x y = (decide (x.op = y.op) && (decide (x.a = y.a) && decide (x.b = y.b))) := by
    unfold Pl.same; rw [Bool.eq_iff_iff]; simp [Pl.insEq]
  rw [e]
  by_cases h1 : x.op = y.op <;> by_cases h2 : x.a = y.a <;> by_cases h3 : x.b = y.b <;> simp [h1, h2, h3] <;> omega
theorem neq_ins_t {x y : Pl.Ins} (h : x = y) (w : World) : (binOp .neq 61 (.agg #[.int .u8 x.op, .int .i64 x.a, .int .i64 x.b]) (.agg #[.int .u8 y.op, .int .i64 y.a, .int .i64 y.b])).run Tryz.prog w = .ok (.bool false) w := by rw [neq_ins, Pl.same_true h]; rfl
theorem neq_ins_f {x y : Pl.Ins} (h : x ≠ y) (w : World) : (binOp .neq 61 (.agg #[.int .u8 x.op, .int .i64 x.a, .int .i64 x.b]) (.agg #[.int .u8 y.op, .int .i64 y.a, .int .i64 y.b])).run Tryz.prog w = .ok (.bool true) w := by rw [neq_ins, Pl.same_false h]; rfl
theorem guard_ins (op : BinOp) (x y : Operand) (xs ys : Array Value) (w : World) : (eqGuard op 61 x y (.agg xs) (.agg ys)).run Tryz.prog w = .ok () w := run_eqGuard_agg w op 61 x y xs ys (by kernel_rfl)
set_option maxRecDepth 100000 in
set_option maxHeartbeats 1000000 in
theorem sameInstrs_any {B : Nat} {a b : List Pl.Ins} {va vb : Value} (w : World) (ha : InssAt B w a va) (hb : InssAt B w b vb) (hB : B ≤ w.heap.size) :
    Calls Tryz.prog 31 #[va, vb] w fun e w' => e = .returned (.bool (Pl.same a b)) ∧ Below w.heap.size w w' := by
  obtain ⟨Aa, capa, rfl, hBa, hra, hwa⟩ := ha
  obtain ⟨Ab, capb, rfl, hBb, hrb, hwb⟩ := hb
  have h1 := hra.len
  have h2 := hrb.len
  have h3 := hra.le
  have h4 := hrb.le
  by_cases hlen : a.length = b.length
  · have HL := Lib.hid hlen
    go_enter Tryz.func31, Tryz.ntmps31
    go_wp2_with fail
    go_loopw [5] (fun iv wr => ∃ k : Nat, iv = .int .i64 k ∧ k ≤ a.length ∧ (∀ i, i < k → a[i]? = b[i]?) ∧ Below w.heap.size w wr) (fun iv _ => a.length - (intOf iv).toNat)
    case atStart => exact ⟨0, rfl, Nat.zero_le _, fun i hi => absurd hi (Nat.not_lt_zero _), Below.refl _ _⟩
    case round =>
      obtain ⟨k, rfl, hk, hrel, hbl⟩ := hrel
      have HR := Lib.hid hrel
      clear hrel
      by_cases hlt : k < a.length
      · have hltb : k < b.length := by have := HL.out; omega
        obtain ⟨ba, oa, rfl, hba⟩ := hra.some_of hlt
        obtain ⟨bb, ob, rfl, hbb⟩ := hrb.some_of hltb
        obtain ⟨x, hx⟩ : ∃ x, a[k]? = some x := ⟨_, List.getElem?_eq_getElem hlt⟩
        obtain ⟨y, hy⟩ : ∃ y, b[k]? = some y := ⟨_, List.getElem?_eq_getElem hltb⟩
        obtain ⟨d0, d1, d2⟩ := (hra.keep (hbl.mono hB) hBa).ins hx
        obtain ⟨e0, e1, e2⟩ := (hrb.keep (hbl.mono hB) hBb).ins hy
        have HX := Lib.hid hx
        have HY := Lib.hid hy
        clear hx hy
        have hltI : (k : Int) < (a.length : Int) := by omega
        have hltI2 : (k : Int) < (b.length : Int) := by omega
        have hk0 : (0 : Int) ≤ (k : Int) := by omega
        by_cases hxy : x = y
        · have hne := neq_ins_t hxy
          have hgd := guard_ins .neq
          have HXY := Lib.hid hxy
          clear hxy
          go_wp2_with fail
          go_quiet (fail)
          go_wp2_with fail
          go_roundw
          case rel =>
            refine ⟨k + 1, by go_num, by omega, ?_, hbl.trans (by exact below_drewN _ _ _)⟩
            intro i hi
            by_cases e : i = k
            · subst e; rw [HX.out, HY.out, HXY.out]
            · exact HR.out i (by omega)
          case measure => simp [intOf]; omega
        · have hne := neq_ins_f hxy
          have hgd := guard_ins .neq
          have hab : a ≠ b := by intro e; have h1 := HX.out; rw [e, HY.out] at h1; exact hxy (Option.some.inj h1).symm
          have HAB := Lib.hid hab
          clear hxy hab
          go_wp2_with fail
          go_quiet (fail)
          go_wp2_with fail
          go_ret
          exact ⟨ret_bool (by rw [Pl.same_false HAB.out]), hbl.trans (below_drewN _ _ _)⟩
      · have hab : a = b := Pl.eq_of_get HL.out (fun i hi => HR.out i (by omega))
        have HAB := Lib.hid hab
        clear hab
        go_wp2_with fail
        go_ret
        exact ⟨ret_bool (by rw [Pl.same_true HAB.out]), hbl⟩
  · have hab : a ≠ b := fun e => hlen (by rw [e])
    have HAB := Lib.hid hab
    clear hab
    go_enter Tryz.func31, Tryz.ntmps31
    go_wp2_with fail
    go_ret
    exact ⟨ret_bool (by rw [Pl.same_false HAB.out]), Below.refl _ _⟩
end Go.Proofs.YtoklnpoacckbfaaGreatDoor
namespace Go.Proofs.YtoklnpoacckbfaaGreatDoor
open Go.RowKit
namespace Pl
theorem byteArray_eq {a b : ByteArray} : (a.toList == b.toList) = true ↔ a = b := by
  rw [beq_iff_eq, ByteArray.toList_eq, ByteArray.toList_eq]
  cases a; cases b; simp
theorem litEq {x y : Lit} : x = y ↔ (x.kind = y.kind ∧ x.n = y.n ∧ x.bits = y.bits ∧ x.text = y.text ∧ x.items = y.items) := by
  cases x; cases y; simp [Lit.kind, Lit.n, Lit.bits, Lit.text, Lit.items]
end Pl
theorem boxCells {w : World} {cs : Array Value} {t : TypeId} {W : World} (hb : Below (w.heap.size + 1) (w.alloc (.cells cs t)) W) {j : Nat} {u : Value} (h : cs[j]? = some u) : W.cell? ⟨w.heap.size, j, none⟩ = some u := by
  rw [hb.cell (p := ⟨w.heap.size, j, none⟩) (by simp)]
  simp [go_sem, h]
set_option maxRecDepth 100000 in
set_option maxHeartbeats 2000000 in
theorem sameLit_any {B : Nat} {w0 : World} {la : List Pl.Lit} {va : Value} (h : LitsAt B w0 la va) (hB0 : B ≤ w0.heap.size) : ∀ (x y : Pl.Lit) (vb : Value) (w : World), x.items = la → Below B w0 w → LitsAt B w0 y.items vb →
    Calls Tryz.prog 30 #[litV x va, litV y vb] w fun e w' => e = .returned (.bool (Pl.same x y)) ∧ Below w.heap.size w w' := by
  induction h with
  | mk A l cap V hB hrow hw hr ih =>
    intro x y vb w hx hbel hy
    obtain ⟨Ab, capb, Vb, rfl, hBb, hrowb, hwb, hrb⟩ := hy.out
    have h1 := hrow.le
    have h2 := hrow.len
    have h3 := hrowb.le
    have h4 := hrowb.len
    subst hx
    have hs0 := hbel.size
    unfold litV
    go_enter Tryz.func30, Tryz.ntmps30
    go_wp2_with fail
    any_goals
      go_ret
      refine ⟨ret_bool ?_, ((Below.refl _ _).alloc (Nat.le_refl _) _).alloc (by simp) _⟩
      rw [Pl.same_false]
      intro e
      subst e
      first
        | (rename_i h0; exact h0 rfl)
        | (rename_i h0; simp at h0)
    rename_i e1 e2 e3 e4 e5 K1 K2
    have hlen : x.items.length = y.items.length := by simp at e5; omega
    have HXY := Lib.hid (show x.items = y.items → x = y from fun e => Pl.litEq.2 ⟨by omega, e2, by omega, Pl.byteArray_eq.1 (by simpa using e4), e⟩)
    have HNE := Lib.hid (show x.items ≠ y.items → x ≠ y from fun h e => h (by rw [e]))
    have HL := Lib.hid hlen
    clear e1 e2 e3 e4 e5 hlen
    obtain ⟨W0, hW0⟩ : ∃ W0, (w.alloc (.cells #[.int .u8 y.kind, .int .i64 y.n, .int .u64 y.bits, .string x.text, .slice A x.items.length cap] 37)).alloc (.cells #[.int .u8 y.kind, .int .i64 y.n, .int .u64 y.bits, .string y.text, .slice Ab y.items.length capb] 37) = W0 := ⟨_, rfl⟩
    have HB0 := Lib.hid (show Below w.heap.size w ((w.alloc (.cells #[.int .u8 y.kind, .int .i64 y.n, .int .u64 y.bits, .string x.text, .slice A x.items.length cap] 37)).alloc (.cells #[.int .u8 y.kind, .int .i64 y.n, .int .u64 y.bits, .string y.text, .slice Ab y.items.length capb] 37)) from ((Below.refl _ _).alloc (Nat.le_refl _) _).alloc (by simp) _)
    have c0 : W0.cell? ⟨w.heap.size, 4, none⟩ = some (.slice A x.items.length cap) := by rw [← hW0]; simp [go_sem]
    have c1 : W0.cell? ⟨w.heap.size + 1, 4, none⟩ = some (.slice Ab y.items.length capb) := by rw [← hW0]; simp [go_sem]
    have hz : W0.heap.size = w.heap.size + 2 := by rw [← hW0]; simp
    rw [hW0] at HB0 ⊢
    clear hW0
    go_loopw [5] (fun iv wr => ∃ k : Nat, iv = .int .i64 k ∧ k ≤ x.items.length ∧ (∀ i, i < k → x.items[i]? = y.items[i]?) ∧ Below W0.heap.size W0 wr) (fun iv _ => x.items.length - (intOf iv).toNat)
    case atStart => exact ⟨0, rfl, Nat.zero_le _, fun i hi => absurd hi (Nat.not_lt_zero _), Below.refl _ _⟩
    case round =>
      obtain ⟨k, rfl, hk, hrel, hbl⟩ := hrel
      have HR := Lib.hid hrel
      clear hrel
      have d0 : wr.cell? ⟨w.heap.size, 4, none⟩ = some (.slice A x.items.length cap) := by rw [hbl.cell (p := ⟨w.heap.size, 4, none⟩) (by simp; omega)]; exact c0
      have d1 : wr.cell? ⟨w.heap.size + 1, 4, none⟩ = some (.slice Ab y.items.length capb) := by rw [hbl.cell (p := ⟨w.heap.size + 1, 4, none⟩) (by simp; omega)]; exact c1
      have hbw : Below w.heap.size w wr := HB0.out.trans (hbl.mono (by omega))
      have hB2 : Below B w0 wr := hbel.trans (hbw.mono (by omega))
      by_cases hlt : k < x.items.length
      · have hltb : k < y.items.length := by have := HL.out; omega
        obtain ⟨ba, oa, rfl, hba⟩ := hrow.some_of hlt
        obtain ⟨bb, ob, rfl, hbb⟩ := hrowb.some_of hltb
        obtain ⟨p, hp⟩ : ∃ p, x.items[k]? = some p := ⟨_, List.getElem?_eq_getElem hlt⟩
        obtain ⟨q, hq⟩ : ∃ q, y.items[k]? = some q := ⟨_, List.getElem?_eq_getElem hltb⟩
        obtain ⟨a0, a1, a2, a3, a4⟩ := (hrow.keep hB2 hB).lit hp
        obtain ⟨b0, b1, b2, b3, b4⟩ := (hrowb.keep hB2 hBb).lit hq
        have HP := Lib.hid hp
        have HQ := Lib.hid hq
        have hqa := hrb k q hq
        clear hp hq
        have hltI : (k : Int) < (x.items.length : Int) := by omega
        have hltI2 : (k : Int) < (y.items.length : Int) := by omega
        have hk0 : (0 : Int) ≤ (k : Int) := by omega
        go_wp2_with fail
        go_still_tail 10, (by kernel_rfl)
        change wpList _ _ _ _ _ wr.drew
        generalize hwd : wr.drew = w2
        have hbd : Below wr.heap.size wr w2 := by rw [← hwd]; exact (Below.refl _ _).drew
        have hzd : w2.heap.size = wr.heap.size := by rw [← hwd]; rfl
        clear hwd
        have IH := ih k p HP.out p q (Vb k) w2 rfl (hB2.trans (hbd.mono (by have := hbl.size; omega))) hqa
        by_cases hpq : p = q
        · rw [Pl.same_true hpq] at IH
          have HPQ := Lib.hid hpq
          have IH := Lib.hid IH
          clear hpq
          go_wp2_with fail
          refine IH.out.mono ?_
          rintro e w3 ⟨rfl, hb3⟩
          go_wp2_with fail
          go_roundw
          case rel =>
            refine ⟨k + 1, by go_num, by omega, ?_, (hbl.trans (hbd.mono (by have := hbl.size; omega))).trans (hb3.mono (by have := hbl.size; omega))⟩
            intro i hi
            by_cases e : i = k
            · subst e; rw [HP.out, HQ.out, HPQ.out]
            · exact HR.out i (by omega)
          case measure => simp [intOf]; omega
        · rw [Pl.same_false hpq] at IH
          have IH := Lib.hid IH
          have hne : x.items ≠ y.items := by intro e; have h1 := HP.out; rw [e, HQ.out] at h1; exact hpq (Option.some.inj h1).symm
          have HAB := Lib.hid (HNE.out hne)
          clear hpq hne
          go_wp2_with fail
          refine IH.out.mono ?_
          rintro e w3 ⟨rfl, hb3⟩
          go_wp2_with fail
          go_ret
          exact ⟨ret_bool (by rw [Pl.same_false HAB.out]), hbw.trans ((hbd.mono (by have := hbl.size; omega)).trans (hb3.mono (by have := hbl.size; omega)))⟩
      · have hab : x = y := HXY.out (Pl.eq_of_get HL.out (fun i hi => HR.out i (by omega)))
        have HAB := Lib.hid hab
        clear hab
        go_wp2_with fail
        go_ret
        exact ⟨ret_bool (by rw [Pl.same_true HAB.out]), hbw⟩
end Go.Proofs.YtoklnpoacckbfaaGreatDoor
