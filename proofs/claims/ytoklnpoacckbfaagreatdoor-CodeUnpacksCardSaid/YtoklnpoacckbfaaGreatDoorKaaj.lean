/- Whether two codes are the same. The table of operations: code.shapes, code.of. (Printed by gen_of.py.) -/
import Derived.Test.YtoklnpoacckbfaaGreatDoorKaai
import Derived.Deep.WholeRow
namespace Go.Proofs.YtoklnpoacckbfaaGreatDoor
open Go.RowKit
namespace Pl
theorem untEq {x y : Unt} : x = y ↔ (x.args = y.args ∧ x.copied = y.copied ∧ x.locals = y.locals ∧ x.stack = y.stack ∧ x.code = y.code) := by
  cases x; cases y; simp
theorem codEq {x y : Cod} : x = y ↔ (x.sel = y.sel ∧ x.prim = y.prim ∧ x.lits = y.lits ∧ x.units = y.units) := by
  cases x; cases y; simp
end Pl
theorem newCells2 {W W5 : World} {c1 c2 : Array Value} {t1 t2 : TypeId} (hb : Below (W.heap.size + 2) ((W.alloc (.cells c1 t1)).alloc (.cells c2 t2)) W5) :
    (∀ (i : Nat) (u : Value), c1[i]? = some u → W5.cell? ⟨W.heap.size, i, none⟩ = some u) ∧ (∀ (i : Nat) (u : Value), c2[i]? = some u → W5.cell? ⟨W.heap.size + 1, i, none⟩ = some u) := by
  constructor
  · intro i u h
    rw [hb.cell (p := ⟨W.heap.size, i, none⟩) (by simp)]; simp [go_sem, h]
  · intro i u h
    rw [hb.cell (p := ⟨W.heap.size + 1, i, none⟩) (by simp)]; simp [go_sem, h]
set_option maxRecDepth 100000 in
set_option maxHeartbeats 4000000 in
theorem sameCode_any {B : Nat} {x y : Pl.Cod} {La Ua Lb Ub : Value} (w : World) (hx : CodAt B w x La Ua) (hy : CodAt B w y Lb Ub) :
    Calls Tryz.prog 12 #[codV x La Ua, codV y Lb Ub] w fun e w' => e = .returned (.bool (Pl.same x y)) ∧ Below w.heap.size w w' := by
  have hBw := hx.b
  have hxl := hx.l
  have hyl := hy.l
  obtain ⟨Al, capl, Vl, rfl, hBl, hrowl, hwl, hrl⟩ := hx.l.out
  obtain ⟨Au, capu, Vu, rfl, hBu, hrowu, hwu, hru⟩ := hx.u
  obtain ⟨Am, capm, Vm, rfl, hBm, hrowm, hwm, hrm⟩ := hy.l.out
  obtain ⟨Av, capv, Vv, rfl, hBv, hrowv, hwv, hrv⟩ := hy.u
  have h1 := hrowl.le
  have h2 := hrowl.len
  have h3 := hrowu.le
  have h4 := hrowu.len
  have h5 := hrowm.le
  have h6 := hrowm.len
  have h7 := hrowv.le
  have h8 := hrowv.len
  unfold codV
  go_enter Tryz.func12, Tryz.ntmps12
  go_wp2_with fail
  any_goals
    go_ret
    refine ⟨ret_bool ?_, ((Below.refl _ _).alloc (Nat.le_refl _) _).alloc (by simp) _⟩
    rw [Pl.same_false]
    intro e
    subst e
    first
      | (rename_i h0; exact h0 rfl)
      | (rename_i h0; simp at h0)
  rename_i e1 e2 e3 e4 K1 K2
  have hll : x.lits.length = y.lits.length := by omega
  have hlu : x.units.length = y.units.length := by simp at e4; omega
  have HXY := Lib.hid (show x.lits = y.lits → x.units = y.units → x = y from fun f g => Pl.codEq.2 ⟨Pl.byteArray_eq.1 (by simpa using e1), e2, f, g⟩)
  have HNL := Lib.hid (show x.lits ≠ y.lits → x ≠ y from fun h e => h (by rw [e]))
  have HNU := Lib.hid (show x.units ≠ y.units → x ≠ y from fun h e => h (by rw [e]))
  have HL := Lib.hid hll
  have HU := Lib.hid hlu
  clear e1 e2 e3 e4 hll hlu
  obtain ⟨W0, hW0⟩ : ∃ W0, (w.alloc (.cells #[.string x.sel, .int .i64 y.prim, .slice Al x.lits.length capl, .slice Au x.units.length capu] 25)).alloc (.cells #[.string y.sel, .int .i64 y.prim, .slice Am y.lits.length capm, .slice Av y.units.length capv] 25) = W0 := ⟨_, rfl⟩
  have HB0 := Lib.hid (show Below w.heap.size w ((w.alloc (.cells #[.string x.sel, .int .i64 y.prim, .slice Al x.lits.length capl, .slice Au x.units.length capu] 25)).alloc (.cells #[.string y.sel, .int .i64 y.prim, .slice Am y.lits.length capm, .slice Av y.units.length capv] 25)) from ((Below.refl _ _).alloc (Nat.le_refl _) _).alloc (by simp) _)
  have c0 : W0.cell? ⟨w.heap.size, 2, none⟩ = some (.slice Al x.lits.length capl) := by rw [← hW0]; simp [go_sem]
  have c1 : W0.cell? ⟨w.heap.size, 3, none⟩ = some (.slice Au x.units.length capu) := by rw [← hW0]; simp [go_sem]
  have c2 : W0.cell? ⟨w.heap.size + 1, 2, none⟩ = some (.slice Am y.lits.length capm) := by rw [← hW0]; simp [go_sem]
  have c3 : W0.cell? ⟨w.heap.size + 1, 3, none⟩ = some (.slice Av y.units.length capv) := by rw [← hW0]; simp [go_sem]
  have hz : W0.heap.size = w.heap.size + 2 := by rw [← hW0]; simp
  rw [hW0] at HB0 ⊢
  clear hW0
  go_loopw [5] (fun iv wr => ∃ k : Nat, iv = .int .i64 k ∧ k ≤ x.lits.length ∧ (∀ i, i < k → x.lits[i]? = y.lits[i]?) ∧ Below W0.heap.size W0 wr) (fun iv _ => x.lits.length - (intOf iv).toNat)
  case atStart => exact ⟨0, rfl, Nat.zero_le _, fun i hi => absurd hi (Nat.not_lt_zero _), Below.refl _ _⟩
  case round =>
    obtain ⟨k, rfl, hk, hrel, hbl⟩ := hrel
    have HR := Lib.hid hrel
    clear hrel
    have d0 : wr.cell? ⟨w.heap.size, 2, none⟩ = some (.slice Al x.lits.length capl) := by rw [hbl.cell (p := ⟨w.heap.size, 2, none⟩) (by simp; omega)]; exact c0
    have d2 : wr.cell? ⟨w.heap.size + 1, 2, none⟩ = some (.slice Am y.lits.length capm) := by rw [hbl.cell (p := ⟨w.heap.size + 1, 2, none⟩) (by simp; omega)]; exact c2
    have hbw : Below w.heap.size w wr := HB0.out.trans (hbl.mono (by omega))
    have hB2 : Below B w wr := hbw.mono hBw
    have hsz := hbl.size
    by_cases hlt : k < x.lits.length
    · have hltb : k < y.lits.length := by have := HL.out; omega
      obtain ⟨ba, oa, rfl, hba⟩ := hrowl.some_of hlt
      obtain ⟨bb, ob, rfl, hbb⟩ := hrowm.some_of hltb
      obtain ⟨p, hp⟩ : ∃ p, x.lits[k]? = some p := ⟨_, List.getElem?_eq_getElem hlt⟩
      obtain ⟨q, hq⟩ : ∃ q, y.lits[k]? = some q := ⟨_, List.getElem?_eq_getElem hltb⟩
      obtain ⟨a0, a1, a2, a3, a4⟩ := (hrowl.keep hB2 hBl).lit hp
      obtain ⟨b0, b1, b2, b3, b4⟩ := (hrowm.keep hB2 hBm).lit hq
      have hpa := hrl k p hp
      have hqa := hrm k q hq
      have HP := Lib.hid hp
      have HQ := Lib.hid hq
      clear hp hq
      have hltI : (k : Int) < (x.lits.length : Int) := by omega
      have hltI2 : (k : Int) < (y.lits.length : Int) := by omega
      have hk0 : (0 : Int) ≤ (k : Int) := by omega
      go_wp2_with fail
      go_still_tail 10, (by kernel_rfl)
      change wpList _ _ _ _ _ wr.drew
      generalize hwd : wr.drew = w2
      have hbd : Below wr.heap.size wr w2 := by rw [← hwd]; exact (Below.refl _ _).drew
      have hzd : w2.heap.size = wr.heap.size := by rw [← hwd]; rfl
      clear hwd
      have IH := sameLit_any hpa hBw p q (Vm k) w2 rfl (hB2.trans (hbd.mono (by omega))) hqa
      by_cases hpq : p = q
      · rw [Pl.same_true hpq] at IH
        have HPQ := Lib.hid hpq
        have IH := Lib.hid IH
        clear hpq
        go_wp2_with fail
        refine IH.out.mono ?_
        rintro e w3 ⟨rfl, hb3⟩
        go_wp2_with fail
        go_roundw
        case rel =>
          refine ⟨k + 1, by go_num, by omega, ?_, (hbl.trans (hbd.mono (by omega))).trans (hb3.mono (by omega))⟩
          intro i hi
          by_cases e : i = k
          · subst e; rw [HP.out, HQ.out, HPQ.out]
          · exact HR.out i (by omega)
        case measure => simp [intOf]; omega
      · rw [Pl.same_false hpq] at IH
        have IH := Lib.hid IH
        have hne : x.lits ≠ y.lits := by intro e; have h1 := HP.out; rw [e, HQ.out] at h1; exact hpq (Option.some.inj h1).symm
        have HAB := Lib.hid (HNL.out hne)
        clear hpq hne
        go_wp2_with fail
        refine IH.out.mono ?_
        rintro e w3 ⟨rfl, hb3⟩
        go_wp2_with fail
        go_ret
        exact ⟨ret_bool (by rw [Pl.same_false HAB.out]), hbw.trans ((hbd.mono (by omega)).trans (hb3.mono (by omega)))⟩
    · have heq : x.lits = y.lits := Pl.eq_of_get HL.out (fun i hi => HR.out i (by omega))
      have HEQ := Lib.hid heq
      clear heq HR
      have d1 : wr.cell? ⟨w.heap.size, 3, none⟩ = some (.slice Au x.units.length capu) := by rw [hbl.cell (p := ⟨w.heap.size, 3, none⟩) (by simp; omega)]; exact c1
      have d3 : wr.cell? ⟨w.heap.size + 1, 3, none⟩ = some (.slice Av y.units.length capv) := by rw [hbl.cell (p := ⟨w.heap.size + 1, 3, none⟩) (by simp; omega)]; exact c3
      obtain ⟨wp, hwp⟩ : ∃ x, x = wr := ⟨wr, rfl⟩
      subst hwp
      go_wp2_with fail
      clear d0 d2 c0 c1 c2 c3
      go_loopw [7] (fun iv wr => ∃ k : Nat, iv = .int .i64 k ∧ k ≤ x.units.length ∧ (∀ i, i < k → x.units[i]? = y.units[i]?) ∧ Below wp.heap.size wp wr) (fun iv _ => x.units.length - (intOf iv).toNat)
      case atStart => exact ⟨0, rfl, Nat.zero_le _, fun i hi => absurd hi (Nat.not_lt_zero _), Below.refl _ _⟩
      case round =>
        obtain ⟨j, rfl, hj, hrel, hb2⟩ := hrel
        have HR := Lib.hid hrel
        clear hrel
        have f1 : wr.cell? ⟨w.heap.size, 3, none⟩ = some (.slice Au x.units.length capu) := by rw [hb2.cell (p := ⟨w.heap.size, 3, none⟩) (by show w.heap.size < wp.heap.size; omega)]; exact d1
        have f3 : wr.cell? ⟨w.heap.size + 1, 3, none⟩ = some (.slice Av y.units.length capv) := by rw [hb2.cell (p := ⟨w.heap.size + 1, 3, none⟩) (by show w.heap.size + 1 < wp.heap.size; omega)]; exact d3
        have hbw2 : Below w.heap.size w wr := hbw.trans (hb2.mono (by omega))
        have hB3 : Below B w wr := hbw2.mono hBw
        have hsz2 := hb2.size
        by_cases hlt : j < x.units.length
        · have hltb : j < y.units.length := by have := HU.out; omega
          obtain ⟨ba, oa, rfl, hba⟩ := hrowu.some_of hlt
          obtain ⟨bb, ob, rfl, hbb⟩ := hrowv.some_of hltb
          obtain ⟨p, hp⟩ : ∃ p, x.units[j]? = some p := ⟨_, List.getElem?_eq_getElem hlt⟩
          obtain ⟨q, hq⟩ : ∃ q, y.units[j]? = some q := ⟨_, List.getElem?_eq_getElem hltb⟩
          obtain ⟨a0, a1, a2, a3, a4⟩ := (hrowu.keep hB3 hBu).unt hp
          obtain ⟨b0, b1, b2, b3, b4⟩ := (hrowv.keep hB3 hBv).unt hq
          have hpa := (hru j p hp).keep hB3
          have hqa := (hrv j q hq).keep hB3
          have hpe := hpa
          have hqe := hqa
          obtain ⟨Ap, capp, hVp, _⟩ := hpe
          obtain ⟨Aq, capq, hVq, _⟩ := hqe
          rw [hVp] at a4 hpa
          rw [hVq] at b4 hqa
          have HP := Lib.hid hp
          have HQ := Lib.hid hq
          clear hp hq hVp hVq
          have hbb2 : bb < wr.heap.size := by have := hB3.size; omega
          have hba2 : ba < wr.heap.size := by have := hB3.size; omega
          have hw1 : w.heap.size < wr.heap.size := by omega
          have hw2 : w.heap.size + 1 < wr.heap.size := by omega
          have SI := fun (W : World) (hb : Below wr.heap.size wr W) => sameInstrs_any W (hpa.keep (hb.mono (by omega))) (hqa.keep (hb.mono (by omega))) (by have := hb.size; omega)
          have SI := Lib.hid SI
          go_wp2_with fail
          refine (SI.out _ (((Below.refl _ _).alloc (Nat.le_refl _) _).alloc (by simp) _)).mono ?_
          rintro e w5 ⟨rfl, hb5⟩
          have g : (w5.cell? ⟨wr.heap.size, 0, none⟩ = some (.int .i64 p.args) ∧ w5.cell? ⟨wr.heap.size, 1, none⟩ = some (.int .i64 p.copied) ∧ w5.cell? ⟨wr.heap.size, 2, none⟩ = some (.int .i64 p.locals) ∧ w5.cell? ⟨wr.heap.size, 3, none⟩ = some (.int .i64 p.stack)) ∧
              (w5.cell? ⟨wr.heap.size + 1, 0, none⟩ = some (.int .i64 q.args) ∧ w5.cell? ⟨wr.heap.size + 1, 1, none⟩ = some (.int .i64 q.copied) ∧ w5.cell? ⟨wr.heap.size + 1, 2, none⟩ = some (.int .i64 q.locals) ∧ w5.cell? ⟨wr.heap.size + 1, 3, none⟩ = some (.int .i64 q.stack)) := by
            obtain ⟨n1, n2⟩ := newCells2 (hb5.mono (by simp))
            exact ⟨⟨n1 0 _ rfl, n1 1 _ rfl, n1 2 _ rfl, n1 3 _ rfl⟩, ⟨n2 0 _ rfl, n2 1 _ rfl, n2 2 _ rfl, n2 3 _ rfl⟩⟩
          obtain ⟨⟨g0, g1, g2, g3⟩, ⟨k0, k1, k2, k3⟩⟩ := g
          have HB5 := Lib.hid (show Below wp.heap.size wp w5 from hb2.trans (((((Below.refl _ _).alloc (Nat.le_refl _) _).alloc (by simp) _).trans (hb5.mono (by simp; omega))).mono hsz2))
          have HEND := Lib.hid (show Below w.heap.size w w5 from hbw.trans (HB5.out.mono (by omega)))
          have HIT := Lib.hid (show p = q → ∀ i, i < j + 1 → x.units[i]? = y.units[i]? from fun h i hi => by
            by_cases e : i = j
            · subst e; rw [HP.out, HQ.out, h]
            · exact HR.out i (by omega))
          have HNE := Lib.hid (show p ≠ q → x ≠ y from fun h => HNU.out (fun e => by have h1 := HP.out; rw [e, HQ.out] at h1; exact h (Option.some.inj h1).symm))
          clear hb5 hb2
          by_cases hcode : p.code = q.code
          · have hsame : Pl.same p.code q.code = true := Pl.same_true hcode
            have HC := Lib.hid hcode
            clear hcode
            rw [hsame]
            clear hsame
            go_wp2_with fail
            any_goals
              go_ret
              refine ⟨ret_bool ?_, HEND.out⟩
              rw [Pl.same_false (HNE.out ?_)]
              intro e
              subst e
              first
                | (rename_i h0; exact h0 rfl)
                | (rename_i h0; simp at h0)
            have hpq : p = q := by
              have h4 : (p.stack != q.stack) = false := by assumption
              exact Pl.untEq.2 ⟨by assumption, by assumption, by assumption, by simpa using h4, HC.out⟩
            go_roundw
            case rel => exact ⟨j + 1, by go_num, by omega, HIT.out hpq, HB5.out⟩
            case measure => simp [intOf]; omega
          · have hne : p ≠ q := fun e => hcode (by rw [e])
            have hsame : Pl.same p.code q.code = false := Pl.same_false hcode
            have HAB := Lib.hid (HNE.out hne)
            clear hcode hne
            rw [hsame]
            clear hsame
            go_wp2_with fail
            go_ret
            exact ⟨ret_bool (by rw [Pl.same_false HAB.out]), HEND.out⟩
        · have hab : x = y := HXY.out HEQ.out (Pl.eq_of_get HU.out (fun i hi => HR.out i (by omega)))
          have HAB := Lib.hid hab
          clear hab
          go_wp2_with fail
          go_ret
          exact ⟨ret_bool (by rw [Pl.same_true HAB.out]), hbw2⟩
end Go.Proofs.YtoklnpoacckbfaaGreatDoor
namespace Go.Proofs.YtoklnpoacckbfaaGreatDoor
open Go.RowKit
namespace Pl
def opName (o : Nat) : ByteArray := match o with
  | 1 => ⟨#[83, 101, 108, 102]⟩
  | 2 => ⟨#[78, 105, 108]⟩
  | 3 => ⟨#[84, 114, 117, 101]⟩
  | 4 => ⟨#[70, 97, 108, 115, 101]⟩
  | 5 => ⟨#[76, 105, 116]⟩
  | 6 => ⟨#[76, 111, 99, 97, 108]⟩
  | 7 => ⟨#[82, 101, 109, 111, 116, 101]⟩
  | 8 => ⟨#[70, 105, 101, 108, 100]⟩
  | 9 => ⟨#[71, 108, 111, 98, 97, 108]⟩
  | 10 => ⟨#[84, 111, 76, 111, 99, 97, 108]⟩
  | 11 => ⟨#[84, 111, 82, 101, 109, 111, 116, 101]⟩
  | 12 => ⟨#[84, 111, 70, 105, 101, 108, 100]⟩
  | 13 => ⟨#[84, 111, 71, 108, 111, 98, 97, 108]⟩
  | 14 => ⟨#[80, 111, 112]⟩
  | 15 => ⟨#[68, 117, 112]⟩
  | 16 => ⟨#[83, 101, 110, 100]⟩
  | 17 => ⟨#[83, 117, 112, 101, 114]⟩
  | 18 => ⟨#[74, 117, 109, 112]⟩
  | 19 => ⟨#[74, 117, 109, 112, 84, 114, 117, 101]⟩
  | 20 => ⟨#[74, 117, 109, 112, 70, 97, 108, 115, 101]⟩
  | 21 => ⟨#[82, 101, 116, 117, 114, 110]⟩
  | 22 => ⟨#[76, 101, 97, 118, 101]⟩
  | 23 => ⟨#[86, 101, 99, 116, 111, 114]⟩
  | 24 => ⟨#[65, 114, 114, 97, 121]⟩
  | 25 => ⟨#[66, 108, 111, 99, 107]⟩
  | _ => ⟨#[]⟩
def shOff (o : Nat) : Int := if 10 ≤ o ∧ o ≤ 17 ∨ 19 ≤ o ∧ o ≤ 22 then 1 else 0
def shLays (o : Nat) : Int := if o = 0 ∨ o = 14 ∨ 18 ≤ o ∧ o ≤ 22 then 0 else if o = 15 then 2 else 1
def shFirst (o : Nat) : Int := if o = 0 then 0 else (bytesA o : Nat)
def shapeV (o : Nat) : Array Value := #[.string (opName o), .int .i64 (shFirst o), .bool (two o), .int .i64 (shOff o), .int .i64 (shLays o)]
def shapeL (o : Nat) : List Value := [.string (opName o), .int .i64 (shFirst o), .bool (two o), .int .i64 (shOff o), .int .i64 (shLays o)]
def shapesV : Array Value := #[.string ⟨#[]⟩, .int .i64 0, .bool false, .int .i64 0, .int .i64 0, .string ⟨#[83, 101, 108, 102]⟩, .int .i64 0, .bool false, .int .i64 0, .int .i64 1, .string ⟨#[78, 105, 108]⟩, .int .i64 0, .bool false, .int .i64 0, .int .i64 1, .string ⟨#[84, 114, 117, 101]⟩, .int .i64 0, .bool false, .int .i64 0, .int .i64 1, .string ⟨#[70, 97, 108, 115, 101]⟩, .int .i64 0, .bool false, .int .i64 0, .int .i64 1, .string ⟨#[76, 105, 116]⟩, .int .i64 1, .bool false, .int .i64 0, .int .i64 1, .string ⟨#[76, 111, 99, 97, 108]⟩, .int .i64 1, .bool false, .int .i64 0, .int .i64 1, .string ⟨#[82, 101, 109, 111, 116, 101]⟩, .int .i64 1, .bool true, .int .i64 0, .int .i64 1, .string ⟨#[70, 105, 101, 108, 100]⟩, .int .i64 1, .bool false, .int .i64 0, .int .i64 1, .string ⟨#[71, 108, 111, 98, 97, 108]⟩, .int .i64 1, .bool false, .int .i64 0, .int .i64 1, .string ⟨#[84, 111, 76, 111, 99, 97, 108]⟩, .int .i64 1, .bool false, .int .i64 1, .int .i64 1, .string ⟨#[84, 111, 82, 101, 109, 111, 116, 101]⟩, .int .i64 1, .bool true, .int .i64 1, .int .i64 1, .string ⟨#[84, 111, 70, 105, 101, 108, 100]⟩, .int .i64 1, .bool false, .int .i64 1, .int .i64 1, .string ⟨#[84, 111, 71, 108, 111, 98, 97, 108]⟩, .int .i64 1, .bool false, .int .i64 1, .int .i64 1, .string ⟨#[80, 111, 112]⟩, .int .i64 0, .bool false, .int .i64 1, .int .i64 0, .string ⟨#[68, 117, 112]⟩, .int .i64 0, .bool false, .int .i64 1, .int .i64 2, .string ⟨#[83, 101, 110, 100]⟩, .int .i64 1, .bool true, .int .i64 1, .int .i64 1, .string ⟨#[83, 117, 112, 101, 114]⟩, .int .i64 1, .bool true, .int .i64 1, .int .i64 1, .string ⟨#[74, 117, 109, 112]⟩, .int .i64 2, .bool false, .int .i64 0, .int .i64 0, .string ⟨#[74, 117, 109, 112, 84, 114, 117, 101]⟩, .int .i64 2, .bool false, .int .i64 1, .int .i64 0, .string ⟨#[74, 117, 109, 112, 70, 97, 108, 115, 101]⟩, .int .i64 2, .bool false, .int .i64 1, .int .i64 0, .string ⟨#[82, 101, 116, 117, 114, 110]⟩, .int .i64 0, .bool false, .int .i64 1, .int .i64 0, .string ⟨#[76, 101, 97, 118, 101]⟩, .int .i64 0, .bool false, .int .i64 1, .int .i64 0, .string ⟨#[86, 101, 99, 116, 111, 114]⟩, .int .i64 1, .bool false, .int .i64 0, .int .i64 1, .string ⟨#[65, 114, 114, 97, 121]⟩, .int .i64 1, .bool false, .int .i64 0, .int .i64 1, .string ⟨#[66, 108, 111, 99, 107]⟩, .int .i64 1, .bool true, .int .i64 0, .int .i64 1]
set_option maxRecDepth 100000 in
theorem shapes_at : ∀ o, o < 26 → shapesV[o * 5]? = some (.string (opName o)) ∧ shapesV[o * 5 + 1]? = some (.int .i64 (shFirst o)) ∧ shapesV[o * 5 + 2]? = some (.bool (two o)) ∧ shapesV[o * 5 + 3]? = some (.int .i64 (shOff o)) ∧ shapesV[o * 5 + 4]? = some (.int .i64 (shLays o)) := by
  intro o ho
  by_cases h0 : o = 0
  · subst h0; exact ⟨by kernel_rfl, by kernel_rfl, by kernel_rfl, by kernel_rfl, by kernel_rfl⟩
  by_cases h1 : o = 1
  · subst h1; exact ⟨by kernel_rfl, by kernel_rfl, by kernel_rfl, by kernel_rfl, by kernel_rfl⟩
  by_cases h2 : o = 2
  · subst h2; exact ⟨by kernel_rfl, by kernel_rfl, by kernel_rfl, by kernel_rfl, by kernel_rfl⟩
  by_cases h3 : o = 3
  · subst h3; exact ⟨by kernel_rfl, by kernel_rfl, by kernel_rfl, by kernel_rfl, by kernel_rfl⟩
  by_cases h4 : o = 4
  · subst h4; exact ⟨by kernel_rfl, by kernel_rfl, by kernel_rfl, by kernel_rfl, by kernel_rfl⟩
  by_cases h5 : o = 5
  · subst h5; exact ⟨by kernel_rfl, by kernel_rfl, by kernel_rfl, by kernel_rfl, by kernel_rfl⟩
  by_cases h6 : o = 6
  · subst h6; exact ⟨by kernel_rfl, by kernel_rfl, by kernel_rfl, by kernel_rfl, by kernel_rfl⟩
  by_cases h7 : o = 7
  · subst h7; exact ⟨by kernel_rfl, by kernel_rfl, by kernel_rfl, by kernel_rfl, by kernel_rfl⟩
  by_cases h8 : o = 8
  · subst h8; exact ⟨by kernel_rfl, by kernel_rfl, by kernel_rfl, by kernel_rfl, by kernel_rfl⟩
  by_cases h9 : o = 9
  · subst h9; exact ⟨by kernel_rfl, by kernel_rfl, by kernel_rfl, by kernel_rfl, by kernel_rfl⟩
  by_cases h10 : o = 10
  · subst h10; exact ⟨by kernel_rfl, by kernel_rfl, by kernel_rfl, by kernel_rfl, by kernel_rfl⟩
  by_cases h11 : o = 11
  · subst h11; exact ⟨by kernel_rfl, by kernel_rfl, by kernel_rfl, by kernel_rfl, by kernel_rfl⟩
  by_cases h12 : o = 12
  · subst h12; exact ⟨by kernel_rfl, by kernel_rfl, by kernel_rfl, by kernel_rfl, by kernel_rfl⟩
  by_cases h13 : o = 13
  · subst h13; exact ⟨by kernel_rfl, by kernel_rfl, by kernel_rfl, by kernel_rfl, by kernel_rfl⟩
  by_cases h14 : o = 14
  · subst h14; exact ⟨by kernel_rfl, by kernel_rfl, by kernel_rfl, by kernel_rfl, by kernel_rfl⟩
  by_cases h15 : o = 15
  · subst h15; exact ⟨by kernel_rfl, by kernel_rfl, by kernel_rfl, by kernel_rfl, by kernel_rfl⟩
  by_cases h16 : o = 16
  · subst h16; exact ⟨by kernel_rfl, by kernel_rfl, by kernel_rfl, by kernel_rfl, by kernel_rfl⟩
  by_cases h17 : o = 17
  · subst h17; exact ⟨by kernel_rfl, by kernel_rfl, by kernel_rfl, by kernel_rfl, by kernel_rfl⟩
  by_cases h18 : o = 18
  · subst h18; exact ⟨by kernel_rfl, by kernel_rfl, by kernel_rfl, by kernel_rfl, by kernel_rfl⟩
  by_cases h19 : o = 19
  · subst h19; exact ⟨by kernel_rfl, by kernel_rfl, by kernel_rfl, by kernel_rfl, by kernel_rfl⟩
  by_cases h20 : o = 20
  · subst h20; exact ⟨by kernel_rfl, by kernel_rfl, by kernel_rfl, by kernel_rfl, by kernel_rfl⟩
  by_cases h21 : o = 21
  · subst h21; exact ⟨by kernel_rfl, by kernel_rfl, by kernel_rfl, by kernel_rfl, by kernel_rfl⟩
  by_cases h22 : o = 22
  · subst h22; exact ⟨by kernel_rfl, by kernel_rfl, by kernel_rfl, by kernel_rfl, by kernel_rfl⟩
  by_cases h23 : o = 23
  · subst h23; exact ⟨by kernel_rfl, by kernel_rfl, by kernel_rfl, by kernel_rfl, by kernel_rfl⟩
  by_cases h24 : o = 24
  · subst h24; exact ⟨by kernel_rfl, by kernel_rfl, by kernel_rfl, by kernel_rfl, by kernel_rfl⟩
  by_cases h25 : o = 25
  · subst h25; exact ⟨by kernel_rfl, by kernel_rfl, by kernel_rfl, by kernel_rfl, by kernel_rfl⟩
  omega
theorem shapes_size : shapesV.size = 130 := by kernel_rfl
end Pl
theorem shapes_one : Pl.shapesV.all (·.oneCell') = true := by kernel_rfl
theorem shapes_info : (Tryz.prog.info? 123).map (·.size) = some Pl.shapesV.size := by kernel_rfl
theorem shapes_zero : (Tryz.zeroCells123).size = Pl.shapesV.size := by kernel_rfl
theorem shapes_store (L : List Value) (h : L = Pl.shapesV.toList) (w : World) : (storeCells ⟨w.heap.size, 0, none⟩ L 0).run Tryz.prog (w.alloc (.cells Tryz.zeroCells123 123)) = .ok () (w.alloc (.cells Pl.shapesV 123)) := by
  subst h; exact run_storeCells_new w _ _ _ shapes_info shapes_zero shapes_one
theorem shapes_load (w : World) : (loadCellsFrom ⟨w.heap.size, 0, none⟩ 0 130 #[]).run Tryz.prog (w.alloc (.cells Pl.shapesV 123)) = .ok Pl.shapesV (w.alloc (.cells Pl.shapesV 123)) := run_loadCellsFrom_new w _ _ 130 Pl.shapes_size
set_option maxRecDepth 100000 in
set_option maxHeartbeats 4000000 in
theorem shapes_any (w : World) : Calls Tryz.prog 70 #[] w fun e w' => e = .returned (.agg Pl.shapesV) ∧ Below w.heap.size w w' := by
  go_enter Tryz.func70, Tryz.ntmps70
  go_wp2_with fail
  rw [shapes_store _ (by kernel_rfl)]
  have hld := shapes_load w
  go_wp2_with fail
  refine bodyPost_ret (v := .agg Pl.shapesV) (results_cell_row (fn := Tryz.f70) (p := 0) (ty := 123) rfl _ _ w.heap.size 123 Pl.shapesV (0, 0) _ rfl (heap_alloc_last w _) Tryz.underlying123 rfl shapes_info) rfl ⟨rfl, (Below.refl _ _).alloc (Nat.le_refl _) _⟩
end Go.Proofs.YtoklnpoacckbfaaGreatDoor
