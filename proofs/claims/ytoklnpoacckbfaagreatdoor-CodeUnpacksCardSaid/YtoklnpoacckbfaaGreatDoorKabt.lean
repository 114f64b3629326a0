/- code.Show, where all numbers are small. -/
import Derived.Test.YtoklnpoacckbfaaGreatDoorKabs
import Derived.Test.YtoklnpoacckbfaaGreatDoorKabj
import Derived.Test.YtoklnpoacckbfaaGreatDoorKaam
namespace Go.Proofs.YtoklnpoacckbfaaGreatDoor
open Go Go.RowKit
section
variable {α : Type}
def idxTo (f : Nat → α → List UInt8) (l : List α) (k : Nat) : List UInt8 := (List.range k).flatMap fun i => match l[i]? with | some x => f i x | none => []
theorem idxTo_zero (f : Nat → α → List UInt8) (l : List α) : idxTo f l 0 = [] := by simp [idxTo]
theorem idxTo_step {f : Nat → α → List UInt8} {l : List α} {k : Nat} {x : α} (h : l[k]? = some x) : idxTo f l (k + 1) = idxTo f l k ++ f k x := by
  unfold idxTo; rw [List.range_succ, List.flatMap_append]; simp [h]
end
def litLine (f : Pl.Lit → List UInt8) (k : Nat) (x : Pl.Lit) : List UInt8 := Lib.decDigits k ++ ([32] ++ (f x ++ [10]))
def insLine (k : Nat) (x : Pl.Ins) : List UInt8 :=
  [9] ++ (Lib.decDigits k ++ ([32] ++ (Pl.opName x.op).data.toList)) ++ (if 0 < Pl.shFirst x.op then blanks [x.a.toNat] else []) ++ (if Pl.two x.op = true then blanks [x.b.toNat] else []) ++ [10]
def untLine (k : Nat) (u : Pl.Unt) : List UInt8 :=
  [117, 110, 105, 116, 32] ++ (Lib.decDigits k ++ [58]) ++ blanks [u.args.toNat, u.copied.toNat, u.locals.toNat, u.stack.toNat] ++ [10] ++ idxTo insLine u.code u.code.length
def showHead (c : Pl.Cod) : List UInt8 := c.sel.data.toList ++ [10]
def showB (f : Pl.Lit → List UInt8) (c : Pl.Cod) : List UInt8 := showHead c ++ idxTo (litLine f) c.lits c.lits.length ++ idxTo untLine c.units c.units.length
structure SmallI (x : Pl.Ins) : Prop where
  op : Pl.known x.op
  a : 0 ≤ x.a ∧ x.a < 100
  b : 0 ≤ x.b ∧ x.b < 100
structure SmallU (u : Pl.Unt) : Prop where
  a : 0 ≤ u.args ∧ u.args < 100
  c : 0 ≤ u.copied ∧ u.copied < 100
  l : 0 ≤ u.locals ∧ u.locals < 100
  s : 0 ≤ u.stack ∧ u.stack < 100
  n : u.code.length ≤ 100
  i : ∀ x ∈ u.code, SmallI x
theorem opName_le (n : Nat) (h : Pl.known n) : (Pl.opName n).size ≤ 20 := by
  have : ∀ n, n < 26 → (Pl.opName n).size ≤ 20 := by decide
  exact this n (by unfold Pl.known at h; omega)
theorem numbers_new {B b : Nat} {l : List UInt8} {w : World} (h : Lib.IsBuilder 77 5 B b (Lib.byteCells l) w) (ns : List Nat) (cs : Array Value) (hcs : cs = numRow ns) (hsm : ∀ n ∈ ns, n < 100) (hlen : l.length + 3 * ns.length ≤ 1099511627776) (hBw : B ≤ w.heap.size) (n : Nat) (hnn : n = ns.length) :
    Calls Tryz.prog 39 #[.pointer (some ⟨b, 0, none⟩), .slice (some ⟨w.heap.size, 0, none⟩) n n] (w.alloc (.cells cs 3)) fun e w' => e = .returned (.tuple #[]) ∧ Lib.IsBuilder 77 5 B b (Lib.byteCells (l ++ blanks ns)) w' ∧ Below B w w' ∧ Wr b w w' := by
  subst hcs
  have hb := isBuilder_lt h
  refine (numbers_any (isBuilder_alloc h _) (heap_alloc_new w _) (by omega) hsm hlen (by simp; omega) n hnn).mono ?_
  rintro e w' ⟨h1, h2, h3, h4⟩
  exact ⟨h1, h2, ((Below.refl B w).alloc hBw _).trans h3, ((Wr.refl b w).alloc b _).trans h4⟩
set_option maxHeartbeats 8000000 in
set_option maxRecDepth 100000 in
theorem show_any {B : Nat} {c : Pl.Cod} {L U : Value} (w : World) (h : CodAt B w c L U) (he : ErrAt w) (hEB : 9 < B) (hbig : Pl.litsBig c.lits ≤ 262144) (hck : Pl.check c = 0) (hpr : c.prim = 0)
    (f : Pl.Lit → List UInt8) (hp : ∀ x ∈ c.lits, PrintsAs x (f x)) (hfl : ∀ x ∈ c.lits, (f x).length ≤ 1000) (hsel : c.sel.size ≤ 1000) (hnl : c.lits.length ≤ 100) (hnu : c.units.length ≤ 100) (hsu : ∀ u ∈ c.units, SmallU u) :
    Calls Tryz.prog 15 #[codV c L U] w fun e w' => e = .returned (.tuple #[.string ⟨(showB f c).toArray⟩, .int .i64 0]) ∧ Below w.heap.size w w' := by
  have hBw := h.b
  have CK := Lib.hid (fun (W : World) (hb : Below w.heap.size w W) => check_any W (h.keep (hb.mono hBw)) (he.keep hb he.1) hEB hbig)
  have HH := Lib.hid h
  have HE := Lib.hid he
  have HP := Lib.hid (fun (x : Pl.Lit) (hx : x ∈ c.lits) => @hp x hx)
  have HFL := Lib.hid hfl
  have HSU := Lib.hid hsu
  obtain ⟨Al, capl, Vl, rfl, hBl, hrowl, hwl, hrl⟩ := h.l.out
  obtain ⟨Au, capu, Vu, rfl, hBu, hrowu, hwu, hru⟩ := h.u
  have h1 := hrowl.le
  have h2 := hrowu.le
  have hsz : c.sel.data.toList.length = c.sel.size := rfl
  rw [hck] at CK
  unfold codV at CK ⊢
  rw [hpr] at CK ⊢
  clear hck h he hp hfl hsu
  go_enter Tryz.func15, Tryz.ntmps15
  go_upto_region 5 with (go_at_call 11; refine (CK.out _ ((Below.refl _ _).alloc (Nat.le_refl _) _)).mono ?_; rintro e w2 ⟨rfl, hb2⟩; have d0 : w2.cell? ⟨w.heap.size, 0, none⟩ = some (.string c.sel) := boxCells (hb2.mono (by simp)) rfl; have d1 : w2.cell? ⟨w.heap.size, 1, none⟩ = some (.int .i64 0) := boxCells (hb2.mono (by simp)) rfl; have d2 : w2.cell? ⟨w.heap.size, 2, none⟩ = some (.slice Al c.lits.length capl) := boxCells (hb2.mono (by simp)) rfl; have d3 : w2.cell? ⟨w.heap.size, 3, none⟩ = some (.slice Au c.units.length capu) := boxCells (hb2.mono (by simp)) rfl; have hl0 : w.heap.size < w2.heap.size := (by have := hb2.size; simp at this; omega); have HBW2 := Lib.hid (show Below w.heap.size w w2 from alloc_then (hb2.mono (by simp))); clear hb2)
  have HF2 := Lib.hid (show Lib.IsBuilder 77 5 w2.heap.size w2.heap.size (Lib.byteCells []) (w2.alloc (.cells #[.pointer none, .slice none 0 0] 77)) from by simpa [Lib.byteCells] using Lib.fresh_isBuilder 77 5 w2)
  obtain ⟨b, hb⟩ : ∃ b, w2.heap.size = b := ⟨_, rfl⟩
  have HK := Lib.hid (fun (W : World) (hb : Below w2.heap.size w2 W) => show W.cell? ⟨w.heap.size, 0, none⟩ = some (.string c.sel) ∧ W.cell? ⟨w.heap.size, 1, none⟩ = some (.int .i64 0) ∧ W.cell? ⟨w.heap.size, 2, none⟩ = some (.slice Al c.lits.length capl) ∧ W.cell? ⟨w.heap.size, 3, none⟩ = some (.slice Au c.units.length capu) ∧ Below w.heap.size w W ∧ w2.heap.size ≤ W.heap.size from
    ⟨(hb.cell (p := ⟨w.heap.size, 0, none⟩) hl0).trans d0, (hb.cell (p := ⟨w.heap.size, 1, none⟩) hl0).trans d1, (hb.cell (p := ⟨w.heap.size, 2, none⟩) hl0).trans d2, (hb.cell (p := ⟨w.heap.size, 3, none⟩) hl0).trans d3, HBW2.out.trans (hb.mono (by omega)), hb.size⟩)
  have HBA := Lib.hid (show Below w2.heap.size w2 (w2.alloc (.cells #[.pointer none, .slice none 0 0] 77)) from (Below.refl _ _).alloc (Nat.le_refl _) _)
  clear d0 d1 d2 d3
  generalize w2.alloc (.cells #[.pointer none, .slice none 0 0] 77) = w3 at HF2 HBA ⊢
  rw [hb] at HF2 HK HBA hl0 ⊢
  obtain ⟨d0, d1, d2, d3, hbw3, hl3⟩ := HK.out w3 HBA.out
  have hCb : ¬ w.heap.size = w3.heap.size := by omega
  clear hbw3
  go_wp2_with (go_at_call 36; refine (cput_new HF2.out [c.sel] _ rfl (by simp [texts]; omega) (by simp) hl3 1 rfl).mono ?_; rintro e w4 ⟨rfl, hB4, hb4, hr4⟩; have HB4 := Lib.hid hB4; have HW4 := Lib.hid (HBA.out.trans hb4); clear d0 d1 d2 d3; obtain ⟨d0, d1, d2, d3, hbw4, hl4⟩ := HK.out w4 HW4.out; have hCb4 : ¬ w.heap.size = w4.heap.size := (by omega); clear hB4 hb4 hr4 hbw4 HF2)
  go_wp2_with (go_at_call 36; refine (cput_new HB4.out [⟨#[10]⟩] _ rfl (by simp [texts]; omega) (by simp) hl4 1 rfl).mono ?_; rintro e w5 ⟨rfl, hB5, hb5, hr5⟩; have HB5 := Lib.hid hB5; have HW5 := Lib.hid (HW4.out.trans hb5); clear d0 d1 d2 d3; obtain ⟨d0, d1, d2, d3, hbw5, hl5⟩ := HK.out w5 HW5.out; clear hB5 hb5 hr5 hbw5 HB4)
  clear d0 d1 d2 d3
  have HB5' := Lib.hid (show Lib.IsBuilder 77 5 b b (Lib.byteCells (showHead c)) w5 from by simpa [texts, showHead] using HB5.out)
  clear HB5
  have hhl : (showHead c).length ≤ 1001 := by unfold showHead; simp only [List.length_append, List.length_cons, List.length_nil]; omega
  go_loopw [43] (fun iv wr => ∃ k : Nat, iv = .int .i64 k ∧ k ≤ c.lits.length ∧ (idxTo (litLine f) c.lits k).length ≤ k * 1004 ∧ Lib.IsBuilder 77 5 b b (Lib.byteCells (showHead c ++ idxTo (litLine f) c.lits k)) wr ∧ Below b w2 wr) (fun iv _ => c.lits.length - (RowKit.intOf iv).toNat)
  case atStart => exact ⟨0, rfl, Nat.zero_le _, by simp [idxTo_zero], by rw [idxTo_zero, List.append_nil]; exact HB5'.out, HW5.out⟩
  case round =>
    obtain ⟨k, rfl, hk, hkl, hB, hb⟩ := hrel
    obtain ⟨d0, d1, d2, d3, hbw, hlr⟩ := HK.out wr hb
    have HB := Lib.hid hB
    have HW := Lib.hid hb
    have HBW := Lib.hid hbw
    clear hB hb hbw HB5'
    by_cases hlt : k < c.lits.length
    · obtain ⟨ba, oa, rfl, hba⟩ := hrowl.some_of hlt
      obtain ⟨x, hx⟩ : ∃ x, c.lits[k]? = some x := ⟨_, List.getElem?_eq_getElem hlt⟩
      obtain ⟨a0, a1, a2, a3, a4⟩ := (hrowl.keep (HBW.out.mono hBw) hBl).lit hx
      obtain ⟨Ay, capy, Vy, hVk, _⟩ := (hrl k x hx).out
      have hv := hrl k x hx
      rw [hVk] at a4 hv
      have hxm := List.mem_of_getElem? hx
      have PL := Lib.hid (fun (W : World) (hb : Below w.heap.size w W) => HP.out x hxm (w := W) (v := .slice Ay x.items.length capy) ((hv.keep (hb.mono hBw)).up (Nat.le_trans hBw hb.size)) (HE.out.keep hb HE.out.1))
      have hfx := HFL.out x hxm
      have HST := Lib.hid (idxTo_step (f := litLine f) hx)
      have hltI : (k : Int) < (c.lits.length : Int) := by omega
      have hk0 : (0 : Int) ≤ (k : Int) := by omega
      have hd2 := dec_len (n := k) (by omega)
      have hds : (⟨(Lib.decDigits k).toArray⟩ : ByteArray).size = (Lib.decDigits k).length := rfl
      have hline : (litLine f k x).length ≤ 1004 := by unfold litLine; simp only [List.length_append, List.length_cons, List.length_nil]; omega
      unfold litV at PL
      clear hx hVk hv hxm
      go_wp2_with (first
        | (go_at_call 38
           refine (PL.out _ (HBW.out.alloc (by omega) _)).mono ?_
           rintro e w7 ⟨rfl, hb7⟩
           have HB7 := Lib.hid (isBuilder_keep (isBuilder_alloc HB.out _) hb7)
           have hz7 := hb7.size
           have hl7 : b ≤ w7.heap.size := (by simp at hz7; omega)
           have HW7 := Lib.hid ((HW.out.alloc hlr _).trans (hb7.mono (by simp; omega)))
           clear hb7)
        | (go_at_call 37; refine (Tryz.strconv_Itoa_small k (by omega) _).mono ?_; rintro e w8 ⟨rfl, rfl⟩)
        | (go_at_call 36
           refine (cput_new HB7.out [⟨(Lib.decDigits k).toArray⟩, ⟨#[32]⟩, ⟨(f x).toArray⟩, ⟨#[10]⟩] _ rfl (by simp [texts]; omega) (by simp) hl7 4 rfl).mono ?_
           rintro e w9 ⟨rfl, hB9, hb9, hr9⟩
           have HB9 := Lib.hid hB9
           have HW9 := Lib.hid (HW7.out.trans hb9)
           clear hB9 hb9 hr9))
      go_roundw
      case rel => exact ⟨k + 1, by go_num, by omega, by rw [HST.out, List.length_append]; omega, by rw [HST.out, ← List.append_assoc]; simpa [texts, litLine] using HB9.out, HW9.out⟩
      case measure => simp [RowKit.intOf]; omega
    · have hltI : (c.lits.length : Int) ≤ (k : Int) := by omega
      have hke : k = c.lits.length := by omega
      rw [hke] at HB hkl
      clear hke
      go_wp2_with fail
      have HB6 := HB
      have HH6 : ((showHead c ++ idxTo (litLine f) c.lits c.lits.length)).length ≤ 110000 := by rw [List.length_append]; omega
      generalize hbase : showHead c ++ idxTo (litLine f) c.lits c.lits.length = base at HB6 HH6
      have HBASE := Lib.hid hbase
      obtain ⟨wl, hwl⟩ : ∃ z, z = wr := ⟨wr, rfl⟩
      subst hwl
      clear hbase HB hkl d0 d1 d2 d3
      go_loopw [63] (fun iv wr => ∃ k : Nat, iv = .int .i64 k ∧ k ≤ c.units.length ∧ (idxTo untLine c.units k).length ≤ k * 4100 ∧ Lib.IsBuilder 77 5 b b (Lib.byteCells (base ++ idxTo untLine c.units k)) wr ∧ Below b w2 wr) (fun iv _ => c.units.length - (RowKit.intOf iv).toNat)
      case atStart => exact ⟨0, rfl, Nat.zero_le _, by simp [idxTo_zero], by rw [idxTo_zero, List.append_nil]; exact HB6.out, HW.out⟩
      case round =>
        obtain ⟨k, rfl, hk, hkl, hB, hb⟩ := hrel
        obtain ⟨d0, d1, d2, d3, hbw, hlr⟩ := HK.out wr hb
        have HB := Lib.hid hB
        have HW := Lib.hid hb
        have HBW := Lib.hid hbw
        clear hB hb hbw HB6
        by_cases hlt : k < c.units.length
        · obtain ⟨bu, ou, rfl, hbb⟩ := hrowu.some_of hlt
          obtain ⟨u, hu⟩ : ∃ u, c.units[k]? = some u := ⟨_, List.getElem?_eq_getElem hlt⟩
          obtain ⟨Ai, capi, hVk, hBi, hrowi, hwi⟩ := hru k u hu
          obtain ⟨e0, e1, e2, e3, e4⟩ := (hrowu.keep (HBW.out.mono hBw) hBu).unt hu
          rw [hVk] at e4
          have hs := HSU.out u (List.mem_of_getElem? hu)
          obtain ⟨na, hna⟩ : ∃ n : Nat, u.args = n := ⟨u.args.toNat, by have := hs.a; omega⟩
          obtain ⟨nc, hnc⟩ : ∃ n : Nat, u.copied = n := ⟨u.copied.toNat, by have := hs.c; omega⟩
          obtain ⟨no, hno⟩ : ∃ n : Nat, u.locals = n := ⟨u.locals.toNat, by have := hs.l; omega⟩
          obtain ⟨nt, hnt⟩ : ∃ n : Nat, u.stack = n := ⟨u.stack.toNat, by have := hs.s; omega⟩
          have hna1 := hs.a
          have hnc1 := hs.c
          have hno1 := hs.l
          have hnt1 := hs.s
          have hnn := hs.n
          have HSI := Lib.hid hs.i
          have HLN := Lib.hid (show untLine k u = [117, 110, 105, 116, 32] ++ (Lib.decDigits k ++ [58]) ++ blanks [na, nc, no, nt] ++ [10] ++ idxTo insLine u.code u.code.length from by unfold untLine; rw [hna, hnc, hno, hnt]; rfl)
          have HST := Lib.hid (idxTo_step (f := untLine) hu)
          rw [hna] at e0
          rw [hnc] at e1
          rw [hno] at e2
          rw [hnt] at e3
          have hltI : (k : Int) < (c.units.length : Int) := by omega
          have hk0 : (0 : Int) ≤ (k : Int) := by omega
          have hd2 := dec_len (n := k) (by omega)
          have hds : (⟨(Lib.decDigits k).toArray⟩ : ByteArray).size = (Lib.decDigits k).length := rfl
          have hbl := isBuilder_lt HB.out
          clear hu hVk hs
          go_upto_region 18 with (fail)
          have HUr := heap_alloc_new wr (.cells #[.int .i64 (na : Int), .int .i64 (nc : Int), .int .i64 (no : Int), .int .i64 (nt : Int), .slice Ai u.code.length capi] 58)
          have HB17 := Lib.hid (isBuilder_alloc HB.out (.cells #[.int .i64 (na : Int), .int .i64 (nc : Int), .int .i64 (no : Int), .int .i64 (nt : Int), .slice Ai u.code.length capi] 58))
          have HW17 := Lib.hid (HW.out.alloc hlr (.cells #[.int .i64 (na : Int), .int .i64 (nc : Int), .int .i64 (no : Int), .int .i64 (nt : Int), .slice Ai u.code.length capi] 58))
          have HUR := Lib.hid HUr
          clear HUr e0 e1 e2 e3 e4 d0 d1 d2 d3
          generalize wr.alloc (.cells #[.int .i64 (na : Int), .int .i64 (nc : Int), .int .i64 (no : Int), .int .i64 (nt : Int), .slice Ai u.code.length capi] 58) = w17 at HUR HB17 HW17 ⊢
          obtain ⟨Ub, hUb⟩ : ∃ Ub, wr.heap.size = Ub := ⟨_, rfl⟩
          rw [hUb] at HUR ⊢
          have hUbb : Ub ≠ b := by omega
          have hl17 : b ≤ w17.heap.size := by have := HW17.out.size; omega
          go_wp2_with (first
            | (go_at_call 37; refine (Tryz.strconv_Itoa_small k (by omega) _).mono ?_; rintro e w8 ⟨rfl, rfl⟩)
            | (go_at_call 36
               refine (cput_new HB19.out [⟨#[10]⟩] _ rfl hln19 (by simp) hl19 1 rfl).mono ?_
               rintro e w20 ⟨rfl, hB20, hb20, hr20⟩
               have HB20 := Lib.hid hB20
               have HW20 := Lib.hid (HW19.out.trans hb20)
               have hu20 := hr20.row HU19.out (by decide) hUbb
               have x4 : w20.cell? ⟨Ub, 4, none⟩ = some (.slice Ai u.code.length capi) := Lib.cell_of_heap hu20 4
               have hul20 := heap_lt hu20
               have hl20 := Nat.le_trans hl19 hb20.size
               clear hB20 hb20 hr20 hu20 HB19)
            | (go_at_call 36
               refine (cput_new HB17.out [⟨#[117, 110, 105, 116, 32]⟩, ⟨(Lib.decDigits k).toArray⟩, ⟨#[58]⟩] _ rfl (by simp [texts]; omega) (by simp) hl17 3 rfl).mono ?_
               rintro e w18 ⟨rfl, hB18, hb18, hr18⟩
               have HB18 := Lib.hid hB18
               have HW18 := Lib.hid (HW17.out.trans hb18)
               have hu18 := hr18.row HUR.out (by decide) hUbb
               have HU18 := Lib.hid hu18
               have x0 : w18.cell? ⟨Ub, 0, none⟩ = some (.int .i64 (na : Int)) := Lib.cell_of_heap hu18 0
               have x1 : w18.cell? ⟨Ub, 1, none⟩ = some (.int .i64 (nc : Int)) := Lib.cell_of_heap hu18 1
               have x2 : w18.cell? ⟨Ub, 2, none⟩ = some (.int .i64 (no : Int)) := Lib.cell_of_heap hu18 2
               have x3 : w18.cell? ⟨Ub, 3, none⟩ = some (.int .i64 (nt : Int)) := Lib.cell_of_heap hu18 3
               have hul18 := heap_lt hu18
               have hl18 := Nat.le_trans hl17 hb18.size
               clear hB18 hb18 hr18 hu18 HB17)
            | (go_at_call 39
               refine (numbers_new HB18.out [na, nc, no, nt] _ rfl (by intro n hn; simp at hn; omega) (by simp [texts]; omega) hl18 4 rfl).mono ?_
               rintro e w19 ⟨rfl, hB19, hb19, hr19⟩
               have HB19 := Lib.hid hB19
               have HW19 := Lib.hid (HW18.out.trans hb19)
               have HU19 := Lib.hid (hr19.row HU18.out (by decide) hUbb)
               have hl19 := Nat.le_trans hl18 hb19.size
               have hbk : (blanks [na, nc, no, nt]).length ≤ 12 := (by have h1 := dec_len (n := na) (by omega); have h2 := dec_len (n := nc) (by omega); have h3 := dec_len (n := no) (by omega); have h4 := dec_len (n := nt) (by omega); simp [blanks]; omega)
               have hln19 : (base ++ idxTo untLine c.units k ++ texts [⟨#[117, 110, 105, 116, 32]⟩, ⟨(Lib.decDigits k).toArray⟩, ⟨#[58]⟩] ++ blanks [na, nc, no, nt]).length + (texts [⟨#[10]⟩]).length ≤ 140737488355328 := (by simp [texts]; omega)
               clear hB19 hb19 hr19 HB18 x0 x1 x2 x3))
          have HB21 := Lib.hid (show Lib.IsBuilder 77 5 b b (Lib.byteCells (base ++ idxTo untLine c.units k ++ ([117, 110, 105, 116, 32] ++ (Lib.decDigits k ++ [58]) ++ blanks [na, nc, no, nt] ++ [10]))) w20 from by simpa [texts] using HB20.out)
          have hbk : (blanks [na, nc, no, nt]).length ≤ 12 := by have h1 := dec_len (n := na) (by omega); have h2 := dec_len (n := nc) (by omega); have h3 := dec_len (n := no) (by omega); have h4 := dec_len (n := nt) (by omega); simp [blanks]; omega
          have hb2l : (base ++ idxTo untLine c.units k ++ ([117, 110, 105, 116, 32] ++ (Lib.decDigits k ++ [58]) ++ blanks [na, nc, no, nt] ++ [10])).length ≤ 600000 := by simp only [List.length_append, List.length_cons, List.length_nil]; omega
          have hhd : ([117, 110, 105, 116, 32] ++ (Lib.decDigits k ++ [58]) ++ blanks [na, nc, no, nt] ++ [10]).length ≤ 30 := by simp only [List.length_append, List.length_cons, List.length_nil]; omega
          clear HB20 x4
          generalize hbase2 : base ++ idxTo untLine c.units k ++ ([117, 110, 105, 116, 32] ++ (Lib.decDigits k ++ [58]) ++ blanks [na, nc, no, nt] ++ [10]) = base2 at HB21 hb2l
          have HBASE2 := Lib.hid hbase2
          clear hbase2 hbk hul20
          obtain ⟨wk, hwk⟩ : ∃ z, z = wr := ⟨wr, rfl⟩
          subst hwk
          go_loopw [90] (fun jv wr => ∃ j : Nat, jv = .int .i64 j ∧ j ≤ u.code.length ∧ (idxTo insLine u.code j).length ≤ j * 40 ∧ Lib.IsBuilder 77 5 b b (Lib.byteCells (base2 ++ idxTo insLine u.code j)) wr ∧ Below b w2 wr) (fun jv _ => u.code.length - (RowKit.intOf jv).toNat)
          case atStart => exact ⟨0, rfl, Nat.zero_le _, by simp [idxTo_zero], by rw [idxTo_zero, List.append_nil]; exact HB21.out, HW20.out⟩
          case round =>
            obtain ⟨j, rfl, hj, hjl, hB, hb'⟩ := hrel
            obtain ⟨_, _, _, _, hbw, hlj⟩ := HK.out wr hb'
            have HBj := Lib.hid hB
            have HWj := Lib.hid hb'
            have HBWj := Lib.hid hbw
            clear hB hb' hbw HB21
            by_cases hjlt : j < u.code.length
            · obtain ⟨bi, oi, rfl, hbi⟩ := hrowi.some_of hjlt
              obtain ⟨x, hx⟩ : ∃ x, u.code[j]? = some x := ⟨_, List.getElem?_eq_getElem hjlt⟩
              obtain ⟨f0, f1, f2⟩ := (hrowi.keep (HBWj.out.mono hBw) hBi).ins hx
              have hsi := HSI.out x (List.mem_of_getElem? hx)
              have hop := opName_le x.op hsi.op
              have hopl : (Pl.opName x.op).data.toList.length = (Pl.opName x.op).size := rfl
              obtain ⟨xa, hxa⟩ : ∃ n : Nat, x.a = n := ⟨x.a.toNat, by have := hsi.a; omega⟩
              obtain ⟨xb, hxb⟩ : ∃ n : Nat, x.b = n := ⟨x.b.toNat, by have := hsi.b; omega⟩
              have hxa1 := hsi.a
              have hxb1 := hsi.b
              have OF := Lib.hid (of_known x.op hsi.op)
              have HST2 := Lib.hid (idxTo_step (f := insLine) hx)
              have HLN2 := Lib.hid (show insLine j x = [9] ++ (Lib.decDigits j ++ ([32] ++ (Pl.opName x.op).data.toList)) ++ (if 0 < Pl.shFirst x.op then blanks [xa] else []) ++ (if Pl.two x.op = true then blanks [xb] else []) ++ [10] from by unfold insLine; rw [hxa, hxb]; rfl)
              have hba : (blanks [xa]).length ≤ 3 := by have h1 := dec_len (n := xa) (by omega); simp [blanks]; omega
              have hbb : (blanks [xb]).length ≤ 3 := by have h1 := dec_len (n := xb) (by omega); simp [blanks]; omega
              have hxa100 : xa < 100 := by omega
              have hxb100 : xb < 100 := by omega
              have hd3 := dec_len (n := j) (by omega)
              have hds3 : (⟨(Lib.decDigits j).toArray⟩ : ByteArray).size = (Lib.decDigits j).length := rfl
              have hjI : (j : Int) < (u.code.length : Int) := by omega
              have hj0 : (0 : Int) ≤ (j : Int) := by omega
              rw [hxa] at f1
              rw [hxb] at f2
              unfold Pl.shapeV at OF
              have hbl2 := isBuilder_lt HBj.out
              have hcl : (base2 ++ idxTo insLine u.code j).length ≤ 700000 := by rw [List.length_append]; omega
              generalize hcont : base2 ++ idxTo insLine u.code j = cont at HBj hcl
              have HCONT := Lib.hid hcont
              clear hx hsi hxa hxb hcont
              go_upto_region 25 with (go_at_call 35; refine (OF.out _).mono ?_; rintro e w25 ⟨rfl, hb25⟩; have HX25 := Lib.hid ((hb25.block _ (by simp)).trans (heap_alloc_new wr (.cells #[.int .u8 x.op, .int .i64 (xa : Int), .int .i64 (xb : Int)] 61))); have HB25 := Lib.hid (isBuilder_keep (isBuilder_alloc HBj.out (.cells #[.int .u8 x.op, .int .i64 (xa : Int), .int .i64 (xb : Int)] 61)) hb25); have HW25 := Lib.hid ((HWj.out.alloc hlj (.cells #[.int .u8 x.op, .int .i64 (xa : Int), .int .i64 (xb : Int)] 61)).trans (hb25.mono (by simp; omega))); have hz25 : wr.heap.size < w25.heap.size := (by have := hb25.size; simp at this; omega); have g0 : w25.cell? ⟨wr.heap.size, 0, none⟩ = some (.int .u8 x.op) := Lib.cell_of_heap HX25.out 0; clear hb25)
              have HSc := Lib.hid (heap_alloc_new w25 (.cells #[.string (Pl.opName x.op), .int .i64 (Pl.shFirst x.op), .bool (Pl.two x.op), .int .i64 (Pl.shOff x.op), .int .i64 (Pl.shLays x.op)] 69))
              have HXc := Lib.hid ((heap_alloc_old w25 (.cells #[.string (Pl.opName x.op), .int .i64 (Pl.shFirst x.op), .bool (Pl.two x.op), .int .i64 (Pl.shOff x.op), .int .i64 (Pl.shLays x.op)] 69) hz25).trans HX25.out)
              have HBc := Lib.hid (isBuilder_alloc HB25.out (.cells #[.string (Pl.opName x.op), .int .i64 (Pl.shFirst x.op), .bool (Pl.two x.op), .int .i64 (Pl.shOff x.op), .int .i64 (Pl.shLays x.op)] 69))
              have hb25l : b ≤ w25.heap.size := by have := HW25.out.size; omega
              have HWc := Lib.hid (HW25.out.alloc hb25l (.cells #[.string (Pl.opName x.op), .int .i64 (Pl.shFirst x.op), .bool (Pl.two x.op), .int .i64 (Pl.shOff x.op), .int .i64 (Pl.shLays x.op)] 69))
              have hzc : w25.heap.size < (w25.alloc (.cells #[.string (Pl.opName x.op), .int .i64 (Pl.shFirst x.op), .bool (Pl.two x.op), .int .i64 (Pl.shOff x.op), .int .i64 (Pl.shLays x.op)] 69)).heap.size := by simp
              clear HX25 HB25 HW25 f0 f1 f2 g0
              generalize w25.alloc (.cells #[.string (Pl.opName x.op), .int .i64 (Pl.shFirst x.op), .bool (Pl.two x.op), .int .i64 (Pl.shOff x.op), .int .i64 (Pl.shLays x.op)] 69) = w26 at HSc HXc HBc HWc hzc ⊢
              obtain ⟨Xb, hXb0⟩ : ∃ Xb, wr.heap.size = Xb := ⟨_, rfl⟩
              obtain ⟨Sb, hSb0⟩ : ∃ Sb, w25.heap.size = Sb := ⟨_, rfl⟩
              rw [hXb0] at HXc ⊢
              rw [hSb0] at HSc ⊢
              have hXb : Xb ≠ b := by omega
              have hSb : Sb ≠ b := by omega
              have hb26 := isBuilder_lt HBc.out
              have s0 : w26.cell? ⟨Sb, 0, none⟩ = some (.string (Pl.opName x.op)) := Lib.cell_of_heap HSc.out 0
              have hS26 : Sb < w26.heap.size := by omega
              have hS26n : ¬ Sb = w26.heap.size := by omega
              have hlc26 : b ≤ w26.heap.size := by omega
              have hne26 : w26.heap.size ≠ b := by omega
              have HRW := Lib.hid (show (w26.alloc (.cells (strRow [⟨#[9]⟩, ⟨(Lib.decDigits j).toArray⟩, ⟨#[32]⟩, Pl.opName x.op]) 9)).drew.heap[w26.heap.size]? = some (.cells (strRow [⟨#[9]⟩, ⟨(Lib.decDigits j).toArray⟩, ⟨#[32]⟩, Pl.opName x.op]) 9 (0, 0)) from heap_alloc_new w26 _)
              have HBd := Lib.hid (isBuilder_drew (isBuilder_alloc HBc.out (.cells (strRow [⟨#[9]⟩, ⟨(Lib.decDigits j).toArray⟩, ⟨#[32]⟩, Pl.opName x.op]) 9)))
              have hlA : b ≤ (w26.alloc (.cells (strRow [⟨#[9]⟩, ⟨(Lib.decDigits j).toArray⟩, ⟨#[32]⟩, Pl.opName x.op]) 9)).drew.heap.size := by show b ≤ (w26.alloc _).heap.size; rw [World.size_alloc]; omega
              have HXd := Lib.hid (show (w26.alloc (.cells (strRow [⟨#[9]⟩, ⟨(Lib.decDigits j).toArray⟩, ⟨#[32]⟩, Pl.opName x.op]) 9)).drew.heap[Xb]? = _ from (heap_alloc_old w26 _ (by omega)).trans HXc.out)
              have HSd := Lib.hid (show (w26.alloc (.cells (strRow [⟨#[9]⟩, ⟨(Lib.decDigits j).toArray⟩, ⟨#[32]⟩, Pl.opName x.op]) 9)).drew.heap[Sb]? = _ from (heap_alloc_old w26 _ hS26).trans HSc.out)
              have HWd := Lib.hid (show Below b w2 (w26.alloc (.cells (strRow [⟨#[9]⟩, ⟨(Lib.decDigits j).toArray⟩, ⟨#[32]⟩, Pl.opName x.op]) 9)).drew from (HWc.out.alloc hlc26 _).drew)
              have hlenA : cont.length + (texts [⟨#[9]⟩, ⟨(Lib.decDigits j).toArray⟩, ⟨#[32]⟩, Pl.opName x.op]).length ≤ 140737488355328 := by simp [texts]; omega
              have hcl4 : (cont ++ texts [⟨#[9]⟩, ⟨(Lib.decDigits j).toArray⟩, ⟨#[32]⟩, Pl.opName x.op]).length ≤ 700100 := by simp [texts]; omega
              have HT4 := Lib.hid (show texts [⟨#[9]⟩, ⟨(Lib.decDigits j).toArray⟩, ⟨#[32]⟩, Pl.opName x.op] = [9] ++ (Lib.decDigits j ++ ([32] ++ (Pl.opName x.op).data.toList)) from by simp [texts])
              have CP := Lib.hid (cput_any HBd.out HRW.out hne26 hlenA (by simp) hlA 4 rfl)
              clear HBc
              go_region_with (first
                | (go_at_call 37; refine (Tryz.strconv_Itoa_small j (by omega) _).mono ?_; rintro e w8 ⟨rfl, rfl⟩)
                | (go_at_call 36
                   refine CP.out.mono ?_
                   rintro e w27 ⟨rfl, hBd, hbd, hrd⟩
                   have HBc := Lib.hid hBd
                   have HWc := Lib.hid (HWd.out.trans hbd)
                   have hxd := hrd.row HXd.out (by decide) hXb
                   have hsd := hrd.row HSd.out (by decide) hSb
                   have HXc := Lib.hid hxd
                   have HSc := Lib.hid hsd
                   have x1 : w27.cell? ⟨Xb, 1, none⟩ = some (.int .i64 (xa : Int)) := Lib.cell_of_heap hxd 1
                   have x2 : w27.cell? ⟨Xb, 2, none⟩ = some (.int .i64 (xb : Int)) := Lib.cell_of_heap hxd 2
                   have s1 : w27.cell? ⟨Sb, 1, none⟩ = some (.int .i64 (Pl.shFirst x.op)) := Lib.cell_of_heap hsd 1
                   have s2 : w27.cell? ⟨Sb, 2, none⟩ = some (.bool (Pl.two x.op)) := Lib.cell_of_heap hsd 2
                   have hxl := heap_lt hxd
                   have hsl := heap_lt hsd
                   have hlc : b ≤ w27.heap.size := (by have := HWc.out.size; omega)
                   clear hBd hbd hrd hxd hsd))
              all_goals
                have ht10 : (texts [⟨#[10]⟩]).length = 1 := rfl
                by_cases hf : 0 < Pl.shFirst x.op <;> cases htw : Pl.two x.op
                all_goals
                  rw [htw] at s2
                  go_wp2_with (first
                    | (go_at_call 39
                       first
                       | (refine (numbers_new HBc.out [xa] _ rfl (by intro n hn; simp at hn; omega) (by first | (simp only [List.length_cons, List.length_nil]; omega) | (rw [List.length_append]; simp only [List.length_cons, List.length_nil]; omega)) hlc 1 rfl).mono ?_
                          rintro e w28 ⟨rfl, hBd, hbd, hrd⟩
                          have HBc := Lib.hid hBd
                          have HWc := Lib.hid (HWc.out.trans hbd)
                          have hxd := hrd.row HXc.out (by decide) hXb
                          have hsd := hrd.row HSc.out (by decide) hSb
                          have HXc := Lib.hid hxd
                          have HSc := Lib.hid hsd
                          have x1 : w28.cell? ⟨Xb, 1, none⟩ = some (.int .i64 (xa : Int)) := Lib.cell_of_heap hxd 1
                          have x2 : w28.cell? ⟨Xb, 2, none⟩ = some (.int .i64 (xb : Int)) := Lib.cell_of_heap hxd 2
                          have s1 : w28.cell? ⟨Sb, 1, none⟩ = some (.int .i64 (Pl.shFirst x.op)) := Lib.cell_of_heap hsd 1
                          have s2 : w28.cell? ⟨Sb, 2, none⟩ = some (.bool (Pl.two x.op)) := Lib.cell_of_heap hsd 2
                          rw [htw] at s2
                          have hxl := heap_lt hxd
                          have hsl := heap_lt hsd
                          have hlc : b ≤ w28.heap.size := (by have := HWc.out.size; omega)
                          clear hBd hbd hrd hxd hsd)
                       | (refine (numbers_new HBc.out [xb] _ rfl (by intro n hn; simp at hn; omega) (by first | (simp only [List.length_cons, List.length_nil]; omega) | (rw [List.length_append]; simp only [List.length_cons, List.length_nil]; omega)) hlc 1 rfl).mono ?_
                          rintro e w28 ⟨rfl, hBd, hbd, hrd⟩
                          have HBc := Lib.hid hBd
                          have HWc := Lib.hid (HWc.out.trans hbd)
                          have hxd := hrd.row HXc.out (by decide) hXb
                          have hsd := hrd.row HSc.out (by decide) hSb
                          have HXc := Lib.hid hxd
                          have HSc := Lib.hid hsd
                          have x1 : w28.cell? ⟨Xb, 1, none⟩ = some (.int .i64 (xa : Int)) := Lib.cell_of_heap hxd 1
                          have x2 : w28.cell? ⟨Xb, 2, none⟩ = some (.int .i64 (xb : Int)) := Lib.cell_of_heap hxd 2
                          have s1 : w28.cell? ⟨Sb, 1, none⟩ = some (.int .i64 (Pl.shFirst x.op)) := Lib.cell_of_heap hsd 1
                          have s2 : w28.cell? ⟨Sb, 2, none⟩ = some (.bool (Pl.two x.op)) := Lib.cell_of_heap hsd 2
                          rw [htw] at s2
                          have hxl := heap_lt hxd
                          have hsl := heap_lt hsd
                          have hlc : b ≤ w28.heap.size := (by have := HWc.out.size; omega)
                          clear hBd hbd hrd hxd hsd))
                    | (go_at_call 36
                       refine (cput_new HBc.out [⟨#[10]⟩] _ rfl (by first | omega | (rw [List.length_append]; omega) | (rw [List.length_append, List.length_append]; omega)) (by simp) hlc 1 rfl).mono ?_
                       rintro e w30 ⟨rfl, hBd, hbd, hrd⟩
                       have HBz := Lib.hid hBd
                       have HWz := Lib.hid (HWc.out.trans hbd)
                       clear hBd hbd hrd))
                  go_roundw
                  case rel =>
                    have HLN3 := HLN2.out
                    rw [htw] at HLN3
                    first
                      | rw [if_pos hf] at HLN3
                      | rw [if_neg (by omega)] at HLN3
                    have hline : (insLine j x).length ≤ 40 := by rw [HLN3]; simp; omega
                    refine ⟨j + 1, by go_num, by omega, by rw [HST2.out, List.length_append]; omega, ?_, HWz.out⟩
                    have hz := HBz.out
                    rw [HT4.out] at hz
                    rw [HST2.out, ← List.append_assoc, HCONT.out, HLN3]
                    simpa [texts] using hz
                  case measure => simp [RowKit.intOf]; omega
            · have hjI : (u.code.length : Int) ≤ (j : Int) := by omega
              have hje : j = u.code.length := by omega
              rw [hje] at HBj hjl
              clear hje
              go_wp2_with fail
              go_roundw
              case rel => exact ⟨k + 1, by go_num, by omega, by rw [HST.out, HLN.out]; simp only [List.length_append, List.length_cons, List.length_nil] at hhd ⊢; omega, by rw [HST.out, HLN.out, ← List.append_assoc, ← List.append_assoc, HBASE2.out]; exact HBj.out, HWj.out⟩
              case measure => simp [RowKit.intOf]; omega
        · have hltI : (c.units.length : Int) ≤ (k : Int) := by omega
          have hke : k = c.units.length := by omega
          rw [hke] at HB hkl
          have hne : base ++ idxTo untLine c.units c.units.length ≠ [] := by rw [← HBASE.out]; simp [showHead]
          clear hke
          go_wp2_with (go_at_call 40; refine (bstring_any b b _ _ HB.out hne).mono ?_; rintro e w20 ⟨rfl, hb20⟩; have HB20 := Lib.hid (HBW.out.trans (hb20.mono (by omega))); clear hb20)
          go_ret2
          have hsb : showB f c = base ++ idxTo untLine c.units c.units.length := by unfold showB; rw [HBASE.out]
          rw [hsb]
          exact ⟨rfl, HB20.out⟩
end Go.Proofs.YtoklnpoacckbfaaGreatDoor
