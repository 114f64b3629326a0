/- Plain: the sample and its like: which may be run. The sample as it lies in memory; far. awake. (Printed by gen_awk.py.) -/
import Derived.Test.YtoklnpoacckbfaaGreatDoorKaah
import Derived.Test.YtoklnpoacckbfaaGreatDoorKabl
import Derived.Test.YtoklnpoacckbfaaGreatDoorKaaj
import Derived.Test.YtoklnpoacckbfaaGreatDoorKaai
import Derived.Test.YtoklnpoacckbfaaGreatDoorKabt
import Derived.Test.YtoklnpoacckbfaaGreatDoorKabk
import Derived.Test.YtoklnpoacckbfaaGreatDoorKuac
namespace Go.Proofs.YtoklnpoacckbfaaGreatDoor
open Go Go.RowKit Go.Lib
namespace Pl
def sLits : List Lit := [.mk 4 1 0 ⟨#[]⟩ [], .mk 9 0 0 ⟨#[43]⟩ []]
def sIns (z : Nat) : List Ins := [⟨6, 0, 0⟩, ⟨5, 0, 0⟩, ⟨16, 1, 1⟩, ⟨z, 0, 0⟩]
def sUnt (st : Int) (z : Nat) : Unt := ⟨1, 0, 0, st, sIns z⟩
def smp (st : Int) (z : Nat) : Cod := ⟨⟨#[102, 111, 111, 58]⟩, 0, sLits, [sUnt st z]⟩
theorem arity_foo : arity [102, 111, 111, 58] = 1 := by decide
theorem arity_plus : arity [43] = 1 := by decide
theorem smp_formed (st : Int) (z : Nat) (h : in_ st 0 250) : Formed (smp st z) := by
  refine ⟨?_, ?_, ?_, ?_, ?_, ?_, ?_⟩
  · show 0 ≤ arity [102, 111, 111, 58]; rw [arity_foo]; omega
  · unfold in_ smp; simp
  · simp [smp, sLits]
  · simp [smp]
  · intro x hx
    simp [smp, sLits] at hx
    rcases hx with rfl | rfl <;> decide
  · intro u hu
    simp [smp] at hu
    subst hu
    exact ⟨by simp [sUnt, in_], by simp [sUnt, in_], by simp [sUnt, in_], by simp [sUnt], h, by simp [sUnt, sIns]⟩
  · intro u hu
    simp [smp] at hu
    subst hu
    exact ⟨arity_foo.symm, rfl⟩
theorem smp_ins (st : Int) (z i : Nat) (u : Unt) (hu : (smp st z).units[i]? = some u) : i = 0 ∧ u = sUnt st z := by
  cases i with
  | zero => simp [smp] at hu; exact ⟨rfl, hu.symm⟩
  | succ i => simp [smp] at hu
theorem smp_stand (st : Int) : AllStand (smp st 21) := by
  intro i u hu x hx
  obtain ⟨rfl, rfl⟩ := smp_ins st 21 i u hu
  simp [sUnt, sIns] at hx
  rcases hx with rfl | rfl | rfl | rfl
  · simp [Stands, bytesA, two, in_, unt, smp, sUnt]
  · simp [Stands, bytesA, two, in_, smp, sUnt, sLits]
  · simp [Stands, bytesA, two, in_, smp, sUnt, sLits, symbol, Lit.kind, Lit.text]
    decide
  · simp [Stands, bytesA, two]
theorem smp_last (st : Int) : ¬ AllStand (smp st 22) := by
  intro h
  have := h 0 (sUnt st 22) rfl ⟨22, 0, 0⟩ (by simp [sUnt, sIns])
  simp [Stands, bytesA, two] at this
theorem smp_fit : AllFit (smp 2 21) := by
  intro u hu
  simp [smp] at hu
  subst hu
  refine ⟨fun p => if p = 0 then some 0 else if p = 1 then some 1 else if p = 2 then some 2 else if p = 3 then some 1 else none, rfl, ?_⟩
  intro p h hp hh
  have hp4 : p = 0 ∨ p = 1 ∨ p = 2 ∨ p = 3 := by simp [sUnt, sIns] at hp; omega
  rcases hp4 with rfl | rfl | rfl | rfl <;> simp at hh <;> subst hh
  · refine ⟨by decide, by decide, by decide, ?_⟩
    rintro k (⟨_, rfl⟩ | ⟨hj, _⟩)
    · exact ⟨by decide, by decide, by decide⟩
    · exact absurd hj (by unfold Jumps; decide)
  · refine ⟨by decide, by decide, by decide, ?_⟩
    rintro k (⟨_, rfl⟩ | ⟨hj, _⟩)
    · exact ⟨by decide, by decide, by decide⟩
    · exact absurd hj (by unfold Jumps; decide)
  · refine ⟨by decide, by decide, by decide, ?_⟩
    rintro k (⟨_, rfl⟩ | ⟨hj, _⟩)
    · exact ⟨by decide, by decide, by decide⟩
    · exact absurd hj (by unfold Jumps; decide)
  · refine ⟨by decide, by decide, by decide, ?_⟩
    rintro k (⟨hg, _⟩ | ⟨hj, _⟩)
    · exact absurd hg (by unfold GoesOn; decide)
    · exact absurd hj (by unfold Jumps; decide)
theorem smp_low : ¬ AllFit (smp 1 21) := by
  intro h
  obtain ⟨H, h0, hg⟩ := h (sUnt 1 21) (by simp [smp])
  obtain ⟨_, _, _, h1⟩ := hg 0 0 (by decide) h0
  obtain ⟨_, _, e1⟩ := h1 1 (.inl ⟨by unfold GoesOn; decide, rfl⟩)
  have e1' : H 1 = some 1 := e1
  obtain ⟨_, _, h3, _⟩ := hg 1 1 (by decide) e1'
  exact absurd h3 (by decide)
theorem check_smp : check (smp 2 21) = 0 := check_ok.2 ⟨smp_formed 2 21 (by decide), smp_stand 2, smp_fit⟩
theorem check_low : check (smp 1 21) = 202 := by
  unfold check
  rw [if_neg (not_not_intro (smp_formed 1 21 (by decide))), if_neg (not_not_intro (smp_stand 1)), if_pos smp_low]
theorem check_last : check (smp 2 22) = 201 := by
  unfold check
  rw [if_neg (not_not_intro (smp_formed 2 22 (by decide))), if_pos (smp_last 2)]
theorem smp_bytes : enc 0 [sUnt 2 21] = [0, 1, 1, 0, 0, 2, 4, 0, 6, 0, 5, 0, 16, 1, 1, 21] := by decide
end Pl
end Go.Proofs.YtoklnpoacckbfaaGreatDoor
namespace Go.Proofs.YtoklnpoacckbfaaGreatDoor
open Go Go.RowKit
/-- a row out of a block that is known whole -/
theorem RowAt.whole {α : Type} {cs : α → Value → List Value} {size : Nat} {w : World} {A : Nat} {ps : List (α × Value)} {t : TypeId} {fz : Nat × Nat} (hcs : ∀ x v, (cs x v).length = size) (h : w.heap[A]? = some (.cells (rowOf cs ps).toArray t fz)) (hlen : ps.length ≤ 140737488355328) :
    RowAt size cs w (ps.map (·.1)) (some ⟨A, 0, none⟩) ps.length (valOf ps) := by
  have hl : A < w.heap.size := by
    rcases Nat.lt_or_ge A w.heap.size with h' | h'
    · exact h'
    · simp [Array.getElem?_eq_none h'] at h
  refine ⟨by simp, by unfold maxLen; omega, by simpa using hlen, fun _ => ⟨A, 0, rfl⟩, by simp, fun _ a ha => by cases ha; exact hl, ?_⟩
  intro b o e2 i x hx j u hu
  cases e2
  rw [List.getElem?_map] at hx
  obtain ⟨p, hp, rfl⟩ : ∃ p, ps[i]? = some p ∧ p.1 = x := by
    cases hps : ps[i]? with
    | none => rw [hps] at hx; cases hx
    | some p => rw [hps] at hx; exact ⟨p, rfl, by simpa using hx⟩
  rw [valOf_at hp] at hu
  have := rowOf_at hcs ps i p hp j u hu
  rw [World.cell?, h]
  simp only [Nat.zero_add]
  rw [List.getElem?_toArray]
  exact this
def sampleLits : List (Pl.Lit × Value) := [(.mk 4 1 0 ⟨#[]⟩ [], .slice none 0 0), (.mk 9 0 0 ⟨#[43]⟩ [], .slice none 0 0)]
def sampleIns (z : Nat) : List (Pl.Ins × Value) := (Pl.sIns z).map fun x => (x, .nilFunc)
def sampleUnts (st : Int) (z A : Nat) : List (Pl.Unt × Value) := [(Pl.sUnt st z, .slice (some ⟨A, 0, none⟩) 4 4)]
theorem lits_none (B : Nat) (w : World) : LitsAt B w [] (.slice none 0 0) :=
  LitsAt.mk none [] 0 (fun _ => .nilFunc) (by simp) ⟨by simp, by unfold maxLen; omega, by simp, by simp, by simp, by simp, by simp⟩ (by simp) (by simp)
/-- the sample lies at three blocks -/
structure SmpAt (w : World) (I T Uu : Nat) (st : Int) (z : Nat) : Prop where
  i : w.heap[I]? = some (.cells (rowOf insCells (sampleIns z)).toArray 61 (0, 0))
  l : w.heap[T]? = some (.cells (rowOf litCells sampleLits).toArray 37 (0, 0))
  u : w.heap[Uu]? = some (.cells (rowOf untCells (sampleUnts st z I)).toArray 58 (0, 0))
def smpL (T : Nat) : Value := .slice (some ⟨T, 0, none⟩) 2 2
def smpU (Uu : Nat) : Value := .slice (some ⟨Uu, 0, none⟩) 1 1
theorem SmpAt.code {w : World} {I T Uu : Nat} {st : Int} {z : Nat} (h : SmpAt w I T Uu st z) (hst : 0 ≤ st ∧ st < 100) (hz : z < 256) : CodAt w.heap.size w (Pl.smp st z) (smpL T) (smpU Uu) := by
  obtain ⟨hi, hl, hu⟩ := h
  have ri := RowAt.whole insCells_len hi (by simp [sampleIns, Pl.sIns])
  have rl := RowAt.whole litCells_len hl (by simp [sampleLits])
  have ru := RowAt.whole untCells_len hu (by simp [sampleUnts])
  have mi : (sampleIns z).map (·.1) = Pl.sIns z := rfl
  have ml : sampleLits.map (·.1) = Pl.sLits := rfl
  have mu : (sampleUnts st z I).map (·.1) = [Pl.sUnt st z] := rfl
  rw [mi] at ri
  rw [ml] at rl
  rw [mu] at ru
  have HI : InssAt w.heap.size w (Pl.sIns z) (.slice (some ⟨I, 0, none⟩) 4 4) :=
    ⟨some ⟨I, 0, none⟩, 4, rfl, fun hn a ha => ri.lt hn a ha, ⟨ri.le, ri.capL, ri.len, ri.addr, ri.nil, ri.lt, fun b o e i x hx j u hu => ri.cells b o e i x hx j u hu⟩, by
      intro x hx
      simp [Pl.sIns] at hx
      rcases hx with rfl | rfl | rfl | rfl <;> exact ⟨by first | exact hz | decide, by simp, by simp, by simp, by simp⟩⟩
  refine ⟨LitsAt.mk (some ⟨T, 0, none⟩) Pl.sLits 2 (valOf sampleLits) (fun hn a ha => rl.lt hn a ha) rl ?_ ?_, ⟨some ⟨Uu, 0, none⟩, 1, valOf (sampleUnts st z I), rfl, fun hn a ha => ru.lt hn a ha, ru, ?_, ?_⟩, (show 4 ≤ 140737488355328 by omega), (show (-9223372036854775808 : Int) ≤ 0 by omega), (show (0 : Int) ≤ 9223372036854775807 by omega), Nat.le_refl _⟩
  · intro x hx
    simp [Pl.sLits] at hx
    rcases hx with rfl | rfl <;> exact ⟨by decide, by decide, by decide, by decide, by decide⟩
  · intro i x hx
    match i, hx with
    | 0, hx => cases hx; exact lits_none _ _
    | 1, hx => cases hx; exact lits_none _ _
    | i + 2, hx => simp [Pl.sLits] at hx
  · intro x hx
    simp [Pl.smp] at hx
    subst hx
    exact ⟨by simp [Pl.sUnt], by simp [Pl.sUnt], by simp [Pl.sUnt], by simp [Pl.sUnt], by simp [Pl.sUnt], by simp [Pl.sUnt], by simp [Pl.sUnt]; omega, by simp [Pl.sUnt]; omega⟩
  · intro i x hx
    match i, hx with
    | 0, hx => cases hx; exact HI
    | i + 1, hx => simp [Pl.smp] at hx
set_option maxRecDepth 100000 in
set_option maxHeartbeats 1000000 in
theorem sample_any (w : World) : Calls Tryz.prog 24 #[] w fun e w' => ∃ I T Uu, e = .returned (codV (Pl.smp 2 21) (smpL T) (smpU Uu)) ∧ SmpAt w' I T Uu 2 21 ∧ Below w.heap.size w w' ∧ w.heap.size ≤ I ∧ w.heap.size ≤ T ∧ w.heap.size ≤ Uu := by
  go_enter Tryz.func24, Tryz.ntmps24
  go_wp2_with fail
  refine bodyPost_ret (v := codV (Pl.smp 2 21) (smpL (w.heap.size + 1 + 1)) (smpU (w.heap.size + 1 + 1 + 1))) (by simp [results, Tryz.results24, go_sem, codV, smpL, smpU, Pl.smp]) rfl ?_
  refine ⟨w.heap.size + 1, w.heap.size + 1 + 1, w.heap.size + 1 + 1 + 1, rfl, ⟨?_, ?_, ?_⟩, ?_, by omega, by omega, by omega⟩
  · rw [heap_alloc_old _ _ (by simp), heap_alloc_old _ _ (by simp)]
    have := heap_alloc_new (w.alloc (.cells #[.string ⟨#[102, 111, 111, 58]⟩, .int .i64 0, smpL (w.heap.size + 1 + 1), smpU (w.heap.size + 1 + 1 + 1)] 25)) (.cells (rowOf insCells (sampleIns 21)).toArray 61)
    rw [World.size_alloc] at this
    exact this
  · rw [heap_alloc_old _ _ (by simp)]
    have := heap_alloc_new ((w.alloc (.cells #[.string ⟨#[102, 111, 111, 58]⟩, .int .i64 0, smpL (w.heap.size + 1 + 1), smpU (w.heap.size + 1 + 1 + 1)] 25)).alloc (.cells (rowOf insCells (sampleIns 21)).toArray 61)) (.cells (rowOf litCells sampleLits).toArray 37)
    rw [World.size_alloc, World.size_alloc] at this
    exact this
  · have := heap_alloc_new (((w.alloc (.cells #[.string ⟨#[102, 111, 111, 58]⟩, .int .i64 0, smpL (w.heap.size + 1 + 1), smpU (w.heap.size + 1 + 1 + 1)] 25)).alloc (.cells (rowOf insCells (sampleIns 21)).toArray 61)).alloc (.cells (rowOf litCells sampleLits).toArray 37)) (.cells (rowOf untCells (sampleUnts 2 21 (w.heap.size + 1))).toArray 58)
    rw [World.size_alloc, World.size_alloc, World.size_alloc] at this
    exact this
  · exact ((((Below.refl _ _).alloc (Nat.le_refl _) _).alloc (by simp) _).alloc (by simp; omega) _).alloc (by simp; omega) _
end Go.Proofs.YtoklnpoacckbfaaGreatDoor
namespace Go.Proofs.YtoklnpoacckbfaaGreatDoor
open Go Go.RowKit
theorem SmpAt.keep {w w' : World} {I T Uu : Nat} {st : Int} {z : Nat} (h : SmpAt w I T Uu st z) (hb : Below w.heap.size w w') : SmpAt w' I T Uu st z := by
  obtain ⟨h1, h2, h3⟩ := h
  exact ⟨(hb.block _ (heap_lt h1)).trans h1, (hb.block _ (heap_lt h2)).trans h2, (hb.block _ (heap_lt h3)).trans h3⟩
theorem SmpAt.ne {w : World} {I T Uu : Nat} {st : Int} {z : Nat} (h : SmpAt w I T Uu st z) : I ≠ Uu ∧ T ≠ Uu ∧ T ≠ I := by
  obtain ⟨h1, h2, h3⟩ := h
  refine ⟨fun e => ?_, fun e => ?_, fun e => ?_⟩
  · subst e
    rw [h1] at h3
    simp only [Option.some.injEq, Obj.cells.injEq] at h3
    exact absurd h3.2.1 (by decide)
  · subst e
    rw [h2] at h3
    simp only [Option.some.injEq, Obj.cells.injEq] at h3
    exact absurd h3.2.1 (by decide)
  · subst e
    rw [h2] at h1
    simp only [Option.some.injEq, Obj.cells.injEq] at h1
    exact absurd h1.2.1 (by decide)
theorem SmpAt.low {w : World} {I T Uu : Nat} (h : SmpAt w I T Uu 2 21) : SmpAt (w.setCell ⟨Uu, 3, none⟩ (.int .i64 1)) I T Uu 1 21 := by
  obtain ⟨n1, n2, _⟩ := h.ne
  refine ⟨(Below.heap_setCell w ⟨Uu, 3, none⟩ _ _ n1).trans h.i, (Below.heap_setCell w ⟨Uu, 3, none⟩ _ _ n2).trans h.l, ?_⟩
  rw [heap_setCell_at w Uu 3 _ h.u]
  rfl
theorem SmpAt.last {w : World} {I T Uu : Nat} (h : SmpAt w I T Uu 2 21) : SmpAt (w.setCell ⟨I, 9, none⟩ (.int .u8 22)) I T Uu 2 22 := by
  obtain ⟨n1, _, n3⟩ := h.ne
  refine ⟨?_, (Below.heap_setCell w ⟨I, 9, none⟩ _ _ n3).trans h.l, (Below.heap_setCell w ⟨I, 9, none⟩ _ _ n1.symm).trans h.u⟩
  rw [heap_setCell_at w I 9 _ h.i]
  rfl
theorem CodAt.wide {B : Nat} {w w' : World} {c : Pl.Cod} {L U : Value} (h : CodAt B w c L U) (hb : Below B w w') : CodAt w'.heap.size w' c L U :=
  have k := h.keep hb
  ⟨k.l.up k.b, k.u.up k.b, k.s, k.p0, k.p1, Nat.le_refl _⟩
theorem smp_big (st : Int) (z : Nat) : Pl.litsBig (Pl.smp st z).lits ≤ 262144 := by
  show Pl.litsBig Pl.sLits ≤ 262144
  decide
def smpF (x : Pl.Lit) : List UInt8 := if x.kind = 4 then [49] else [35, 43]
theorem smp_shown : showB smpF (Pl.smp 2 21) = [102, 111, 111, 58, 10, 48, 32, 49, 10, 49, 32, 35, 43, 10, 117, 110, 105, 116, 32, 48, 58, 32, 49, 32, 48, 32, 48, 32, 50, 10, 9, 48, 32, 76, 111, 99, 97, 108, 32, 48, 10, 9, 49, 32, 76, 105, 116, 32, 48, 10, 9, 50, 32, 83, 101, 110, 100, 32, 49, 32, 49, 10, 9, 51, 32, 82, 101, 116, 117, 114, 110, 10] := by
  have e0 := dec_one (n := 0) (by omega)
  have e1 := dec_one (n := 1) (by omega)
  have e2 := dec_one (n := 2) (by omega)
  have e3 := dec_one (n := 3) (by omega)
  simp [showB, showHead, idxTo, litLine, untLine, insLine, blanks, Pl.smp, Pl.sLits, Pl.sUnt, Pl.sIns, smpF, List.range_succ, Pl.Lit.kind, Pl.shFirst, Pl.two, Pl.bytesA, Pl.opName, e0, e1, e2, e3]
theorem scheck {w : World} {I T Uu : Nat} {st : Int} {z : Nat} (h : SmpAt w I T Uu st z) (hst : 0 ≤ st ∧ st < 100) (hz : z < 256) (he : ErrAt w) :
    Calls Tryz.prog 11 #[.agg #[.string ⟨#[102, 111, 111, 58]⟩, .int .i64 0, .slice (some ⟨T, 0, none⟩) 2 2, .slice (some ⟨Uu, 0, none⟩) 1 1]] w fun e w' => e = .returned (.int .i64 (Pl.check (Pl.smp st z) : Nat)) ∧ Below w.heap.size w w' :=
  check_any w (h.code hst hz) he he.1 (smp_big st z)
theorem spack {w : World} {I T Uu : Nat} (h : SmpAt w I T Uu 2 21) (he : ErrAt w) :
    Calls Tryz.prog 14 #[.agg #[.string ⟨#[102, 111, 111, 58]⟩, .int .i64 0, .slice (some ⟨T, 0, none⟩) 2 2, .slice (some ⟨Uu, 0, none⟩) 1 1]] w fun e w' => e = .returned (.tuple #[.string ⟨#[0, 1, 1, 0, 0, 2, 4, 0, 6, 0, 5, 0, 16, 1, 1, 21]⟩, .int .i64 0]) ∧ Below w.heap.size w w' := by
  refine (pack_any w (h.code (by omega) (by omega)) he he.1 (smp_big 2 21)).mono ?_
  rintro e w' ⟨h1, h2⟩
  refine ⟨?_, h2⟩
  rw [h1, Pl.check_smp]
  have : packS (Pl.smp 2 21) = ⟨#[0, 1, 1, 0, 0, 2, 4, 0, 6, 0, 5, 0, 16, 1, 1, 21]⟩ := by
    unfold packS
    rw [if_pos Pl.check_smp]
    show Pl.bs (Pl.enc 0 [Pl.sUnt 2 21]) = _
    rw [Pl.smp_bytes]
    rfl
  rw [this]
  rfl
theorem sunpack {w : World} {I T Uu : Nat} (h : SmpAt w I T Uu 2 21) (he : ErrAt w) :
    Calls Tryz.prog 20 #[.string ⟨#[102, 111, 111, 58]⟩, .slice (some ⟨T, 0, none⟩) 2 2, .string ⟨#[0, 1, 1, 0, 0, 2, 4, 0, 6, 0, 5, 0, 16, 1, 1, 21]⟩] w fun e w' => ∃ L' U', e = .returned (.tuple #[.agg #[.string ⟨#[102, 111, 111, 58]⟩, .int .i64 0, L', U'], .int .i64 0]) ∧ CodAt w'.heap.size w' (Pl.smp 2 21) L' U' ∧ Below w.heap.size w w' := by
  have hc := h.code (st := 2) (z := 21) (by omega) (by omega)
  refine (unpack_any2 (sel := ⟨#[102, 111, 111, 58]⟩) (b := ⟨#[0, 1, 1, 0, 0, 2, 4, 0, 6, 0, 5, 0, 16, 1, 1, 21]⟩) hc.l (Nat.le_refl _) (by decide) (by decide) he he.1 (smp_big 2 21)).mono ?_
  have hp : packS (Pl.smp 2 21) = ⟨#[0, 1, 1, 0, 0, 2, 4, 0, 6, 0, 5, 0, 16, 1, 1, 21]⟩ := by
    unfold packS
    rw [if_pos Pl.check_smp]
    show Pl.bs (Pl.enc 0 [Pl.sUnt 2 21]) = _
    rw [Pl.smp_bytes]
    rfl
  have hu := Pl.unpack_pack Pl.check_smp
  rw [hp] at hu
  rintro e w' ⟨⟨c, L', U', h1, h2, _, h4⟩ | ⟨h1, _⟩, hb⟩
  · have h1' : Pl.unpackC (Pl.smp 2 21).sel (Pl.smp 2 21).lits ⟨#[0, 1, 1, 0, 0, 2, 4, 0, 6, 0, 5, 0, 16, 1, 1, 21]⟩ = some c := h1
    rw [hu] at h1'
    cases h1'
    exact ⟨L', U', h2, h4, hb⟩
  · have h1' : Pl.unpackC (Pl.smp 2 21).sel (Pl.smp 2 21).lits ⟨#[0, 1, 1, 0, 0, 2, 4, 0, 6, 0, 5, 0, 16, 1, 1, 21]⟩ = none := h1
    rw [hu] at h1'
    cases h1'
theorem sshow {w : World} {I T Uu : Nat} (h : SmpAt w I T Uu 2 21) (he : ErrAt w) :
    Calls Tryz.prog 15 #[.agg #[.string ⟨#[102, 111, 111, 58]⟩, .int .i64 0, .slice (some ⟨T, 0, none⟩) 2 2, .slice (some ⟨Uu, 0, none⟩) 1 1]] w fun e w' => e = .returned (.tuple #[.string ⟨#[102, 111, 111, 58, 10, 48, 32, 49, 10, 49, 32, 35, 43, 10, 117, 110, 105, 116, 32, 48, 58, 32, 49, 32, 48, 32, 48, 32, 50, 10, 9, 48, 32, 76, 111, 99, 97, 108, 32, 48, 10, 9, 49, 32, 76, 105, 116, 32, 48, 10, 9, 50, 32, 83, 101, 110, 100, 32, 49, 32, 49, 10, 9, 51, 32, 82, 101, 116, 117, 114, 110, 10]⟩, .int .i64 0]) ∧ Below w.heap.size w w' := by
  refine (show_any w (h.code (by omega) (by omega)) he he.1 (smp_big 2 21) Pl.check_smp rfl smpF ?_ ?_ (by decide) (by simp [Pl.smp, Pl.sLits]) (by simp [Pl.smp]) ?_).mono ?_
  · intro x hx
    simp [Pl.smp, Pl.sLits] at hx
    rcases hx with rfl | rfl
    · exact @prints_small
    · exact @prints_plus
  · intro x hx
    simp [Pl.smp, Pl.sLits] at hx
    rcases hx with rfl | rfl <;> simp [smpF, Pl.Lit.kind]
  · intro u hu
    simp [Pl.smp] at hu
    subst hu
    refine ⟨by simp [Pl.sUnt], by simp [Pl.sUnt], by simp [Pl.sUnt], by simp [Pl.sUnt], by simp [Pl.sUnt, Pl.sIns], ?_⟩
    intro x hx
    simp [Pl.sUnt, Pl.sIns] at hx
    rcases hx with rfl | rfl | rfl | rfl <;> exact ⟨by decide, by decide, by decide⟩
  · rintro e w' ⟨h1, h2⟩
    rw [smp_shown] at h1
    exact ⟨h1, h2⟩
theorem ssample (w : World) : Calls Tryz.prog 24 #[] w fun e w' => ∃ I T Uu, e = .returned (.agg #[.string ⟨#[102, 111, 111, 58]⟩, .int .i64 0, .slice (some ⟨T, 0, none⟩) 2 2, .slice (some ⟨Uu, 0, none⟩) 1 1]) ∧ SmpAt w' I T Uu 2 21 ∧ Below w.heap.size w w' ∧ w.heap.size ≤ I ∧ w.heap.size ≤ T ∧ w.heap.size ≤ Uu := sample_any w
set_option maxRecDepth 100000 in
set_option maxHeartbeats 8000000 in
theorem awake_any (w : World) (he : ErrAt w) : Calls Tryz.prog 8 #[] w fun e w' => e = .returned (.bool true) ∧ Below w.heap.size w w' := by
  have HE := Lib.hid he
  clear he
  go_enter Tryz.func8, Tryz.ntmps8
  go_wp2_with (go_at_call 24; refine (ssample _).mono ?_; rintro e w2 ⟨I, T, Uu, rfl, hs2, hb2, _, _, _⟩; have HS2 := Lib.hid hs2; have HB2 := Lib.hid hb2; clear hs2 hb2)
  -- the sample lies in a box of its own
  have HC3 := Lib.hid (heap_alloc_new w2 (.cells #[.string ⟨#[102, 111, 111, 58]⟩, .int .i64 0, .slice (some ⟨T, 0, none⟩) 2 2, .slice (some ⟨Uu, 0, none⟩) 1 1] 25))
  have HS3 := Lib.hid (HS2.out.keep ((Below.refl _ _).alloc (Nat.le_refl _) (.cells #[.string ⟨#[102, 111, 111, 58]⟩, .int .i64 0, .slice (some ⟨T, 0, none⟩) 2 2, .slice (some ⟨Uu, 0, none⟩) 1 1] 25)))
  have HB3 := Lib.hid (HB2.out.alloc HB2.out.size (.cells #[.string ⟨#[102, 111, 111, 58]⟩, .int .i64 0, .slice (some ⟨T, 0, none⟩) 2 2, .slice (some ⟨Uu, 0, none⟩) 1 1] 25))
  have hz3 : w2.heap.size < (w2.alloc (.cells #[.string ⟨#[102, 111, 111, 58]⟩, .int .i64 0, .slice (some ⟨T, 0, none⟩) 2 2, .slice (some ⟨Uu, 0, none⟩) 1 1] 25)).heap.size := by simp
  generalize w2.alloc (.cells #[.string ⟨#[102, 111, 111, 58]⟩, .int .i64 0, .slice (some ⟨T, 0, none⟩) 2 2, .slice (some ⟨Uu, 0, none⟩) 1 1] 25) = w3 at HC3 HS3 HB3 hz3 ⊢
  obtain ⟨C, hC⟩ : ∃ C, w2.heap.size = C := ⟨_, rfl⟩
  rw [hC] at HC3 hz3 ⊢
  have HK := Lib.hid (fun (W : World) (hb : Below w3.heap.size w3 W) => show W.cell? ⟨C, 0, none⟩ = some (.string ⟨#[102, 111, 111, 58]⟩) ∧ W.cell? ⟨C, 1, none⟩ = some (.int .i64 0) ∧ W.cell? ⟨C, 2, none⟩ = some (.slice (some ⟨T, 0, none⟩) 2 2) ∧ W.cell? ⟨C, 3, none⟩ = some (.slice (some ⟨Uu, 0, none⟩) 1 1) ∧ C < W.heap.size ∧ SmpAt W I T Uu 2 21 ∧ ErrAt W ∧ Below w.heap.size w W from
    ⟨Lib.cell_of_heap ((hb.block C hz3).trans HC3.out) 0, Lib.cell_of_heap ((hb.block C hz3).trans HC3.out) 1, Lib.cell_of_heap ((hb.block C hz3).trans HC3.out) 2, Lib.cell_of_heap ((hb.block C hz3).trans HC3.out) 3, Nat.lt_of_lt_of_le hz3 hb.size, HS3.out.keep hb, HE.out.keep (HB3.out.trans (hb.mono HB3.out.size)) HE.out.1, HB3.out.trans (hb.mono HB3.out.size)⟩)
  clear hC
  refine (scheck HS3.out (by omega) (by omega) (HK.out _ (Below.refl _ _)).2.2.2.2.2.2.1).mono ?_
  rintro e w4 ⟨rfl, hb4⟩
  rw [Pl.check_smp]
  obtain ⟨d0, d1, d2, d3, hl4, hs4, he4, _⟩ := HK.out _ hb4
  have HB4 := Lib.hid hb4
  have SP := Lib.hid (spack hs4 he4)
  clear hb4 hs4 he4
  go_wp2_with fail
  refine SP.out.mono ?_
  rintro e w5 ⟨rfl, hb5⟩
  have HB5 := Lib.hid (HB4.out.trans (hb5.mono HB4.out.size))
  clear d0 d1 d2 d3 hb5 hl4 SP
  obtain ⟨d0, d1, d2, d3, hl5, hs5, he5, _⟩ := HK.out _ HB5.out
  have SU := Lib.hid (sunpack hs5 he5)
  clear hs5 he5
  go_wp2_with fail
  refine SU.out.mono ?_
  rintro e w6 ⟨L', U', rfl, hc6, hb6⟩
  have HB6 := Lib.hid (HB5.out.trans (hb6.mono HB5.out.size))
  have HC6 := Lib.hid hc6
  obtain ⟨A1, k1, _, rfl, _⟩ := hc6.l.out
  obtain ⟨A2, k2, _, rfl, _⟩ := hc6.u
  clear d0 d1 d2 d3 hb6 hc6 hl5 SU
  obtain ⟨d0, d1, d2, d3, hl6, _, _, _⟩ := HK.out _ HB6.out
  go_wp2_with fail
  have HD7 := Lib.hid (heap_alloc_new w6 (.cells #[.string ⟨#[102, 111, 111, 58]⟩, .int .i64 0, .slice A1 (Pl.smp 2 21).lits.length k1, .slice A2 (Pl.smp 2 21).units.length k2] 25))
  have HB7 := Lib.hid (HB6.out.alloc HB6.out.size (.cells #[.string ⟨#[102, 111, 111, 58]⟩, .int .i64 0, .slice A1 (Pl.smp 2 21).lits.length k1, .slice A2 (Pl.smp 2 21).units.length k2] 25))
  have hz7 : w6.heap.size < (w6.alloc (.cells #[.string ⟨#[102, 111, 111, 58]⟩, .int .i64 0, .slice A1 (Pl.smp 2 21).lits.length k1, .slice A2 (Pl.smp 2 21).units.length k2] 25)).heap.size := by simp
  have HB67 := Lib.hid (show Below w6.heap.size w6 (w6.alloc (.cells #[.string ⟨#[102, 111, 111, 58]⟩, .int .i64 0, .slice A1 (Pl.smp 2 21).lits.length k1, .slice A2 (Pl.smp 2 21).units.length k2] 25)) from (Below.refl _ _).alloc (Nat.le_refl _) _)
  clear d0 d1 d2 d3 hl6
  generalize w6.alloc (.cells #[.string ⟨#[102, 111, 111, 58]⟩, .int .i64 0, .slice A1 (Pl.smp 2 21).lits.length k1, .slice A2 (Pl.smp 2 21).units.length k2] 25) = w7 at HD7 HB7 hz7 HB67 ⊢
  obtain ⟨Db, hDb⟩ : ∃ Db, w6.heap.size = Db := ⟨_, rfl⟩
  rw [hDb] at HD7 hz7 ⊢
  clear hDb
  obtain ⟨d0, d1, d2, d3, hl7, hs7, he7, _⟩ := HK.out _ HB7.out
  refine (sshow hs7 he7).mono ?_
  rintro e w8 ⟨rfl, hb8⟩
  have HB8 := Lib.hid hb8
  clear d0 d1 d2 d3 hl7 hs7 he7 hb8
  go_wp2_with fail
  refine (ssample _).mono ?_
  rintro e w9 ⟨I2, T2, U2, rfl, hs9, hb9, hi9, ht9, hu9⟩
  have HB9 := Lib.hid (HB8.out.trans (hb9.mono HB8.out.size))
  have hz78 := HB8.out.size
  have hz89 := hb9.size
  have HS9 := Lib.hid hs9
  clear hs9 hb9
  go_upto_region 7 with (fail)
  have HC10 := Lib.hid (heap_alloc_new w9 (.cells #[.string ⟨#[102, 111, 111, 58]⟩, .int .i64 0, .slice (some ⟨T2, 0, none⟩) 2 2, .slice (some ⟨U2, 0, none⟩) 1 1] 25))
  have HS10 := Lib.hid (HS9.out.keep ((Below.refl _ _).alloc (Nat.le_refl _) (.cells #[.string ⟨#[102, 111, 111, 58]⟩, .int .i64 0, .slice (some ⟨T2, 0, none⟩) 2 2, .slice (some ⟨U2, 0, none⟩) 1 1] 25)))
  have HB10 := Lib.hid (HB9.out.alloc HB9.out.size (.cells #[.string ⟨#[102, 111, 111, 58]⟩, .int .i64 0, .slice (some ⟨T2, 0, none⟩) 2 2, .slice (some ⟨U2, 0, none⟩) 1 1] 25))
  have hz10 : w9.heap.size < (w9.alloc (.cells #[.string ⟨#[102, 111, 111, 58]⟩, .int .i64 0, .slice (some ⟨T2, 0, none⟩) 2 2, .slice (some ⟨U2, 0, none⟩) 1 1] 25)).heap.size := by simp
  generalize w9.alloc (.cells #[.string ⟨#[102, 111, 111, 58]⟩, .int .i64 0, .slice (some ⟨T2, 0, none⟩) 2 2, .slice (some ⟨U2, 0, none⟩) 1 1] 25) = w10 at HC10 HS10 HB10 hz10 ⊢
  obtain ⟨Cb, hCb⟩ : ∃ Cb, w9.heap.size = Cb := ⟨_, rfl⟩
  rw [hCb] at HC10 hz10 ⊢
  have c3 : w10.cell? ⟨Cb, 3, none⟩ = some (.slice (some ⟨U2, 0, none⟩) 1 1) := Lib.cell_of_heap HC10.out 3
  have u3 : w10.cell? ⟨U2, 3, none⟩ = some (.int .i64 2) := Lib.cell_of_heap HS10.out.u 3
  have uf : w10.frozen? ⟨U2, 3, none⟩ = false := Lib.frozen_of_heap HS10.out.u 3
  have hul := heap_lt HS10.out.u
  have hCU : Cb ≠ U2 := by have := heap_lt HS9.out.u; omega
  have HS11 := Lib.hid HS10.out.low
  have HC11 := Lib.hid ((Below.heap_setCell w10 ⟨U2, 3, none⟩ (.int .i64 1) _ hCU).trans HC10.out)
  have hb3U : w7.heap.size ≤ U2 := by omega
  have HB11 := Lib.hid (HB10.out.setCell (p := ⟨U2, 3, none⟩) hb3U (.int .i64 1))
  go_upto_region 8 with (fail)
  clear c3 u3 uf hul
  generalize w10.setCell ⟨U2, 3, none⟩ (.int .i64 1) = w11 at HS11 HC11 HB11 ⊢
  have x0 : w11.cell? ⟨Cb, 0, none⟩ = some (.string ⟨#[102, 111, 111, 58]⟩) := Lib.cell_of_heap HC11.out 0
  have x1 : w11.cell? ⟨Cb, 1, none⟩ = some (.int .i64 0) := Lib.cell_of_heap HC11.out 1
  have x2 : w11.cell? ⟨Cb, 2, none⟩ = some (.slice (some ⟨T2, 0, none⟩) 2 2) := Lib.cell_of_heap HC11.out 2
  have x3 : w11.cell? ⟨Cb, 3, none⟩ = some (.slice (some ⟨U2, 0, none⟩) 1 1) := Lib.cell_of_heap HC11.out 3
  have xl := heap_lt HC11.out
  go_wp2_with fail
  refine (scheck HS11.out (by omega) (by omega) (HK.out _ (HB7.out.trans (HB11.out.mono HB7.out.size))).2.2.2.2.2.2.1).mono ?_
  rintro e w12 ⟨rfl, hb12⟩
  rw [Pl.check_low]
  have HB12 := Lib.hid (HB11.out.trans (hb12.mono HB11.out.size))
  have hz12 := HB12.out.size
  clear hb12 x0 x1 x2 x3 xl
  go_wp2_with fail
  refine (ssample _).mono ?_
  rintro e w13 ⟨I3, T3, U3, rfl, hs13, hb13, hi13, ht13, hu13⟩
  have HB13 := Lib.hid (HB12.out.trans (hb13.mono HB12.out.size))
  have hz13 := hb13.size
  have HS13 := Lib.hid hs13
  clear hs13 hb13
  go_upto_region 10 with (fail)
  have HC14 := Lib.hid (heap_alloc_new w13 (.cells #[.string ⟨#[102, 111, 111, 58]⟩, .int .i64 0, .slice (some ⟨T3, 0, none⟩) 2 2, .slice (some ⟨U3, 0, none⟩) 1 1] 25))
  have HS14 := Lib.hid (HS13.out.keep ((Below.refl _ _).alloc (Nat.le_refl _) (.cells #[.string ⟨#[102, 111, 111, 58]⟩, .int .i64 0, .slice (some ⟨T3, 0, none⟩) 2 2, .slice (some ⟨U3, 0, none⟩) 1 1] 25)))
  have HB14 := Lib.hid (HB13.out.alloc HB13.out.size (.cells #[.string ⟨#[102, 111, 111, 58]⟩, .int .i64 0, .slice (some ⟨T3, 0, none⟩) 2 2, .slice (some ⟨U3, 0, none⟩) 1 1] 25))
  have hz14 : w13.heap.size < (w13.alloc (.cells #[.string ⟨#[102, 111, 111, 58]⟩, .int .i64 0, .slice (some ⟨T3, 0, none⟩) 2 2, .slice (some ⟨U3, 0, none⟩) 1 1] 25)).heap.size := by simp
  generalize w13.alloc (.cells #[.string ⟨#[102, 111, 111, 58]⟩, .int .i64 0, .slice (some ⟨T3, 0, none⟩) 2 2, .slice (some ⟨U3, 0, none⟩) 1 1] 25) = w14 at HC14 HS14 HB14 hz14 ⊢
  obtain ⟨Cd, hCd⟩ : ∃ Cd, w13.heap.size = Cd := ⟨_, rfl⟩
  rw [hCd] at HC14 hz14 ⊢
  have c3 : w14.cell? ⟨Cd, 3, none⟩ = some (.slice (some ⟨U3, 0, none⟩) 1 1) := Lib.cell_of_heap HC14.out 3
  have u4 : w14.cell? ⟨U3, 4, none⟩ = some (.slice (some ⟨I3, 0, none⟩) 4 4) := Lib.cell_of_heap HS14.out.u 4
  have i9 : w14.cell? ⟨I3, 9, none⟩ = some (.int .u8 21) := Lib.cell_of_heap HS14.out.i 9
  have jf : w14.frozen? ⟨I3, 9, none⟩ = false := Lib.frozen_of_heap HS14.out.i 9
  have hil := heap_lt HS14.out.i
  have hul := heap_lt HS14.out.u
  have hCI : Cd ≠ I3 := by have := heap_lt HS13.out.i; omega
  have HS15 := Lib.hid HS14.out.last
  have HC15 := Lib.hid ((Below.heap_setCell w14 ⟨I3, 9, none⟩ (.int .u8 22) _ hCI).trans HC14.out)
  have hb3I : w7.heap.size ≤ I3 := by omega
  have HB15 := Lib.hid (HB14.out.setCell (p := ⟨I3, 9, none⟩) hb3I (.int .u8 22))
  go_upto_region 11 with (fail)
  clear c3 u4 i9 jf hil hul
  generalize w14.setCell ⟨I3, 9, none⟩ (.int .u8 22) = w15 at HS15 HC15 HB15 ⊢
  have x0 : w15.cell? ⟨Cd, 0, none⟩ = some (.string ⟨#[102, 111, 111, 58]⟩) := Lib.cell_of_heap HC15.out 0
  have x1 : w15.cell? ⟨Cd, 1, none⟩ = some (.int .i64 0) := Lib.cell_of_heap HC15.out 1
  have x2 : w15.cell? ⟨Cd, 2, none⟩ = some (.slice (some ⟨T3, 0, none⟩) 2 2) := Lib.cell_of_heap HC15.out 2
  have x3 : w15.cell? ⟨Cd, 3, none⟩ = some (.slice (some ⟨U3, 0, none⟩) 1 1) := Lib.cell_of_heap HC15.out 3
  have xl := heap_lt HC15.out
  go_wp2_with fail
  refine (scheck HS15.out (by omega) (by omega) (HK.out _ (HB7.out.trans (HB15.out.mono HB7.out.size))).2.2.2.2.2.2.1).mono ?_
  rintro e w16 ⟨rfl, hb16⟩
  rw [Pl.check_last]
  have HB16 := Lib.hid (HB15.out.trans (hb16.mono HB15.out.size))
  clear hb16 x0 x1 x2 x3 xl
  obtain ⟨d0, d1, d2, d3, hl16, hs16, he16, hbw16⟩ := HK.out _ (HB7.out.trans (HB16.out.mono HB7.out.size))
  have hd16 := (HB16.out.block Db hz7).trans HD7.out
  have y0 : w16.cell? ⟨Db, 0, none⟩ = some (.string ⟨#[102, 111, 111, 58]⟩) := Lib.cell_of_heap hd16 0
  have y1 : w16.cell? ⟨Db, 1, none⟩ = some (.int .i64 0) := Lib.cell_of_heap hd16 1
  have y2 : w16.cell? ⟨Db, 2, none⟩ = some (.slice A1 (Pl.smp 2 21).lits.length k1) := Lib.cell_of_heap hd16 2
  have y3 : w16.cell? ⟨Db, 3, none⟩ = some (.slice A2 (Pl.smp 2 21).units.length k2) := Lib.cell_of_heap hd16 3
  have hdl := heap_lt hd16
  have HCX := Lib.hid (hs16.code (by omega) (by omega))
  have HCY := Lib.hid (HC6.out.wide (HB67.out.trans (HB16.out.mono HB67.out.size)))
  have HBE := Lib.hid hbw16
  have SC := Lib.hid (sameCode_any w16 HCX.out HCY.out)
  have hsame : Pl.same (Pl.smp 2 21) (Pl.smp 2 21) = true := by unfold Pl.same; simp
  rw [hsame] at SC
  clear hs16 he16 hbw16 hd16
  go_wp2_with fail
  refine SC.out.mono ?_
  rintro e w17 ⟨rfl, hb17⟩
  have HBF := Lib.hid (HBE.out.trans (hb17.mono HBE.out.size))
  clear hb17 d0 d1 d2 d3 y0 y1 y2 y3
  go_wp2_with fail
  go_ret
  exact ⟨rfl, HBF.out⟩
end Go.Proofs.YtoklnpoacckbfaaGreatDoor