/- strings.Builder in a block of whatever type: copyCheck, WriteString, Len, String. (The proofs follow the library's own, Builder1, turned to a block of another type.) put, of both writers. (Printed by gen_wrt.py.) Builders through other calls; numbers of code's writer. -/
import Derived.Test.YtoklnpoacckbfaaGreatDoorKaaf
import Derived.Test.YtoklnpoacckbfaaGreatDoorKabl
import Derived.Lib.Builder
import Derived.Lib.AppendStr
import Derived.Lib.UnsafeStr
import Derived.Lib.Strings
import Derived.Lib.Slices
import Derived.Shelf.RegionOpenPlain
import Derived.Laws.Externs
import Derived.WalkKit
namespace Go.Proofs.YtoklnpoacckbfaaGreatDoor
open Go Go.RowKit
/-- a type that is a builder and nothing else -/
structure Holds (T : TypeId) : Prop where
  lies : liesAt Tryz.prog Tryz.prog.depth T (2 / Tryz.prog.cellsOf T) 0 75 1 = true
  ne : T ≠ 5
theorem holds_code : Holds 77 := ⟨by kernel_rfl, by decide⟩
theorem holds_print : Holds 130 := ⟨by kernel_rfl, by decide⟩
theorem size_builder : (Tryz.prog.info? 75).map (·.size) = some 2 := by kernel_rfl
theorem info_byte : (Tryz.prog.info? 5).map (fun i => (i.zero, i.size, i.bytes)) = some (some (.int .u8 0), 1, 1) := by kernel_rfl
/-- nothing that lay there turns but block b and rows of bytes -/
def Wr (b : Nat) (w w' : World) : Prop := Save (fun k => k = b ∨ ∃ cs fz, w.heap[k]? = some (.cells cs 5 fz)) w w'
theorem Wr.refl (b : Nat) (w : World) : Wr b w w := Save.refl _ w
theorem Wr.trans {b : Nat} {u v w : World} (h : Wr b u v) (k : Wr b v w) : Wr b u w := by
  refine ⟨k.os.trans h.os, k.tape.trans h.tape, k.output.trans h.output, Nat.le_trans h.size k.size, fun j hj hn => ?_⟩
  have e := h.block j hj hn
  refine (k.block j (Nat.lt_of_lt_of_le hj h.size) ?_).trans e
  rintro (rfl | ⟨cs, fz, hc⟩)
  · exact hn (.inl rfl)
  · exact hn (.inr ⟨cs, fz, e ▸ hc⟩)
theorem Wr.row {b : Nat} {w w' : World} (h : Wr b w w') {A : Nat} {cs : Array Value} {t : TypeId} {fz : Nat × Nat} (hA : w.heap[A]? = some (.cells cs t fz)) (ht : t ≠ 5) (hne : A ≠ b) : w'.heap[A]? = some (.cells cs t fz) := by
  have hl : A < w.heap.size := by
    rcases Nat.lt_or_ge A w.heap.size with h' | h'
    · exact h'
    · simp [Array.getElem?_eq_none h'] at hA
  rw [h.block A hl ?_]
  · exact hA
  · rintro (rfl | ⟨cs', fz', hc⟩)
    · exact hne rfl
    · rw [hA] at hc; cases hc; exact ht rfl
theorem Wr.set (b j : Nat) (v : Value) (w : World) : Wr b w (w.setCell ⟨b, j, none⟩ v) := ⟨rfl, rfl, rfl, by simp, fun k _ hk => Below.heap_setCell _ _ _ _ (fun e => hk (.inl e))⟩
theorem Wr.alloc (b : Nat) {u w : World} (h : Wr b u w) (o : Obj) : Wr b u (w.alloc o) := Save.alloc h o
set_option maxHeartbeats 1000000 in
set_option maxRecDepth 100000 in
theorem bcheck_used (b : Nat) (w : World) (h0 : w.cell? ⟨b, 0, none⟩ = some (.pointer (some ⟨b, 0, none⟩))) :
    Calls Tryz.prog 104 #[.pointer (some ⟨b, 0, none⟩)] w fun e w' => e = .returned (.tuple #[]) ∧ w' = w := by
  obtain ⟨j, hj, _⟩ := Option.map_eq_some_iff.1 size_builder
  go_enter Tryz.func104, Tryz.ntmps104
  go_wp2_with fail
  rw [Lib.run_neq_ptr_same w _ Tryz.underlying73 hj]
  go_wp2_with fail
  go_end0
  exact ⟨rfl, rfl⟩
set_option maxHeartbeats 1000000 in
set_option maxRecDepth 100000 in
theorem bcheck_fresh {T : TypeId} (hT : Holds T) (b : Nat) (w : World) (h0 : w.cell? ⟨b, 0, none⟩ = some (.pointer none)) (hsh : w.shape? b = some (T, 2)) (hfz : w.frozen? ⟨b, 0, none⟩ = false) :
    Calls Tryz.prog 104 #[.pointer (some ⟨b, 0, none⟩)] w fun e w' => e = .returned (.tuple #[]) ∧ w' = w.setCell ⟨b, 0, none⟩ (.pointer (some ⟨b, 0, none⟩)) := by
  obtain ⟨j, hj, hjs⟩ := Option.map_eq_some_iff.1 size_builder
  go_enter Tryz.func104, Tryz.ntmps104
  go_wp2_with fail
  rw [Lib.run_to_unsafe w ⟨b, 0, none⟩ Tryz.underlying73 Tryz.underlying187 hj (by rw [hjs]; decide) hsh (Nat.zero_lt_succ 1)]
  simp only [Result.andThen]
  rw [Oper.upon_value]
  go_wp2_with fail
  rw [run_callFunc_extern Tryz.func142 (by kernel_rfl) (by kernel_rfl) (by kernel_rfl) (e := Extern.AbiNoEscape.same) (by kernel_rfl)]
  rw [Lib.run_noEscape]
  simp only [Result.andThen]
  rw [Oper.upon_value]
  go_wp2_with fail
  rw [Lib.run_from_unsafe w ⟨b, 0, none⟩ Tryz.underlying187 Tryz.underlying73 hj hsh hT.lies]
  simp only [Result.andThen]
  rw [Oper.upon_value]
  go_wp2_with fail
  go_end0
  exact ⟨rfl, rfl⟩
theorem bcheck_any {T : TypeId} (hT : Holds T) (B b : Nat) (bs : List Value) (w : World) (h : Lib.IsBuilder T 5 B b bs w) :
    Calls Tryz.prog 104 #[.pointer (some ⟨b, 0, none⟩)] w fun e w' => e = .returned (.tuple #[]) ∧ (Lib.BuilderAt T 5 B b (.pointer (some ⟨b, 0, none⟩)) bs w' ∧ Below B w w' ∧ Wr b w w') := by
  rcases h with h | h
  · refine (bcheck_fresh hT b w h.cell0 h.shape h.frozen0).mono ?_
    rintro e w' ⟨rfl, rfl⟩
    exact ⟨rfl, h.used _, (Below.refl B w).setCell (p := ⟨b, 0, none⟩) h.1 _, Wr.set b 0 _ w⟩
  · refine (bcheck_used b w h.cell0).mono ?_
    rintro e w' ⟨rfl, rfl⟩
    exact ⟨rfl, h, Below.refl B _, Wr.refl _ _⟩
set_option maxHeartbeats 2000000 in
set_option maxRecDepth 100000 in
theorem bwrite_any {T : TypeId} (hT : Holds T) (B b : Nat) (bs : List Value) (s : ByteArray) (w : World) (h : Lib.IsBuilder T 5 B b bs w) (hlen : bs.length + s.size ≤ 140737488355328) (hBw : B ≤ w.heap.size) :
    Calls Tryz.prog 71 #[.pointer (some ⟨b, 0, none⟩), .string s] w fun e w' => e = .returned (.tuple #[.int .i64 s.size, .nilIface]) ∧ (Lib.IsBuilder T 5 B b (bs ++ Lib.strCells s) w' ∧ Below B w w' ∧ Wr b w w') := by
  obtain ⟨i0, hi, hz0, hz1, hz2⟩ := info_parts info_byte
  go_enter Tryz.func71, Tryz.ntmps71
  go_wp2_with (go_at_call 104; refine (bcheck_any hT B b bs _ h).mono ?_)
  rintro e w1 ⟨rfl, h1, hb1, hr1⟩
  have HR1 := Lib.hid hr1
  clear hr1
  obtain ⟨hB, v, hbk, hown, hne⟩ := h1
  have c0 : w1.cell? ⟨b, 0, none⟩ = some (.pointer (some ⟨b, 0, none⟩)) := by rw [Lib.cell_of_heap hbk]; rfl
  have c1 : w1.cell? ⟨b, 1, none⟩ = some v := by rw [Lib.cell_of_heap hbk]; rfl
  go_wp2_with (at_builtin; refine Lib.wpList_append_own_string _ rfl _ _ 66 9 rfl B 5 i0 Tryz.underlying66 Tryz.underlying9 hi hz0 hz1 hz2 _ _ _ rfl hown s rfl ?c3 ?c4 ?c5 ?_)
  case c3 => unfold maxLen; omega
  case c4 => omega
  case c5 => have := hb1.size; omega
  intro v' w2 hown' hgrow _
  have hlt : b < w1.heap.size := by
    rcases Nat.lt_or_ge b w1.heap.size with h' | h'
    · exact h'
    · simp [Array.getElem?_eq_none h'] at hbk
  have hb2 : w2.heap[b]? = some (.cells #[.pointer (some ⟨b, 0, none⟩), v] T (0, 0)) := by
    rw [hgrow.block b hlt (fun e => hne e.symm)]
    exact hbk
  have d0 : w2.cell? ⟨b, 0, none⟩ = some (.pointer (some ⟨b, 0, none⟩)) := by rw [Lib.cell_of_heap hb2]; rfl
  have d1 : w2.cell? ⟨b, 1, none⟩ = some v := by rw [Lib.cell_of_heap hb2]; rfl
  have f1 : w2.frozen? ⟨b, 1, none⟩ = false := Lib.frozen_of_heap hb2 1
  obtain ⟨ao, n', cap, rfl⟩ : ∃ ao n' cap, v' = .slice ao n' cap := by
    rcases hown'.2 with ⟨hv, _⟩ | ⟨g, cap, cur, hv, _⟩
    · exact ⟨_, _, _, hv⟩
    · exact ⟨_, _, _, hv⟩
  go_wp2_with fail
  go_ret2
  refine ⟨rfl, .inr ?_, ?_, ?_⟩
  · exact Lib.BuilderAt.put (T := T) (e := 5) hB hb2 (bs' := bs ++ Lib.strCells s) (by simpa [Lib.strCells_length] using hown') hT.ne
  · exact (hb1.grown hgrow (by have := hb1.size; omega) (fun k hk => (hown.lt k hk).1)).setCell (p := ⟨b, 1, none⟩) hB _
  · refine (HR1.out.trans (Save.mono (S := fun j => v.ownBlock = some j) ?_ ?_)).trans (Wr.set b 1 _ w2)
    · exact ⟨hgrow.os, hgrow.tape, hgrow.output, hgrow.size, fun k hk hn => hgrow.block k hk (fun e => hn e.symm)⟩
    · intro j _ hj
      refine .inr ?_
      rcases hown.2 with ⟨hv, _⟩ | ⟨g, cap, cur, hv, _, hg, _⟩
      · rw [hv] at hj; simp [Value.ownBlock] at hj
      · rw [hv] at hj
        simp [Value.ownBlock] at hj
        exact ⟨cur, (0, 0), hj ▸ hg⟩
set_option maxHeartbeats 1000000 in
set_option maxRecDepth 100000 in
theorem blen_any {T : TypeId} (B b : Nat) (bs : List Value) (w : World) (h : Lib.IsBuilder T 5 B b bs w) :
    Calls Tryz.prog 115 #[.pointer (some ⟨b, 0, none⟩)] w fun e w' => e = .returned (.int .i64 bs.length) ∧ w' = w := by
  obtain ⟨p, hB, v, hbk, hown, hne⟩ : ∃ p, Lib.BuilderAt T 5 B b p bs w := by
    rcases h with h | h
    · exact ⟨_, h⟩
    · exact ⟨_, h⟩
  obtain ⟨ao, cap, rfl⟩ : ∃ ao cap, v = .slice ao bs.length cap := by
    rcases hown.2 with ⟨hv, h0⟩ | ⟨g, cap, cur, hv, _⟩
    · exact ⟨none, 0, by rw [hv, h0]⟩
    · exact ⟨_, _, hv⟩
  have c1 : w.cell? ⟨b, 1, none⟩ = some (.slice ao bs.length cap) := by rw [Lib.cell_of_heap hbk]; rfl
  go_enter Tryz.func115, Tryz.ntmps115
  go_wp2_with fail
  go_ret
  exact ⟨rfl, rfl⟩
set_option maxHeartbeats 1000000 in
set_option maxRecDepth 100000 in
theorem bstring_any {T : TypeId} (B b : Nat) (l : List UInt8) (w : World) (h : Lib.IsBuilder T 5 B b (Lib.byteCells l) w) (h0 : l ≠ []) :
    Calls Tryz.prog 40 #[.pointer (some ⟨b, 0, none⟩)] w fun e w' => e = .returned (.string ⟨l.toArray⟩) ∧ Below B w w' := by
  obtain ⟨p, hB, v, hbk, hown, hne⟩ : ∃ p, Lib.BuilderAt T 5 B b p (Lib.byteCells l) w := by
    rcases h with h | h
    · exact ⟨_, h⟩
    · exact ⟨_, h⟩
  have hl0 : l.length ≠ 0 := by simpa using h0
  rw [Lib.byteCells_length] at hown
  obtain ⟨g, cap, cur, rfl, hbg, hg, hnc, hcm, hcs, htake⟩ : ∃ g cap cur, v = .slice (some ⟨g, 0, none⟩) l.length cap ∧ B ≤ g ∧ w.heap[g]? = some (.cells cur 5 (0, 0)) ∧ l.length ≤ cap ∧ cap ≤ maxLen ∧ cur.size = cap * 1 ∧ cur.toList.take (l.length * 1) = Lib.byteCells l := by
    rcases hown.2 with ⟨_, hz⟩ | ⟨g, cap, cur, hv, r⟩
    · exact absurd hz hl0
    · exact ⟨g, cap, cur, hv, r⟩
  have c1 : w.drew.cell? ⟨b, 1, none⟩ = some (.slice (some ⟨g, 0, none⟩) l.length cap) := by
    have : w.drew.heap[b]? = some (.cells #[p, .slice (some ⟨g, 0, none⟩) l.length cap] T (0, 0)) := hbk
    rw [Lib.cell_of_heap this]; rfl
  have hSD : (Builtin.unsafeSliceData_ #[66] 133 #[.slice (some ⟨g, 0, none⟩) l.length cap]).run Tryz.prog w.drew = .ok (.pointer (some ⟨g, 0, none⟩)) w.drew :=
    Lib.run_unsafeSliceData_row _ _ _ _ _ _ (by omega)
  have hUS : (Builtin.unsafeString_ #[133, 3] 9 #[.pointer (some ⟨g, 0, none⟩), .int .i64 l.length]).run Tryz.prog w.drew = .ok (.string ⟨l.toArray⟩) (w.drew.freeze ⟨g, 0, none⟩ l.length) := by
    refine Lib.run_unsafeString_row w.drew 133 3 9 5 Tryz.underlying133 (by kernel_rfl) g cur.size (by have hg' : w.drew.heap[g]? = some (.cells cur 5 (0, 0)) := hg; simp [World.shape?, hg']) l h0 (by omega) (by unfold maxLen at hcm; omega) ?_
    intro j x hx
    have := hown.cells (g := g) rfl j (.int .u8 x.toNat) (by simp [Lib.byteCells, hx])
    exact this
  have mixed : Tryz.prog.follows Departure.mixedOrders = true := by kernel_rfl
  go_enter Tryz.func40, Tryz.ntmps40
  go_wp2_with fail
  go_region_o
  all_goals (go_wp2_with fail; go_ret; exact ⟨rfl, Lib.below_freeze (Below.drew (Below.refl B w)) (p := ⟨g, 0, none⟩) hbg _⟩)
end Go.Proofs.YtoklnpoacckbfaaGreatDoor
namespace Go.Proofs.YtoklnpoacckbfaaGreatDoor
open Go Go.RowKit
/-- texts, one behind the other -/
def texts (ss : List ByteArray) : List UInt8 := ss.flatMap fun s => s.data.toList
theorem texts_step {ss : List ByteArray} {k : Nat} {s : ByteArray} (h : ss[k]? = some s) : texts (ss.take (k + 1)) = texts (ss.take k) ++ s.data.toList := by
  unfold texts; rw [List.take_add_one, h]; simp
theorem texts_le {ss : List ByteArray} {k : Nat} {s : ByteArray} (h : ss[k]? = some s) : (texts (ss.take k)).length + s.size ≤ (texts ss).length := by
  have h1 : texts ss = texts (ss.take (k + 1)) ++ texts (ss.drop (k + 1)) := by unfold texts; rw [← List.flatMap_append, List.take_append_drop]
  have h2 : s.data.toList.length = s.size := rfl
  rw [h1, texts_step h]; simp only [List.length_append]; omega
theorem bytes_write (l : List UInt8) (s : ByteArray) : Lib.byteCells l ++ Lib.strCells s = Lib.byteCells (l ++ s.data.toList) := by
  unfold Lib.byteCells Lib.strCells; simp
def strRow (ss : List ByteArray) : Array Value := (ss.map Value.string).toArray
theorem strRow_at {w : World} {A : Nat} {ss : List ByteArray} {t : TypeId} {fz : Nat × Nat} (h : w.heap[A]? = some (.cells (strRow ss) t fz)) {k : Nat} {s : ByteArray} (hs : ss[k]? = some s) : w.cell? ⟨A, k, none⟩ = some (.string s) := by
  rw [World.cell?, h]; simp [strRow, hs]
set_option maxHeartbeats 2000000 in
set_option maxRecDepth 100000 in
theorem cput_any {B b A : Nat} {l : List UInt8} {ss : List ByteArray} {fz : Nat × Nat} {w : World} (h : Lib.IsBuilder 77 5 B b (Lib.byteCells l) w) (hA : w.heap[A]? = some (.cells (strRow ss) 9 fz)) (hne : A ≠ b)
    (hlen : l.length + (texts ss).length ≤ 140737488355328) (hn : ss.length ≤ 140737488355328) (hBw : B ≤ w.heap.size) (n : Nat) (hnn : n = ss.length) :
    Calls Tryz.prog 36 #[.pointer (some ⟨b, 0, none⟩), .slice (some ⟨A, 0, none⟩) n n] w fun e w' => e = .returned (.tuple #[]) ∧ Lib.IsBuilder 77 5 B b (Lib.byteCells (l ++ texts ss)) w' ∧ Below B w w' ∧ Wr b w w' := by
  subst hnn
  have H0 := Lib.hid h
  have HA := Lib.hid hA
  have HNE := Lib.hid hne
  have hal : A < w.heap.size := by
    rcases Nat.lt_or_ge A w.heap.size with h' | h'
    · exact h'
    · simp [Array.getElem?_eq_none h'] at hA
  clear h hA hne
  go_enter Tryz.func36, Tryz.ntmps36
  go_wp2_with fail
  go_loopw [8] (fun iv wr => ∃ k : Nat, iv = .int .i64 k ∧ k ≤ ss.length ∧ Lib.IsBuilder 77 5 B b (Lib.byteCells (l ++ texts (ss.take k))) wr ∧ Below B w wr ∧ Wr b w wr) (fun iv _ => ss.length - (RowKit.intOf iv).toNat)
  case atStart => exact ⟨0, rfl, Nat.zero_le _, by simpa [texts] using H0.out, Below.refl _ _, Wr.refl _ _⟩
  case round =>
    obtain ⟨k, rfl, hk, hB, hb, hr⟩ := hrel
    have HB := Lib.hid hB
    have HW := Lib.hid hb
    have HR := Lib.hid hr
    have hz := hb.size
    clear hB hb hr
    by_cases hlt : k < ss.length
    · obtain ⟨s, hs⟩ : ∃ s, ss[k]? = some s := ⟨_, List.getElem?_eq_getElem hlt⟩
      have hltI : (k : Int) < (ss.length : Int) := by omega
      have c0 := strRow_at (HR.out.row HA.out (by decide) HNE.out) hs
      have hal2 : A < wr.heap.size := by omega
      have hle := texts_le hs
      have HST := Lib.hid (texts_step hs)
      obtain ⟨p, hp⟩ : ∃ p, wr.cell? ⟨b, 0, none⟩ = some p := by
        rcases HB.out with h' | h' <;> exact ⟨_, h'.cell0⟩
      have hbl : b < wr.heap.size := by
        rcases HB.out with h' | h' <;> exact h'.lt
      clear hs
      go_wp2_with (go_at_call 71; refine (bwrite_any holds_code B b _ s _ HB.out (by rw [Lib.byteCells_length, List.length_append]; omega) (by omega)).mono ?_; rintro e w2 ⟨rfl, hB2, hb2, hr2⟩; rw [bytes_write] at hB2; have HB2 := Lib.hid hB2; have HW2 := Lib.hid hb2; have HR2 := Lib.hid hr2; clear hB2 hb2 hr2)
      go_roundw
      case rel => exact ⟨k + 1, by go_num, by omega, by rw [HST.out, ← List.append_assoc]; exact HB2.out, HW.out.trans HW2.out, HR.out.trans HR2.out⟩
      case measure => simp [RowKit.intOf]; omega
    · have hltI : (ss.length : Int) ≤ (k : Int) := by omega
      have hke : k = ss.length := by omega
      have ht : ss.take k = ss := by rw [hke, List.take_length]
      rw [ht] at HB
      clear hke ht
      go_wp2_with fail
      go_end0
      exact ⟨rfl, HB.out, HW.out, HR.out⟩
set_option maxHeartbeats 2000000 in
set_option maxRecDepth 100000 in
theorem pput_any {B b A : Nat} {l : List UInt8} {ss : List ByteArray} {fz : Nat × Nat} {w : World} (h : Lib.IsBuilder 130 5 B b (Lib.byteCells l) w) (hA : w.heap[A]? = some (.cells (strRow ss) 9 fz)) (hne : A ≠ b)
    (hlen : l.length + (texts ss).length ≤ 140737488355328) (hn : ss.length ≤ 140737488355328) (hBw : B ≤ w.heap.size) (n : Nat) (hnn : n = ss.length) :
    Calls Tryz.prog 106 #[.pointer (some ⟨b, 0, none⟩), .slice (some ⟨A, 0, none⟩) n n] w fun e w' => e = .returned (.tuple #[]) ∧ Lib.IsBuilder 130 5 B b (Lib.byteCells (l ++ texts ss)) w' ∧ Below B w w' ∧ Wr b w w' := by
  subst hnn
  have H0 := Lib.hid h
  have HA := Lib.hid hA
  have HNE := Lib.hid hne
  have hal : A < w.heap.size := by
    rcases Nat.lt_or_ge A w.heap.size with h' | h'
    · exact h'
    · simp [Array.getElem?_eq_none h'] at hA
  clear h hA hne
  go_enter Tryz.func106, Tryz.ntmps106
  go_wp2_with fail
  go_loopw [8] (fun iv wr => ∃ k : Nat, iv = .int .i64 k ∧ k ≤ ss.length ∧ Lib.IsBuilder 130 5 B b (Lib.byteCells (l ++ texts (ss.take k))) wr ∧ Below B w wr ∧ Wr b w wr) (fun iv _ => ss.length - (RowKit.intOf iv).toNat)
  case atStart => exact ⟨0, rfl, Nat.zero_le _, by simpa [texts] using H0.out, Below.refl _ _, Wr.refl _ _⟩
  case round =>
    obtain ⟨k, rfl, hk, hB, hb, hr⟩ := hrel
    have HB := Lib.hid hB
    have HW := Lib.hid hb
    have HR := Lib.hid hr
    have hz := hb.size
    clear hB hb hr
    by_cases hlt : k < ss.length
    · obtain ⟨s, hs⟩ : ∃ s, ss[k]? = some s := ⟨_, List.getElem?_eq_getElem hlt⟩
      have hltI : (k : Int) < (ss.length : Int) := by omega
      have c0 := strRow_at (HR.out.row HA.out (by decide) HNE.out) hs
      have hal2 : A < wr.heap.size := by omega
      have hle := texts_le hs
      have HST := Lib.hid (texts_step hs)
      obtain ⟨p, hp⟩ : ∃ p, wr.cell? ⟨b, 0, none⟩ = some p := by
        rcases HB.out with h' | h' <;> exact ⟨_, h'.cell0⟩
      have hbl : b < wr.heap.size := by
        rcases HB.out with h' | h' <;> exact h'.lt
      clear hs
      go_wp2_with (go_at_call 71; refine (bwrite_any holds_print B b _ s _ HB.out (by rw [Lib.byteCells_length, List.length_append]; omega) (by omega)).mono ?_; rintro e w2 ⟨rfl, hB2, hb2, hr2⟩; rw [bytes_write] at hB2; have HB2 := Lib.hid hB2; have HW2 := Lib.hid hb2; have HR2 := Lib.hid hr2; clear hB2 hb2 hr2)
      go_roundw
      case rel => exact ⟨k + 1, by go_num, by omega, by rw [HST.out, ← List.append_assoc]; exact HB2.out, HW.out.trans HW2.out, HR.out.trans HR2.out⟩
      case measure => simp [RowKit.intOf]; omega
    · have hltI : (ss.length : Int) ≤ (k : Int) := by omega
      have hke : k = ss.length := by omega
      have ht : ss.take k = ss := by rw [hke, List.take_length]
      rw [ht] at HB
      clear hke ht
      go_wp2_with fail
      go_end0
      exact ⟨rfl, HB.out, HW.out, HR.out⟩
end Go.Proofs.YtoklnpoacckbfaaGreatDoor
namespace Go.Proofs.YtoklnpoacckbfaaGreatDoor
open Go Go.RowKit
theorem heap_lt {w : World} {b : Nat} {o : Obj} (h : w.heap[b]? = some o) : b < w.heap.size := by
  rcases Nat.lt_or_ge b w.heap.size with h' | h'
  · exact h'
  · simp [Array.getElem?_eq_none h'] at h
theorem builder_keep {T e : TypeId} {B b : Nat} {p : Value} {bs : List Value} {w w' : World} (h : Lib.BuilderAt T e B b p bs w) (k : Below w.heap.size w w') : Lib.BuilderAt T e B b p bs w' := by
  obtain ⟨hB, v, hb, ho, hne⟩ := h
  refine ⟨hB, v, (k.block b (heap_lt hb)).trans hb, ⟨ho.1, ?_⟩, hne⟩
  rcases ho.2 with h0 | ⟨g, cap, cur, hv, hg, hh, r⟩
  · exact .inl h0
  · exact .inr ⟨g, cap, cur, hv, hg, (k.block g (heap_lt hh)).trans hh, r⟩
theorem isBuilder_keep {T e : TypeId} {B b : Nat} {bs : List Value} {w w' : World} (h : Lib.IsBuilder T e B b bs w) (k : Below w.heap.size w w') : Lib.IsBuilder T e B b bs w' :=
  h.elim (fun h => .inl (builder_keep h k)) (fun h => .inr (builder_keep h k))
theorem isBuilder_alloc {T e : TypeId} {B b : Nat} {bs : List Value} {w : World} (h : Lib.IsBuilder T e B b bs w) (o : Obj) : Lib.IsBuilder T e B b bs (w.alloc o) := isBuilder_keep h ((Below.refl _ _).alloc (Nat.le_refl _) o)
theorem isBuilder_drew {T e : TypeId} {B b : Nat} {bs : List Value} {w : World} (h : Lib.IsBuilder T e B b bs w) : Lib.IsBuilder T e B b bs w.drew := h
theorem isBuilder_lt {T e : TypeId} {B b : Nat} {bs : List Value} {w : World} (h : Lib.IsBuilder T e B b bs w) : b < w.heap.size := h.elim (fun h => h.lt) (fun h => h.lt)
theorem isBuilder_le {T e : TypeId} {B b : Nat} {bs : List Value} {w : World} (h : Lib.IsBuilder T e B b bs w) : B ≤ b := h.elim (fun h => h.1) (fun h => h.1)
theorem Wr.of_below {b : Nat} {w w' : World} (h : Below w.heap.size w w') : Wr b w w' := Save.of_below h _ (fun _ hj _ => hj)
/-- texts put, out of a row that has just been made -/
theorem cput_new {B b : Nat} {l : List UInt8} {w : World} (h : Lib.IsBuilder 77 5 B b (Lib.byteCells l) w) (ss : List ByteArray) (cs : Array Value) (hcs : cs = strRow ss) (hlen : l.length + (texts ss).length ≤ 140737488355328) (hn : ss.length ≤ 140737488355328) (hBw : B ≤ w.heap.size) (n : Nat) (hnn : n = ss.length) :
    Calls Tryz.prog 36 #[.pointer (some ⟨b, 0, none⟩), .slice (some ⟨w.heap.size, 0, none⟩) n n] (w.alloc (.cells cs 9)) fun e w' => e = .returned (.tuple #[]) ∧ Lib.IsBuilder 77 5 B b (Lib.byteCells (l ++ texts ss)) w' ∧ Below B w w' ∧ Wr b w w' := by
  subst hcs
  have hb := isBuilder_lt h
  refine (cput_any (isBuilder_alloc h _) (heap_alloc_new w _) (by omega) hlen hn (by simp; omega) n hnn).mono ?_
  rintro e w' ⟨h1, h2, h3, h4⟩
  exact ⟨h1, h2, ((Below.refl B w).alloc hBw _).trans h3, ((Wr.refl b w).alloc b _).trans h4⟩
theorem pput_new {B b : Nat} {l : List UInt8} {w : World} (h : Lib.IsBuilder 130 5 B b (Lib.byteCells l) w) (ss : List ByteArray) (cs : Array Value) (hcs : cs = strRow ss) (hlen : l.length + (texts ss).length ≤ 140737488355328) (hn : ss.length ≤ 140737488355328) (hBw : B ≤ w.heap.size) (n : Nat) (hnn : n = ss.length) :
    Calls Tryz.prog 106 #[.pointer (some ⟨b, 0, none⟩), .slice (some ⟨w.heap.size, 0, none⟩) n n] (w.alloc (.cells cs 9)) fun e w' => e = .returned (.tuple #[]) ∧ Lib.IsBuilder 130 5 B b (Lib.byteCells (l ++ texts ss)) w' ∧ Below B w w' ∧ Wr b w w' := by
  subst hcs
  have hb := isBuilder_lt h
  refine (pput_any (isBuilder_alloc h _) (heap_alloc_new w _) (by omega) hlen hn (by simp; omega) n hnn).mono ?_
  rintro e w' ⟨h1, h2, h3, h4⟩
  exact ⟨h1, h2, ((Below.refl B w).alloc hBw _).trans h3, ((Wr.refl b w).alloc b _).trans h4⟩
/-- numbers, a blank ahead of each -/
def blanks (ns : List Nat) : List UInt8 := ns.flatMap fun n => 32 :: Lib.decDigits n
theorem blanks_step {ns : List Nat} {k n : Nat} (h : ns[k]? = some n) : blanks (ns.take (k + 1)) = blanks (ns.take k) ++ (32 :: Lib.decDigits n) := by
  unfold blanks; rw [List.take_add_one, h]; simp
def numRow (ns : List Nat) : Array Value := (nums .i64 ns).toArray
theorem numRow_at {w : World} {A : Nat} {ns : List Nat} {t : TypeId} {fz : Nat × Nat} (h : w.heap[A]? = some (.cells (numRow ns) t fz)) {k n : Nat} (hs : ns[k]? = some n) : w.cell? ⟨A, k, none⟩ = some (.int .i64 n) := by
  rw [World.cell?, h]; simp [numRow, nums, hs]
theorem dec_one {n : Nat} (h : n < 10) : Lib.decDigits n = [UInt8.ofNat (48 + n)] := by rw [Lib.decDigits, dif_pos h]
theorem dec_len {n : Nat} (h : n < 100) : (Lib.decDigits n).length ≤ 2 := by
  by_cases h0 : n < 10
  · rw [dec_one h0]; simp
  · rw [Lib.decDigits, dif_neg h0, dec_one (by omega)]; simp
set_option maxHeartbeats 2000000 in
set_option maxRecDepth 100000 in
theorem numbers_any {B b A : Nat} {l : List UInt8} {ns : List Nat} {fz : Nat × Nat} {w : World} (h : Lib.IsBuilder 77 5 B b (Lib.byteCells l) w) (hA : w.heap[A]? = some (.cells (numRow ns) 3 fz)) (hne : A ≠ b)
    (hsm : ∀ n ∈ ns, n < 100) (hlen : l.length + 3 * ns.length ≤ 1099511627776) (hBw : B ≤ w.heap.size) (n : Nat) (hnn : n = ns.length) :
    Calls Tryz.prog 39 #[.pointer (some ⟨b, 0, none⟩), .slice (some ⟨A, 0, none⟩) n n] w fun e w' => e = .returned (.tuple #[]) ∧ Lib.IsBuilder 77 5 B b (Lib.byteCells (l ++ blanks ns)) w' ∧ Below B w w' ∧ Wr b w w' := by
  subst hnn
  have H0 := Lib.hid h
  have HA := Lib.hid hA
  have HNE := Lib.hid hne
  have HSM := Lib.hid hsm
  have hal := heap_lt hA
  clear h hA hne hsm
  go_enter Tryz.func39, Tryz.ntmps39
  go_wp2_with fail
  go_loopw [8] (fun iv wr => ∃ k : Nat, iv = .int .i64 k ∧ k ≤ ns.length ∧ (blanks (ns.take k)).length ≤ 3 * k ∧ Lib.IsBuilder 77 5 B b (Lib.byteCells (l ++ blanks (ns.take k))) wr ∧ Below B w wr ∧ Wr b w wr) (fun iv _ => ns.length - (RowKit.intOf iv).toNat)
  case atStart => exact ⟨0, rfl, Nat.zero_le _, by simp [blanks], by simpa [blanks] using H0.out, Below.refl _ _, Wr.refl _ _⟩
  case round =>
    obtain ⟨k, rfl, hk, hbk, hB, hb, hr⟩ := hrel
    have HB := Lib.hid hB
    have HW := Lib.hid hb
    have HR := Lib.hid hr
    have hz := hb.size
    clear hB hb hr
    by_cases hlt : k < ns.length
    · obtain ⟨n, hn⟩ : ∃ n, ns[k]? = some n := ⟨_, List.getElem?_eq_getElem hlt⟩
      have hltI : (k : Int) < (ns.length : Int) := by omega
      have c0 := numRow_at (HR.out.row HA.out (by decide) HNE.out) hn
      have hal2 : A < wr.heap.size := by omega
      have hn100 := HSM.out n (List.mem_of_getElem? hn)
      have HST := Lib.hid (blanks_step hn)
      have hd2 := dec_len hn100
      have hds : (⟨(Lib.decDigits n).toArray⟩ : ByteArray).size = (Lib.decDigits n).length := rfl
      clear hn
      go_wp2_with (first
        | (go_at_call 37; refine (Tryz.strconv_Itoa_small n hn100 _).mono ?_; rintro e w2 ⟨rfl, rfl⟩)
        | (go_at_call 36; refine (cput_new HB.out [⟨#[32]⟩, ⟨(Lib.decDigits n).toArray⟩] _ rfl (by simp [texts]; omega) (by simp) (by omega) 2 rfl).mono ?_; rintro e w3 ⟨rfl, hB3, hb3, hr3⟩; have HB3 := Lib.hid hB3; have HW3 := Lib.hid hb3; have HR3 := Lib.hid hr3; clear hB3 hb3 hr3))
      go_roundw
      case rel => exact ⟨k + 1, by go_num, by omega, by rw [HST.out]; simp; omega, by rw [HST.out, ← List.append_assoc]; simpa [texts] using HB3.out, HW.out.trans HW3.out, HR.out.trans HR3.out⟩
      case measure => simp [RowKit.intOf]; omega
    · have hltI : (ns.length : Int) ≤ (k : Int) := by omega
      have hke : k = ns.length := by omega
      have ht : ns.take k = ns := by rw [hke, List.take_length]
      rw [ht] at HB
      clear hke ht
      go_wp2_with fail
      go_end0
      exact ⟨rfl, HB.out, HW.out, HR.out⟩
end Go.Proofs.YtoklnpoacckbfaaGreatDoor
