/- code.Unpack's deferred closure. code.own: literals in memory of their own. Plain: what Unpack answers, and Pack to it. -/
import Derived.Test.YtoklnpoacckbfaaGreatDoorKabn
import Derived.Test.YtoklnpoacckbfaaGreatDoorKabb
import Derived.Test.YtoklnpoacckbfaaGreatDoorKabl
import Derived.Test.YtoklnpoacckbfaaGreatDoorKaai
import Derived.Test.YtoklnpoacckbfaaGreatDoorKaau
namespace Go.Proofs.YtoklnpoacckbfaaGreatDoor
open Go Go.RowKit Go.Lib
/-- a code's four cells, that may be written -/
structure CodBox (w : World) (R : Nat) (s p l u : Value) : Prop where
  c0 : w.cell? ⟨R, 0, none⟩ = some s
  c1 : w.cell? ⟨R, 1, none⟩ = some p
  c2 : w.cell? ⟨R, 2, none⟩ = some l
  c3 : w.cell? ⟨R, 3, none⟩ = some u
  f0 : w.frozen? ⟨R, 0, none⟩ = false
  f1 : w.frozen? ⟨R, 1, none⟩ = false
  f2 : w.frozen? ⟨R, 2, none⟩ = false
  f3 : w.frozen? ⟨R, 3, none⟩ = false
  lt : R < w.heap.size
theorem CodBox.save {S : Nat → Prop} {w w' : World} {R : Nat} {s p l u : Value} (h : CodBox w R s p l u) (k : Save S w w') (hS : ¬ S R) : CodBox w' R s p l u :=
  ⟨(k.cell 0 h.lt hS).trans h.c0, (k.cell 1 h.lt hS).trans h.c1, (k.cell 2 h.lt hS).trans h.c2, (k.cell 3 h.lt hS).trans h.c3, (k.frozen 0 h.lt hS).trans h.f0, (k.frozen 1 h.lt hS).trans h.f1, (k.frozen 2 h.lt hS).trans h.f2, (k.frozen 3 h.lt hS).trans h.f3, Nat.lt_of_lt_of_le h.lt k.size⟩
theorem CodBox.put {w : World} {R : Nat} {s p l u : Value} (h : CodBox w R s p l u) (s' p' l' u' : Value) :
    CodBox ((((w.setCell ⟨R, 0, none⟩ s').setCell ⟨R, 1, none⟩ p').setCell ⟨R, 2, none⟩ l').setCell ⟨R, 3, none⟩ u') R s' p' l' u' := by
  obtain ⟨r0, r1, r2, r3, g0, g1, g2, g3, hl⟩ := h
  refine ⟨?_, ?_, ?_, ?_, by simp only [World.frozen?_setCell]; exact g0, by simp only [World.frozen?_setCell]; exact g1, by simp only [World.frozen?_setCell]; exact g2, by simp only [World.frozen?_setCell]; exact g3, by simpa using hl⟩
  · rw [World.cell?_setCell_other _ _ _ _ (by simp), World.cell?_setCell_other _ _ _ _ (by simp), World.cell?_setCell_other _ _ _ _ (by simp), World.cell?_setCell_same' _ _ _ (by rw [r0]; rfl)]
  · rw [World.cell?_setCell_other _ _ _ _ (by simp), World.cell?_setCell_other _ _ _ _ (by simp), World.cell?_setCell_same' _ _ _ (by rw [World.cell?_setCell_other _ _ _ _ (by simp), r1]; rfl)]
  · rw [World.cell?_setCell_other _ _ _ _ (by simp), World.cell?_setCell_same' _ _ _ (by rw [World.cell?_setCell_other _ _ _ _ (by simp), World.cell?_setCell_other _ _ _ _ (by simp), r2]; rfl)]
  · rw [World.cell?_setCell_same' _ _ _ (by rw [World.cell?_setCell_other _ _ _ _ (by simp), World.cell?_setCell_other _ _ _ _ (by simp), World.cell?_setCell_other _ _ _ _ (by simp), r3]; rfl)]
theorem CodBox.put_save (w : World) (R : Nat) (s' p' l' u' : Value) : Save (fun k => k = R) w ((((w.setCell ⟨R, 0, none⟩ s').setCell ⟨R, 1, none⟩ p').setCell ⟨R, 2, none⟩ l').setCell ⟨R, 3, none⟩ u') :=
  ((((Save.refl (fun k => k = R) w).set ⟨R, 0, none⟩ s' (fun _ => rfl)).set ⟨R, 1, none⟩ p' (fun _ => rfl)).set ⟨R, 2, none⟩ l' (fun _ => rfl)).set ⟨R, 3, none⟩ u' (fun _ => rfl)
theorem assert_short (v : Value) (w : World) : (Instr.typeAssert (.iface 92 v) 20 92 true).run Tryz.prog w = .ok (.tuple #[v, .bool true]) w := by
  have hu := Tryz.underlying92
  unfold Instr.typeAssert
  simp only [Sem.run_bind, run_underlying hu, Result.andThen_ok, if_true, Sem.run_pure]
theorem assert_no_short (w : World) : (Instr.typeAssert .nilIface 20 92 true).run Tryz.prog w = .ok (.tuple #[.agg #[], .bool false]) w := by
  have hu := Tryz.underlying92
  have hz := Tryz.zeroValue92
  unfold Instr.typeAssert
  simp only [Sem.run_bind, run_underlying hu, Result.andThen_ok, if_true, Sem.run_pure, hz]
set_option maxRecDepth 100000 in
set_option maxHeartbeats 1000000 in
theorem ucaught_panicking (R E : Nat) (s p l u : Value) (x : Int) (w : World) (hne : R ≠ E) (hR : CodBox w R s p l u) (hc : w.cell? ⟨E, 0, none⟩ = some (.int .i64 x)) (hz : w.frozen? ⟨E, 0, none⟩ = false) (hE : E < w.heap.size) :
    CallsD Tryz.prog 46 #[.pointer (some ⟨R, 0, none⟩), .pointer (some ⟨E, 0, none⟩)] (.panicking shortP) w fun e u' w' =>
      e = .returned (.tuple #[]) ∧ u' = .panicking [{ v := shortV, recovered := true }] ∧ w'.cell? ⟨E, 0, none⟩ = some (.int .i64 203) ∧ CodBox w' R (.string ⟨#[]⟩) (.int .i64 0) (.slice none 0 0) (.slice none 0 0) ∧ Save (fun k => k = R ∨ k = E) w w' := by
  refine callsD_of_wpS Tryz.func46 rfl fun c₀ cs hu => ?_
  unfold shortP shortV at hu
  have HR := Lib.hid hR
  have HNE := Lib.hid hne
  obtain ⟨r0, r1, r2, r3, g0, g1, g2, g3, hRl⟩ := hR
  apply wpS_seq
  apply wpS_region
  have hta := assert_short (.agg #[])
  simp only [Tryz.ntmps46, List.size_toArray, List.length_cons, List.length_nil, Nat.reduceAdd, Nat.reduceSub, Array.replicate_succ, Array.replicate_zero, List.push_toArray, List.append_toArray, List.nil_append, List.cons_append]
  simp [wpOpsS, go_sem, recoverD, hu, Exit.thenS, hta]
  apply wpS_seq
  apply wpS_region
  simp [wpOpsS, go_sem, Exit.thenS]
  refine wpS_cond (t := true) (by simp [Act.eval]) ?_
  simp only [if_true]
  apply wpS_region
  simp [wpOpsS, go_sem, hc, hz, hE, r0, r1, r2, r3, g0, g1, g2, g3, hRl, bodyPostS, results, Tryz.results46]
  have SE := ((Save.refl (fun k => k = E) ((((w.setCell ⟨R, 0, none⟩ (.string ⟨#[]⟩)).setCell ⟨R, 1, none⟩ (.int .i64 0)).setCell ⟨R, 2, none⟩ (.slice none 0 0)).setCell ⟨R, 3, none⟩ (.slice none 0 0))).set ⟨E, 0, none⟩ (.int .i64 203) (fun _ => rfl)).alloc (.cells #[] 92)
  exact ⟨rfl, (HR.out.put _ _ _ _).save SE (fun e => HNE.out e), ((CodBox.put_save w R _ _ _ _).mono (T := fun k => k = R ∨ k = E) (fun j _ e => .inl e)).trans SE (fun j _ e => .inr e)⟩
set_option maxRecDepth 100000 in
set_option maxHeartbeats 1000000 in
theorem ucaught_idle (R E : Nat) (w : World) :
    CallsD Tryz.prog 46 #[.pointer (some ⟨R, 0, none⟩), .pointer (some ⟨E, 0, none⟩)] .returning w fun e u' w' => e = .returned (.tuple #[]) ∧ u' = .returning ∧ Below w.heap.size w w' := by
  refine callsD_of_wpS Tryz.func46 rfl fun c₀ cs hu => ?_
  apply wpS_seq
  apply wpS_region
  have hta := assert_no_short
  simp only [Tryz.ntmps46, List.size_toArray, List.length_cons, List.length_nil, Nat.reduceAdd, Nat.reduceSub, Array.replicate_succ, Array.replicate_zero, List.push_toArray, List.append_toArray, List.nil_append, List.cons_append]
  simp [wpOpsS, go_sem, recoverD, hu, Exit.thenS, hta]
  apply wpS_seq
  apply wpS_region
  simp [wpOpsS, go_sem, Exit.thenS]
  refine wpS_cond (t := false) (by simp [Act.eval]) ?_
  simp only [Bool.false_eq_true, if_false]
  refine wpS_of_wp (wp_skip ?_)
  have hb : Below w.heap.size w (w.alloc (.cells #[] 92)) := (Below.refl _ _).alloc (Nat.le_refl _) _
  cases c₀
  simp_all [bodyPostS, results, Tryz.results46]
end Go.Proofs.YtoklnpoacckbfaaGreatDoor
namespace Go.Proofs.YtoklnpoacckbfaaGreatDoor
open Go Go.RowKit Go.Lib
theorem info_lit : (Tryz.prog.info? 37).map (fun i => (i.zero, i.size, i.bytes)) = some (some (.agg #[.int .u8 0, .int .i64 0, .int .u64 0, .string ⟨#[]⟩, .slice none 0 0]), 5, 64) := by kernel_rfl
theorem wpList_appL {ops : Array Oper} {rest : List Oper} {o : Oper} {a : Act} {Q : Exit → Act → World → Prop} {w : World} (hgd : o.guard = none) (s x : Operand)
    (ho : o.op = .call { callee := .builtin .append, args := #[s, x], argTypes := #[22, 22] }) (base : Nat) (v : Value) (ps : List (Pl.Lit × Value)) (hs : a.eval s = v) (hown : Owns w base 37 5 v ps.length (rowOf litCells ps))
    (p : Pl.Lit × Value) (hp : p.2.oneCell' = true) (cs : Array Value) (hc : cs.toList = litCells p.1 p.2) (hx : a.eval x = .slice (some ⟨w.heap.size, 0, none⟩) 1 1) (hlen : ps.length ≤ 1099511627776) (hbase : base ≤ w.heap.size)
    (h : ∀ v' w', Owns w' base 37 5 v' (ps.length + 1) (rowOf litCells (ps ++ [p])) → Grow w v w' v' → wpList Tryz.prog ops Q rest (a.put o.dst v') w') : wpList Tryz.prog ops Q (o :: rest) a (w.alloc (.cells cs 37)) := by
  obtain ⟨i0, hi, hz0, hz1, hz2⟩ := info_parts info_lit
  refine wpList_append_owns hgd s x 22 ho base 37 i0 _ 5 64 Tryz.underlying22 hi hz0 hz1 hz2 rfl v ps.length (rowOf litCells ps) hs (hown.alloc _) ⟨w.heap.size, 0, none⟩ 1 1 (litCells p.1 p.2) hx rfl ?_ ?_ (by unfold maxLen; omega) (by omega) (by simp; omega) ?_
  · intro j u hj
    exact new_cells w cs _ j u (by rw [hc]; exact hj)
  · intro u hu
    unfold litCells at hu
    simp at hu
    rcases hu with rfl | rfl | rfl | rfl | rfl <;> first | rfl | exact hp
  · intro v' w' ho' hg'
    refine h v' w' ?_ ((Grow.alloc w v _).trans hg')
    rw [rowOf_append, rowOf_one]
    exact ho'
namespace Pl
theorem lits_len_big : ∀ l : List Lit, l.length ≤ litsBig l
  | [] => by simp [litsBig]
  | x :: r => by
    have := lits_len_big r
    have h1 : 1 ≤ litBig x := by cases x; simp only [litBig]; omega
    simp only [litsBig, List.length_cons]; omega
theorem items_big (x : Lit) : litsBig x.items ≤ litBig x := by cases x; simp only [litBig, Lit.items]; omega
theorem lits_get_big {l : List Lit} {i : Nat} {x : Lit} (h : l[i]? = some x) : litBig x ≤ litsBig l := by
  induction l generalizing i with
  | nil => simp at h
  | cons y r ih =>
    simp only [litsBig]
    cases i with
    | zero => simp at h; subst h; omega
    | succ i => have := ih (i := i) (by simpa using h); omega
end Pl
theorem lits_slice {Q : Nat → Prop} {w : World} {l : List Pl.Lit} {v : Value} (h : LitsOf Q w l v) : v.oneCell' = true := by cases h; rfl
set_option maxRecDepth 100000 in
set_option maxHeartbeats 4000000 in
theorem own_any {B : Nat} {w0 : World} {l : List Pl.Lit} {v : Value} (h : LitsAt B w0 l v) : ∀ w : World, Below B w0 w → B ≤ w0.heap.size → Pl.litsBig l ≤ 1099511627776 →
    Calls Tryz.prog 49 #[v] w fun e w' => ∃ v', e = .returned v' ∧ LitsOf (fun k => w.heap.size ≤ k) w' l v' ∧ Below w.heap.size w w' := by
  induction h with
  | mk A l cap V hB hrow hw hr ih =>
    intro w hbel hB0 hbig
    have h1 := hrow.le
    have h2 := hrow.len
    have h4 := Pl.lits_len_big l
    have hs0 := hbel.size
    have HW := Lib.hid hw
    clear hw
    go_enter Tryz.func49, Tryz.ntmps49
    go_wp2_with fail
    have HN := Lib.hid (Owns.nil w w.heap.size 37 5)
    generalize Value.slice none 0 0 = q0 at HN ⊢
    go_loopw [3, 8] (fun q iv wr => ∃ (k : Nat) (ps : List (Pl.Lit × Value)), iv = .int .i64 k ∧ k ≤ l.length ∧ ps.length = k ∧ ps.map (·.1) = l.take k ∧ Owns wr w.heap.size 37 5 q ps.length (rowOf litCells ps) ∧
        (∀ (i : Nat) (p : Pl.Lit × Value), ps[i]? = some p → LitsOf (fun b => w.heap.size ≤ b ∧ q.ownBlock ≠ some b) wr p.1.items p.2) ∧ Below w.heap.size w wr) (fun _ iv _ => l.length - (RowKit.intOf iv).toNat)
    case atStart => exact ⟨0, [], rfl, Nat.zero_le _, rfl, by simp, HN.out, by simp, Below.refl _ _⟩
    case round =>
      obtain ⟨k, ps, rfl, hk, hpl, hpm, hO, hL, hb⟩ := hrel
      have HO := Lib.hid hO
      have HL := Lib.hid hL
      have HM := Lib.hid hpm
      have hz := hb.size
      have hB2 : Below B w0 wr := hbel.trans (hb.mono (by omega))
      have HBW := Lib.hid hb
      clear hO hL hpm hb
      by_cases hlt : k < l.length
      · obtain ⟨ba, oa, rfl, hba⟩ := hrow.some_of hlt
        obtain ⟨x, hx⟩ : ∃ x, l[k]? = some x := ⟨_, List.getElem?_eq_getElem hlt⟩
        obtain ⟨a0, a1, a2, a3, a4⟩ := (hrow.keep hB2 hB).lit hx
        have hxb := Pl.lits_get_big hx
        have hxi := Pl.items_big x
        have IH := Lib.hid (fun (W : World) (hbW : Below B w0 W) => ih k x hx W hbW hB0 (by omega))
        have HX := Lib.hid hx
        have hltI : (k : Int) < (l.length : Int) := by omega
        have hk0 : (0 : Int) ≤ (k : Int) := by omega
        obtain ⟨Ay, capy, Vy, hVk, _⟩ := (hr k x hx).out
        rw [hVk] at a4 IH
        clear hVk
        clear hx
        go_wp2_with (first
          | (go_at_call 49
             refine (IH.out _ (hB2.alloc (by omega) _)).mono ?_
             rintro e w2 ⟨v2, rfl, hl2, hb2⟩
             obtain ⟨A2, cap2, rfl⟩ : ∃ A2 cap2, v2 = .slice A2 x.items.length cap2 := (by cases hl2; exact ⟨_, _, rfl⟩)
             have g0 : w2.cell? ⟨wr.heap.size, 0, none⟩ = some (.int .u8 x.kind) := boxCells (hb2.mono (by simp)) rfl
             have g1 : w2.cell? ⟨wr.heap.size, 1, none⟩ = some (.int .i64 x.n) := boxCells (hb2.mono (by simp)) rfl
             have g2 : w2.cell? ⟨wr.heap.size, 2, none⟩ = some (.int .u64 x.bits) := boxCells (hb2.mono (by simp)) rfl
             have g3 : w2.cell? ⟨wr.heap.size, 3, none⟩ = some (.string x.text) := boxCells (hb2.mono (by simp)) rfl
             have g4 : w2.cell? ⟨wr.heap.size, 4, none⟩ = some (.slice Ay x.items.length capy) := boxCells (hb2.mono (by simp)) rfl
             have gf : w2.frozen? ⟨wr.heap.size, 4, none⟩ = false := (by rw [hb2.frozen (p := ⟨wr.heap.size, 4, none⟩) (by simp)]; simp [go_sem])
             have hz2 : wr.heap.size < w2.heap.size := (by have := hb2.size; simp at this; omega)
             have hz2n : ¬ wr.heap.size = w2.heap.size := by omega
             have HB2 := Lib.hid hb2
             have HL2 := Lib.hid hl2
             clear hb2 hl2)
          | (at_builtin; go_loud (refine wpList_appL rfl (.tmp 16) (.tmp 18) rfl w.heap.size _ ps rfl ?ho1 (x, .slice A2 x.items.length cap2) rfl _ ?hc ?hx ?hl ?hbs ?_)))
        case ho1 => exact (HO.out.below (alloc_then (HB2.out.mono (by simp))) (fun g hg => (HO.out.lt g hg).2)).elsewhere _ (fun e => by have := (HO.out.lt _ e).2; simp at this)
        case hc => rfl
        case hx => show Value.slice (some ⟨w2.heap.size, 0, none⟩) 1 1 = Value.slice (some ⟨(World.setCell _ _ _).heap.size, 0, none⟩) 1 1; simp
        case hl => omega
        case hbs => simp; omega
        intro q1 w3 hq1 hg1
        have HQ1 := Lib.hid hq1
        have HG1 := Lib.hid hg1
        clear hq1 hg1
        have HBA := Lib.hid (show Below wr.heap.size wr w2 from alloc_then (HB2.out.mono (by simp)))
        have HBC := Lib.hid ((HBW.out.trans (HBA.out.mono hz)).setCell (p := ⟨wr.heap.size, 4, none⟩) hz (.slice A2 x.items.length cap2))
        have HB3 := Lib.hid (HG1.out.below2 ((HO.out.below HBA.out (fun g hg => (HO.out.lt g hg).2)).elsewhere _ (fun e => by have := (HO.out.lt _ e).2; simp at this)) HBC.out (by simp; omega) (Nat.le_refl _))
        have HS3 := Lib.hid (show Save (fun g => u3.ownBlock = some g) wr w3 from (((Save.refl _ wr).step HBA.out (Nat.le_refl _)).set ⟨wr.heap.size, 4, none⟩ _ (fun h => absurd h (Nat.lt_irrefl _))).grow HG1.out (fun g hg _ => hg))
        have HS4 := Lib.hid (show Save (fun g => g = wr.heap.size ∨ u3.ownBlock = some g) w2 w3 from ((Save.refl _ w2).set ⟨wr.heap.size, 4, none⟩ _ (fun _ => .inl rfl)).grow HG1.out (fun g hg _ => .inr hg))
        have HNE := Lib.hid (show ∀ g, q1.ownBlock = some g → u3.ownBlock = some g ∨ w2.heap.size ≤ g from fun g hg => by
          rcases HG1.out.2 with e | e
          · exact .inl (e ▸ hg)
          · exact .inr (by simpa using e g hg))
        go_wp2_with fail
        go_roundw
        case rel =>
          refine ⟨k + 1, ps ++ [(x, .slice A2 x.items.length cap2)], by go_num, by omega, by simp; omega, ?_, by rw [List.length_append, hpl]; exact HQ1.out, ?_, HB3.out⟩
          · rw [List.map_append, HM.out, List.take_add_one, HX.out]; rfl
          · intro i p hp
            have hu3 := HO.out.lt
            by_cases hi : i < ps.length
            · rw [List.getElem?_append_left hi] at hp
              refine LitsOf.mono (Q := fun b => w.heap.size ≤ b ∧ q1.ownBlock ≠ some b ∧ u3.ownBlock ≠ some b) (LitsOf.save ((HL.out i p hp).mono (fun g hg hh => ⟨hh.1, fun e => ?_, hh.2⟩)) HS3.out (fun g hg hh e => hh.2.2 e)) (fun g _ hh => ⟨hh.1, hh.2.1⟩)
              rcases HNE.out g e with e' | e'
              · exact hh.2 e'
              · omega
            · rw [List.getElem?_append_right (by omega)] at hp
              have : p = (x, .slice A2 x.items.length cap2) := by
                cases hii : i - ps.length with
                | zero => rw [hii] at hp; simpa using hp.symm
                | succ m => rw [hii] at hp; simp at hp
              subst this
              refine LitsOf.mono (Q := fun b => w.heap.size ≤ b ∧ q1.ownBlock ≠ some b ∧ b ≠ wr.heap.size ∧ u3.ownBlock ≠ some b) (LitsOf.save (HL2.out.mono (fun g hg hh => ?_)) HS4.out (fun g hg hh e => e.elim hh.2.2.1 hh.2.2.2)) (fun g _ hh => ⟨hh.1, hh.2.1⟩)
              simp at hh
              have hu : u3.ownBlock ≠ some g := fun e => by have := (hu3 g e).2; omega
              refine ⟨by omega, fun e => ?_, by omega, hu⟩
              rcases HNE.out g e with e' | e'
              · exact hu e'
              · omega
        case measure => simp [RowKit.intOf]; omega
      · have hltI : (l.length : Int) ≤ (k : Int) := by omega
        have hke : k = l.length := by omega
        have hmap : ps.map (·.1) = l := by rw [HM.out, hke, List.take_length]
        clear hke
        go_wp2_with fail
        go_ret
        refine ⟨_, rfl, LitsOf.of_owns HO.out hmap (by omega) (fun g hg => (HO.out.lt g hg).1) HW.out (fun i p hp => (HL.out i p hp).mono fun _ _ hq => hq.1), HBW.out⟩
end Go.Proofs.YtoklnpoacckbfaaGreatDoor
namespace Go.Proofs.YtoklnpoacckbfaaGreatDoor
open Go Go.RowKit Go.Lib
namespace Pl
noncomputable def unpackC (sel : ByteArray) (lits : List Lit) (b : ByteArray) : Option Cod :=
  match rd (sb b) with
  | none => none
  | some (p, us) => if check ⟨sel, p, lits, us⟩ = 0 then some ⟨sel, p, lits, us⟩ else none
theorem unpackC_none {sel : ByteArray} {lits : List Lit} {b : ByteArray} (h : rd (sb b) = none) : unpackC sel lits b = none := by unfold unpackC; rw [h]
theorem unpackC_bad {sel : ByteArray} {lits : List Lit} {b : ByteArray} {p : Int} {us : List Unt} (h : rd (sb b) = some (p, us)) (hc : check ⟨sel, p, lits, us⟩ ≠ 0) : unpackC sel lits b = none := by
  unfold unpackC; rw [h]; exact if_neg hc
theorem unpackC_ok {sel : ByteArray} {lits : List Lit} {b : ByteArray} {p : Int} {us : List Unt} (h : rd (sb b) = some (p, us)) (hc : check ⟨sel, p, lits, us⟩ = 0) : unpackC sel lits b = some ⟨sel, p, lits, us⟩ := by
  unfold unpackC; rw [h]; exact if_pos hc
theorem unpack_pack {c : Cod} (h : check c = 0) : unpackC c.sel c.lits (packS c) = some c := by
  have e : packS c = bs (enc c.prim c.units) := by unfold packS; rw [if_pos h]
  rw [e]
  refine unpackC_ok (by rw [sb_bs (enc_lt _ _)]; exact rd_of_check h) h
theorem unpack_none {c : Cod} (h : check c ≠ 0) : unpackC c.sel c.lits (packS c) = none := by
  have e : packS c = ⟨#[]⟩ := by unfold packS; rw [if_neg h]
  rw [e]
  exact unpackC_none rfl
theorem unpack_some {sel : ByteArray} {lits : List Lit} {b : ByteArray} {c : Cod} (h : unpackC sel lits b = some c) : c.sel = sel ∧ c.lits = lits ∧ check c = 0 ∧ packS c = b := by
  unfold unpackC at h
  cases h0 : rd (sb b) with
  | none => rw [h0] at h; cases h
  | some x =>
    obtain ⟨p, us⟩ := x
    rw [h0] at h
    by_cases hc : check ⟨sel, p, lits, us⟩ = 0
    · simp only [hc, if_true] at h
      cases h
      refine ⟨rfl, rfl, hc, ?_⟩
      unfold packS
      rw [if_pos hc]
      obtain ⟨e, _⟩ := enc_rd (sb_lt b) h0
      show bs (enc p us) = b
      rw [← e, bs_sb]
    · simp only [hc, if_false] at h
      cases h
end Pl
end Go.Proofs.YtoklnpoacckbfaaGreatDoor
