/- CopyLit: a literal in memory of its own. -/
import Derived.Test.YtoklnpoacckbfaaGreatDoorKabo
namespace Go.Proofs.YtoklnpoacckbfaaGreatDoor
open Go Go.RowKit Go.Lib
set_option maxRecDepth 100000 in
set_option maxHeartbeats 4000000 in
theorem copyLit_any {B : Nat} {w0 : World} {la : List Pl.Lit} {va : Value} (h : LitsAt B w0 la va) : ∀ (x : Pl.Lit) (w : World), x.items = la → Below B w0 w → B ≤ w0.heap.size → Pl.LitW x → Pl.litsBig la ≤ 1099511627776 →
    Calls Tryz.prog 26 #[litV x va] w fun e w' => ∃ v', e = .returned (litV x v') ∧ LitsOf (fun k => w.heap.size ≤ k) w' x.items v' ∧ Below w.heap.size w w' := by
  induction h with
  | mk A l cap V hB hrow hw hr ih =>
    intro x w hx hbel hB0 hxw hbig
    have h1 := hrow.le
    have h2 := hrow.len
    have h4 := Pl.lits_len_big l
    have hs0 := hbel.size
    have HW := Lib.hid hw
    have HX0 := Lib.hid hx
    unfold litV
    clear hw hx
    have HB1 := Lib.hid (show Below w.heap.size w ((w.alloc (.cells #[.int .u8 x.kind, .int .i64 x.n, .int .u64 x.bits, .string x.text, .slice A l.length cap] 37)).alloc (.cells #[.int .u8 0, .int .i64 0, .int .u64 0, .string ⟨#[]⟩, .slice none 0 0] 37)) from ((Below.refl _ _).alloc (Nat.le_refl _) _).alloc (by simp) _)
    have HC1 := Lib.hid (show ((w.alloc (.cells #[.int .u8 x.kind, .int .i64 x.n, .int .u64 x.bits, .string x.text, .slice A l.length cap] 37)).alloc (.cells #[.int .u8 0, .int .i64 0, .int .u64 0, .string ⟨#[]⟩, .slice none 0 0] 37)).heap[w.heap.size]? = some (.cells #[.int .u8 x.kind, .int .i64 x.n, .int .u64 x.bits, .string x.text, .slice A l.length cap] 37 (0, 0)) from by rw [heap_alloc_old _ _ (by simp)]; exact heap_alloc_new w _)
    have HD1 := Lib.hid (show ((w.alloc (.cells #[.int .u8 x.kind, .int .i64 x.n, .int .u64 x.bits, .string x.text, .slice A l.length cap] 37)).alloc (.cells #[.int .u8 0, .int .i64 0, .int .u64 0, .string ⟨#[]⟩, .slice none 0 0] 37)).heap[w.heap.size + 1]? = some (.cells #[.int .u8 0, .int .i64 0, .int .u64 0, .string ⟨#[]⟩, .slice none 0 0] 37 (0, 0)) from by have := heap_alloc_new (w.alloc (.cells #[.int .u8 x.kind, .int .i64 x.n, .int .u64 x.bits, .string x.text, .slice A l.length cap] 37)) (.cells #[.int .u8 0, .int .i64 0, .int .u64 0, .string ⟨#[]⟩, .slice none 0 0] 37); rw [World.size_alloc] at this; exact this)
    have hz1 : w.heap.size + 1 < ((w.alloc (.cells #[.int .u8 x.kind, .int .i64 x.n, .int .u64 x.bits, .string x.text, .slice A l.length cap] 37)).alloc (.cells #[.int .u8 0, .int .i64 0, .int .u64 0, .string ⟨#[]⟩, .slice none 0 0] 37)).heap.size := by simp
    go_enter Tryz.func26, Tryz.ntmps26
    go_wp2_with fail
    generalize (w.alloc (.cells #[.int .u8 x.kind, .int .i64 x.n, .int .u64 x.bits, .string x.text, .slice A l.length cap] 37)).alloc (.cells #[.int .u8 0, .int .i64 0, .int .u64 0, .string ⟨#[]⟩, .slice none 0 0] 37) = w1 at HB1 HC1 HD1 hz1 ⊢
    have HN := Lib.hid (Owns.nil w1 w1.heap.size 37 5)
    generalize hq0 : Value.slice none 0 0 = q0 at HN
    go_loopw [3, 4] (fun q iv wr => ∃ (k : Nat) (ps : List (Pl.Lit × Value)), iv = .int .i64 k ∧ k ≤ l.length ∧ ps.length = k ∧ ps.map (·.1) = l.take k ∧ Owns wr w1.heap.size 37 5 q ps.length (rowOf litCells ps) ∧
        (∀ (i : Nat) (p : Pl.Lit × Value), ps[i]? = some p → LitsOf (fun b => w1.heap.size ≤ b ∧ q.ownBlock ≠ some b) wr p.1.items p.2) ∧ Below w1.heap.size w1 wr) (fun _ iv _ => l.length - (RowKit.intOf iv).toNat)
    case atStart => exact ⟨0, [], rfl, Nat.zero_le _, rfl, by simp, HN.out, by simp, Below.refl _ _⟩
    case round =>
      obtain ⟨k, ps, rfl, hk, hpl, hpm, hO, hL, hb⟩ := hrel
      have HO := Lib.hid hO
      have HL := Lib.hid hL
      have HM := Lib.hid hpm
      have hz := hb.size
      have hbw := HB1.out.trans (hb.mono HB1.out.size)
      have hB2 : Below B w0 wr := hbel.trans (hbw.mono (by omega))
      have HBW := Lib.hid hb
      have hc := (hb.block w.heap.size (by omega)).trans HC1.out
      have c4 : wr.cell? ⟨w.heap.size, 4, none⟩ = some (.slice A l.length cap) := Lib.cell_of_heap hc 4
      have hcl : w.heap.size < wr.heap.size := by omega
      clear hO hL hpm hb hbw hc
      by_cases hlt : k < l.length
      · obtain ⟨ba, oa, rfl, hba⟩ := hrow.some_of hlt
        obtain ⟨y, hy⟩ : ∃ y, l[k]? = some y := ⟨_, List.getElem?_eq_getElem hlt⟩
        obtain ⟨a0, a1, a2, a3, a4⟩ := (hrow.keep hB2 hB).lit hy
        have hyb := Pl.lits_get_big hy
        have hyi := Pl.items_big y
        have hyw := HW.out y (List.mem_of_getElem? hy)
        have IH := Lib.hid (fun (W : World) (hbW : Below B w0 W) => ih k y hy y W rfl hbW hB0 hyw (by omega))
        have HY := Lib.hid hy
        have hltI : (k : Int) < (l.length : Int) := by omega
        have hk0 : (0 : Int) ≤ (k : Int) := by omega
        obtain ⟨Ay, capy, Vy, hVk, _⟩ := (hr k y hy).out
        rw [hVk] at a4 IH
        unfold litV at IH
        clear hVk hy hyw
        go_wp2_with (first
          | (go_at_call 26
             refine (IH.out _ hB2).mono ?_
             rintro e w2 ⟨v2, rfl, hl2, hb2⟩
             obtain ⟨A2, cap2, rfl⟩ : ∃ A2 cap2, v2 = .slice A2 y.items.length cap2 := (by cases hl2; exact ⟨_, _, rfl⟩)
             have HB2 := Lib.hid hb2
             have HL2 := Lib.hid hl2
             have hz2 := hb2.size
             clear hb2 hl2)
          | (at_builtin; go_loud (refine wpList_appL rfl (.tmp 12) (.tmp 19) rfl w1.heap.size _ ps rfl ?ho1 (y, .slice A2 y.items.length cap2) rfl _ ?hc ?hx ?hl ?hbs ?_)))
        case ho1 => exact HO.out.below HB2.out (fun g hg => (HO.out.lt g hg).2)
        case hc => rfl
        case hx => rfl
        case hl => omega
        case hbs => omega
        intro q1 w3 hq1 hg1
        have HQ1 := Lib.hid hq1
        have HG1 := Lib.hid hg1
        clear hq1 hg1
        have HBC := Lib.hid (HBW.out.trans (HB2.out.mono hz))
        have HB3 := Lib.hid (HG1.out.below2 (HO.out.below HB2.out (fun g hg => (HO.out.lt g hg).2)) HBC.out (by omega) (Nat.le_refl _))
        have HS3 := Lib.hid (show Save (fun g => u3.ownBlock = some g) wr w3 from ((Save.refl _ wr).step HB2.out (Nat.le_refl _)).grow HG1.out (fun g hg _ => hg))
        have HS4 := Lib.hid (show Save (fun g => u3.ownBlock = some g) w2 w3 from (Save.refl _ w2).grow HG1.out (fun g hg _ => hg))
        have HNE := Lib.hid (show ∀ g, q1.ownBlock = some g → u3.ownBlock = some g ∨ w2.heap.size ≤ g from fun g hg => by
          rcases HG1.out.2 with e | e
          · exact .inl (e ▸ hg)
          · exact .inr (e g hg))
        go_wp2_with fail
        go_roundw
        case rel =>
          refine ⟨k + 1, ps ++ [(y, .slice A2 y.items.length cap2)], by go_num, by omega, by simp; omega, ?_, by rw [List.length_append, hpl]; exact HQ1.out, ?_, HB3.out⟩
          · rw [List.map_append, HM.out, List.take_add_one, HY.out]; rfl
          · intro i p hp
            have hu3 := HO.out.lt
            by_cases hi : i < ps.length
            · rw [List.getElem?_append_left hi] at hp
              refine LitsOf.mono (Q := fun b => w1.heap.size ≤ b ∧ q1.ownBlock ≠ some b ∧ u3.ownBlock ≠ some b) (LitsOf.save ((HL.out i p hp).mono (fun g hg hh => ⟨hh.1, fun e => ?_, hh.2⟩)) HS3.out (fun g hg hh e => hh.2.2 e)) (fun g _ hh => ⟨hh.1, hh.2.1⟩)
              rcases HNE.out g e with e' | e'
              · exact hh.2 e'
              · omega
            · rw [List.getElem?_append_right (by omega)] at hp
              have : p = (y, .slice A2 y.items.length cap2) := by
                cases hii : i - ps.length with
                | zero => rw [hii] at hp; simpa using hp.symm
                | succ m => rw [hii] at hp; simp at hp
              subst this
              refine LitsOf.mono (Q := fun b => w1.heap.size ≤ b ∧ q1.ownBlock ≠ some b ∧ u3.ownBlock ≠ some b) (LitsOf.save (HL2.out.mono (fun g hg (hh : wr.heap.size ≤ g) => ?_)) HS4.out (fun g hg hh e => hh.2.2 e)) (fun g _ hh => ⟨hh.1, hh.2.1⟩)
              have hu : u3.ownBlock ≠ some g := fun e => by have := (hu3 g e).2; omega
              refine ⟨by omega, fun e => ?_, hu⟩
              rcases HNE.out g e with e' | e'
              · exact hu e'
              · omega
        case measure => simp [RowKit.intOf]; omega
      · subst hpl
        have hltI : (l.length : Int) ≤ (ps.length : Int) := by omega
        have hke : ps.length = l.length := by omega
        have hmap : ps.map (·.1) = l := by rw [HM.out, hke, List.take_length]
        obtain ⟨qa, qc, hq⟩ := HO.out.form
        have hc := (HBW.out.block w.heap.size (by omega)).trans HC1.out
        have hd := (HBW.out.block (w.heap.size + 1) (by omega)).trans HD1.out
        have c0 : wr.cell? ⟨w.heap.size, 0, none⟩ = some (.int .u8 x.kind) := Lib.cell_of_heap hc 0
        have c1 : wr.cell? ⟨w.heap.size, 1, none⟩ = some (.int .i64 x.n) := Lib.cell_of_heap hc 1
        have c2 : wr.cell? ⟨w.heap.size, 2, none⟩ = some (.int .u64 x.bits) := Lib.cell_of_heap hc 2
        have c3 : wr.cell? ⟨w.heap.size, 3, none⟩ = some (.string x.text) := Lib.cell_of_heap hc 3
        have cf : wr.frozen? ⟨w.heap.size, 4, none⟩ = false := Lib.frozen_of_heap hc 4
        have e0 : wr.cell? ⟨w.heap.size + 1, 0, none⟩ = some (.int .u8 0) := Lib.cell_of_heap hd 0
        have e1 : wr.cell? ⟨w.heap.size + 1, 1, none⟩ = some (.int .i64 0) := Lib.cell_of_heap hd 1
        have e2 : wr.cell? ⟨w.heap.size + 1, 2, none⟩ = some (.int .u64 0) := Lib.cell_of_heap hd 2
        have e3 : wr.cell? ⟨w.heap.size + 1, 3, none⟩ = some (.string ⟨#[]⟩) := Lib.cell_of_heap hd 3
        have e4 : wr.cell? ⟨w.heap.size + 1, 4, none⟩ = some (.slice none 0 0) := Lib.cell_of_heap hd 4
        have f0 : wr.frozen? ⟨w.heap.size + 1, 0, none⟩ = false := Lib.frozen_of_heap hd 0
        have f1 : wr.frozen? ⟨w.heap.size + 1, 1, none⟩ = false := Lib.frozen_of_heap hd 1
        have f2 : wr.frozen? ⟨w.heap.size + 1, 2, none⟩ = false := Lib.frozen_of_heap hd 2
        have f3 : wr.frozen? ⟨w.heap.size + 1, 3, none⟩ = false := Lib.frozen_of_heap hd 3
        have f4 : wr.frozen? ⟨w.heap.size + 1, 4, none⟩ = false := Lib.frozen_of_heap hd 4
        have hdl : w.heap.size + 1 < wr.heap.size := by omega
        rw [hq] at HO HL
        rw [hq]
        clear hke hc hd
        go_wp2_with fail
        refine bodyPost_ret (v := .agg #[.int .u8 x.kind, .int .i64 x.n, .int .u64 x.bits, .string x.text, .slice qa ps.length qc]) (by simp [results, Tryz.results26, go_sem, e0, e1, e2, e3, e4]) rfl ?_
        have SE := ((((((Save.refl (fun g => g = w.heap.size ∨ g = w.heap.size + 1) wr).set ⟨w.heap.size, 4, none⟩ (.slice qa ps.length qc) (fun _ => .inl rfl)).set ⟨w.heap.size + 1, 0, none⟩ (.int .u8 x.kind) (fun _ => .inr rfl)).set ⟨w.heap.size + 1, 1, none⟩ (.int .i64 x.n) (fun _ => .inr rfl)).set ⟨w.heap.size + 1, 2, none⟩ (.int .u64 x.bits) (fun _ => .inr rfl)).set ⟨w.heap.size + 1, 3, none⟩ (.string x.text) (fun _ => .inr rfl)).set ⟨w.heap.size + 1, 4, none⟩ (.slice qa ps.length qc) (fun _ => .inr rfl)
        refine ⟨.slice qa ps.length qc, rfl, ?_, ?_⟩
        · rw [HX0.out]
          exact LitsOf.of_owns (HO.out.save SE (fun g hg e => by have := (HO.out.lt g hg).1; omega)) hmap (by omega) (fun g hg => by have := (HO.out.lt g hg).1; omega) HW.out
            (fun i p hp => ((HL.out i p hp).save SE (fun g _ hh e => by have := hh.1; omega)).mono (fun g _ hh => by have := hh.1; omega))
        · exact (HB1.out.trans (HBW.out.mono HB1.out.size)).trans (SE.below (by omega) (fun g hg => by omega))
end Go.Proofs.YtoklnpoacckbfaaGreatDoor
