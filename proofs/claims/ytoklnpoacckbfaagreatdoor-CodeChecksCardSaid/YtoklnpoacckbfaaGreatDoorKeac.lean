/- CopyCode: a code in memory of its own. -/
import Derived.Test.YtoklnpoacckbfaaGreatDoorKeab
import Derived.Test.YtoklnpoacckbfaaGreatDoorKabp
namespace Go.Proofs.YtoklnpoacckbfaaGreatDoor
open Go Go.RowKit Go.Lib
theorem step_appL {ops : Array Oper} {o : Oper} {a : Act} {K : Act → World → Prop} {Q : Exit → Act → World → Prop} {E : Prop} {w : World} (hgd : o.guard = none) (s x : Operand)
    (ho : o.op = .call { callee := .builtin .append, args := #[s, x], argTypes := #[22, 22] }) (base : Nat) (v : Value) (ps : List (Pl.Lit × Value)) (hs : a.eval s = v) (hown : Owns w base 37 5 v ps.length (rowOf litCells ps))
    (p : Pl.Lit × Value) (hp : p.2.oneCell' = true) (cs : Array Value) (hc : cs.toList = litCells p.1 p.2) (hx : a.eval x = .slice (some ⟨w.heap.size, 0, none⟩) 1 1) (hlen : ps.length ≤ 1099511627776) (hbase : base ≤ w.heap.size)
    (h : ∀ v' w', Owns w' base 37 5 v' (ps.length + 1) (rowOf litCells (ps ++ [p])) → Grow w v w' v' → K (a.put o.dst v') w') :
    if Region.wanted o (yielded ops a.tmps) = true then Oper.wp Tryz.prog o a (w.alloc (.cells cs 37)) K Q else E := by
  have hw : Region.wanted o (yielded ops a.tmps) = true := by simp [Region.wanted, hgd]
  rw [if_pos hw]
  obtain ⟨i0, hi, hz0, hz1, hz2⟩ := info_parts info_lit
  obtain ⟨v', w', hr, h2, h3⟩ := run_append_owns (P := Tryz.prog) 22 o.type i0 _ 64 Tryz.underlying22 hi hz0 hz1 hz2 rfl (hown.alloc (.cells cs 37)) ⟨w.heap.size, 0, none⟩ 1 1 (litCells p.1 p.2) rfl
    (fun j u hj => new_cells w cs _ j u (by rw [hc]; exact hj)) (by
      intro u hu
      unfold litCells at hu
      simp at hu
      rcases hu with rfl | rfl | rfl | rfl | rfl <;> first | rfl | exact hp) (by unfold maxLen; omega) (by omega) (by simp; omega)
  unfold Oper.wp execOp
  simp only [ho, resolve, invoke, builtin, Sem.run_bind, Sem.run_pure, Result.andThen_ok, List.map_toArray, List.map_cons, List.map_nil, hs, hx, hr]
  refine h v' w' ?_ ((Grow.alloc w v _).trans h3)
  rw [rowOf_append, rowOf_one]
  exact h2
theorem wpList_appU {ops : Array Oper} {rest : List Oper} {o : Oper} {a : Act} {Q : Exit → Act → World → Prop} {w : World} (hgd : o.guard = none) (s x : Operand)
    (ho : o.op = .call { callee := .builtin .append, args := #[s, x], argTypes := #[23, 23] }) (base : Nat) (v : Value) (ps : List (Pl.Unt × Value)) (hs : a.eval s = v) (hown : Owns w base 58 5 v ps.length (rowOf untCells ps))
    (p : Pl.Unt × Value) (hp : p.2.oneCell' = true) (cs : Array Value) (hc : cs.toList = untCells p.1 p.2) (hx : a.eval x = .slice (some ⟨w.heap.size, 0, none⟩) 1 1) (hlen : ps.length ≤ 1099511627776) (hbase : base ≤ w.heap.size)
    (h : ∀ v' w', Owns w' base 58 5 v' (ps.length + 1) (rowOf untCells (ps ++ [p])) → Grow w v w' v' → wpList Tryz.prog ops Q rest (a.put o.dst v') w') : wpList Tryz.prog ops Q (o :: rest) a (w.alloc (.cells cs 58)) := by
  obtain ⟨i0, hi, hz0, hz1, hz2⟩ := info_parts info_unt
  refine wpList_append_owns hgd s x 23 ho base 58 i0 _ 5 56 Tryz.underlying23 hi hz0 hz1 hz2 rfl v ps.length (rowOf untCells ps) hs (hown.alloc _) ⟨w.heap.size, 0, none⟩ 1 1 (untCells p.1 p.2) hx rfl ?_ ?_ (by unfold maxLen; omega) (by omega) (by simp; omega) ?_
  · intro j u hj
    exact new_cells w cs _ j u (by rw [hc]; exact hj)
  · intro u hu
    unfold untCells at hu
    simp at hu
    rcases hu with rfl | rfl | rfl | rfl | rfl <;> first | rfl | exact hp
  · intro v' w' ho' hg'
    refine h v' w' ?_ ((Grow.alloc w v _).trans hg')
    rw [rowOf_append, rowOf_one]
    exact ho'
/-- instructions appended to nil: a row of their own -/
theorem wpList_copyI {ops : Array Oper} {rest : List Oper} {o : Oper} {a : Act} {Q : Exit → Act → World → Prop} {w : World} (hgd : o.guard = none) (s x : Operand)
    (ho : o.op = .call { callee := .builtin .append, args := #[s, x], argTypes := #[56, 56] }) (hs : a.eval s = .slice none 0 0) {B : Nat} {l : List Pl.Ins} {u : Value} (hu : InssAt B w l u) (hx : a.eval x = u) (hl : l.length ≤ 1099511627776)
    (h : ∀ v' w', InssOf (fun k => w.heap.size ≤ k) w' l v' → v'.oneCell' = true → Below w.heap.size w w' → wpList Tryz.prog ops Q rest (a.put o.dst v') w') : wpList Tryz.prog ops Q (o :: rest) a w := by
  obtain ⟨A, cap, rfl, hB, hr, hw⟩ := hu
  obtain ⟨i0, hi, hz0, hz1, hz2⟩ := info_parts info_ins
  have hown : Owns w w.heap.size 61 3 (.slice none 0 0) 0 [] := Owns.nil _ _ _ _
  by_cases h0 : l = []
  · subst h0
    have hin : ∀ v' w', Owns w' w.heap.size 61 3 v' 0 [] → InssOf (fun k => w.heap.size ≤ k) w' [] v' := fun v' w' k => InssOf.of_owns (l := []) k (by simp) (by simp)
    rcases A with _ | ad
    · have hc := hr.nil rfl
      subst hc
      refine wpList_plain hgd fun K hK => ?_
      have hrun := run_append_owned_none (P := Tryz.prog) (w := w) w.heap.size 56 o.type 61 i0 3 Tryz.underlying56 hi (.slice none 0 0) 0 [] ⟨by simp, .inl ⟨rfl, rfl⟩⟩
      unfold Oper.wp execOp
      simp only [ho, resolve, invoke, builtin, Sem.run_bind, Sem.run_pure, Result.andThen_ok, List.map_toArray, List.map_cons, List.map_nil, hs, hx, List.length_nil, hrun]
      exact hK _ _ (h _ _ (hin _ _ hown) rfl (Below.refl _ _))
    · refine wpList_append_owns hgd s x 56 ho w.heap.size 61 i0 _ 3 24 Tryz.underlying56 hi hz0 hz1 hz2 rfl _ 0 [] hs hown ad 0 cap [] hx rfl (by simp) (by simp) (by unfold maxLen; omega) (by omega) (Nat.le_refl _) ?_
      intro v' w' ho' hg'
      obtain ⟨qa, qc, hq⟩ := ho'.form
      exact h v' w' (hin _ _ ho') (by rw [hq]; rfl) (hg'.below (Below.refl _ _) (Nat.le_refl _) (by simp [Value.ownBlock]))
  · obtain ⟨b, o', rfl⟩ := hr.addr h0
    refine wpList_append_owns hgd s x 56 ho w.heap.size 61 i0 _ 3 24 Tryz.underlying56 hi hz0 hz1 hz2 rfl _ 0 [] hs hown ⟨b, o', none⟩ l.length cap (insRow l) hx (by unfold insRow; rw [rowOf_len insCells_len, List.length_map]) ?_ ?_ (by unfold maxLen; omega) (by omega) (Nat.le_refl _) ?_
    · intro j u hj
      have hjl : j < (insRow l).length := (List.getElem?_eq_some_iff.1 hj).1
      have hlen : (insRow l).length = l.length * 3 := by unfold insRow; rw [rowOf_len insCells_len, List.length_map]
      obtain ⟨y, hy⟩ : ∃ y, l[j / 3]? = some y := ⟨_, List.getElem?_eq_getElem (by omega)⟩
      have hps : (l.map fun x => (x, Value.nilFunc))[j / 3]? = some (y, .nilFunc) := by rw [List.getElem?_map, hy]; rfl
      obtain ⟨u', hu'⟩ : ∃ u', (insCells y .nilFunc)[j % 3]? = some u' := ⟨_, List.getElem?_eq_getElem (by simp [insCells]; omega)⟩
      have h2 := rowOf_at insCells_len _ _ _ hps _ _ hu'
      rw [show j / 3 * 3 + j % 3 = j by omega] at h2
      have e : u = u' := by unfold insRow at hj; rw [h2] at hj; cases hj; rfl
      subst e
      have h3 := hr.cells b o' rfl (j / 3) y hy (j % 3) u hu'
      rw [show o' + j / 3 * 3 + j % 3 = o' + j by omega] at h3
      rw [show (⟨b, o', none⟩ : Addr).add j = ⟨b, o' + j, none⟩ from by unfold Addr.add; split <;> simp_all]
      exact h3
    · intro u hu
      unfold insRow rowOf at hu
      obtain ⟨p, hp, hu⟩ := List.mem_flatMap.1 hu
      obtain ⟨y, _, rfl⟩ := List.mem_map.1 hp
      simp [insCells] at hu
      rcases hu with rfl | rfl | rfl <;> rfl
    · intro v' w' ho' hg'
      rw [Nat.zero_add, List.nil_append] at ho'
      obtain ⟨qa, qc, hq⟩ := ho'.form
      exact h v' w' (InssOf.of_owns ho' hw hr.len) (by rw [hq]; rfl) (hg'.below (Below.refl _ _) (Nat.le_refl _) (by simp [Value.ownBlock]))
theorem boxFrozen {w : World} {cs : Array Value} {t : TypeId} {W : World} (hb : Below (w.heap.size + 1) (w.alloc (.cells cs t)) W) {j : Nat} : W.frozen? ⟨w.heap.size, j, none⟩ = false := by
  rw [hb.frozen (p := ⟨w.heap.size, j, none⟩) (by simp)]
  simp [go_sem]
theorem CodBox.new (w : World) (s p l u : Value) : CodBox (w.alloc (.cells #[s, p, l, u] 25)) w.heap.size s p l u :=
  ⟨by simp [go_sem], by simp [go_sem], by simp [go_sem], by simp [go_sem], by simp [go_sem], by simp [go_sem], by simp [go_sem], by simp [go_sem], by simp⟩
set_option maxRecDepth 100000 in
set_option maxHeartbeats 8000000 in
theorem copyCode_any {B : Nat} {c : Pl.Cod} {L U : Value} (w : World) (h : CodAt B w c L U) (hbig : Pl.litsBig c.lits ≤ 1099511627776) (hnu : c.units.length ≤ 1099511627776) (hni : ∀ u ∈ c.units, u.code.length ≤ 1099511627776) :
    Calls Tryz.prog 10 #[codV c L U] w fun e w' => ∃ L' U', e = .returned (codV c L' U') ∧ CodAt w'.heap.size w' c L' U' ∧ Below w.heap.size w w' := by
  have hBw := h.b
  have HH := Lib.hid h
  obtain ⟨Al, capl, Vl, rfl, hBl, hrowl, hwl, hrl⟩ := h.l.out
  obtain ⟨Au, capu, Vu, rfl, hBu, hrowu, hwu, hru⟩ := h.u
  have h1 := hrowl.le
  have h2 := hrowu.le
  have h3 := Pl.lits_len_big c.lits
  have HWL := Lib.hid hwl
  have HNI := Lib.hid hni
  unfold codV
  clear h hwl hni
  have HZ3 := Lib.hid (show (((w.alloc (.cells #[.string c.sel, .int .i64 c.prim, .slice Al c.lits.length capl, .slice Au c.units.length capu] 25)).alloc (.cells #[.string ⟨#[]⟩, .int .i64 0, .slice none 0 0, .slice none 0 0] 25)).alloc (.cells #[.string c.sel, .int .i64 c.prim, .slice none 0 0, .slice none 0 0] 25)).heap.size = w.heap.size + 3 by simp)
  have HB3 := Lib.hid (show Below w.heap.size w (((w.alloc (.cells #[.string c.sel, .int .i64 c.prim, .slice Al c.lits.length capl, .slice Au c.units.length capu] 25)).alloc (.cells #[.string ⟨#[]⟩, .int .i64 0, .slice none 0 0, .slice none 0 0] 25)).alloc (.cells #[.string c.sel, .int .i64 c.prim, .slice none 0 0, .slice none 0 0] 25)) from (((Below.refl _ _).alloc (Nat.le_refl _) _).alloc (by simp) _).alloc (by simp; omega) _)
  have HC3 := Lib.hid (show CodBox (((w.alloc (.cells #[.string c.sel, .int .i64 c.prim, .slice Al c.lits.length capl, .slice Au c.units.length capu] 25)).alloc (.cells #[.string ⟨#[]⟩, .int .i64 0, .slice none 0 0, .slice none 0 0] 25)).alloc (.cells #[.string c.sel, .int .i64 c.prim, .slice none 0 0, .slice none 0 0] 25)) w.heap.size (.string c.sel) (.int .i64 c.prim) (.slice Al c.lits.length capl) (.slice Au c.units.length capu) from
    ((CodBox.new w _ _ _ _).save (Save.none_alloc _ _) (fun f => f)).save (Save.none_alloc _ _) (fun f => f))
  have HR3 := Lib.hid (show CodBox (((w.alloc (.cells #[.string c.sel, .int .i64 c.prim, .slice Al c.lits.length capl, .slice Au c.units.length capu] 25)).alloc (.cells #[.string ⟨#[]⟩, .int .i64 0, .slice none 0 0, .slice none 0 0] 25)).alloc (.cells #[.string c.sel, .int .i64 c.prim, .slice none 0 0, .slice none 0 0] 25)) (w.heap.size + 1) (.string ⟨#[]⟩) (.int .i64 0) (.slice none 0 0) (.slice none 0 0) from
    (by have := CodBox.new (w.alloc (.cells #[.string c.sel, .int .i64 c.prim, .slice Al c.lits.length capl, .slice Au c.units.length capu] 25)) (.string ⟨#[]⟩) (.int .i64 0) (.slice none 0 0) (.slice none 0 0); rw [World.size_alloc] at this; exact this.save (Save.none_alloc _ _) (fun f => f)))
  have HX3 := Lib.hid (show CodBox (((w.alloc (.cells #[.string c.sel, .int .i64 c.prim, .slice Al c.lits.length capl, .slice Au c.units.length capu] 25)).alloc (.cells #[.string ⟨#[]⟩, .int .i64 0, .slice none 0 0, .slice none 0 0] 25)).alloc (.cells #[.string c.sel, .int .i64 c.prim, .slice none 0 0, .slice none 0 0] 25)) (w.heap.size + 1 + 1) (.string c.sel) (.int .i64 c.prim) (.slice none 0 0) (.slice none 0 0) from
    (by have := CodBox.new ((w.alloc (.cells #[.string c.sel, .int .i64 c.prim, .slice Al c.lits.length capl, .slice Au c.units.length capu] 25)).alloc (.cells #[.string ⟨#[]⟩, .int .i64 0, .slice none 0 0, .slice none 0 0] 25)) (.string c.sel) (.int .i64 c.prim) (.slice none 0 0) (.slice none 0 0); rw [World.size_alloc, World.size_alloc] at this; exact this))
  go_enter Tryz.func10, Tryz.ntmps10
  go_wp2_with fail
  generalize ((w.alloc (.cells #[.string c.sel, .int .i64 c.prim, .slice Al c.lits.length capl, .slice Au c.units.length capu] 25)).alloc (.cells #[.string ⟨#[]⟩, .int .i64 0, .slice none 0 0, .slice none 0 0] 25)).alloc (.cells #[.string c.sel, .int .i64 c.prim, .slice none 0 0, .slice none 0 0] 25) = w3 at HZ3 HB3 HC3 HR3 HX3 ⊢
  have hz3 := HZ3.out
  have HN := Lib.hid (Owns.nil w3 w3.heap.size 37 5)
  generalize hq0 : Value.slice none 0 0 = q0 at HN
  have HX3' := Lib.hid (show CodBox w3 (w.heap.size + 1 + 1) (.string c.sel) (.int .i64 c.prim) q0 (.slice none 0 0) from by rw [← hq0]; exact HX3.out)
  go_loopw [4] (fun iv wr => ∃ (k : Nat) (ps : List (Pl.Lit × Value)) (q : Value), iv = .int .i64 k ∧ k ≤ c.lits.length ∧ ps.length = k ∧ ps.map (·.1) = c.lits.take k ∧ Save (fun g => g = (w.heap.size + 1 + 1)) w3 wr ∧ CodBox wr (w.heap.size + 1 + 1) (.string c.sel) (.int .i64 c.prim) q (.slice none 0 0) ∧
      Owns wr w3.heap.size 37 5 q ps.length (rowOf litCells ps) ∧ (∀ (i : Nat) (p : Pl.Lit × Value), ps[i]? = some p → LitsOf (fun g => w3.heap.size ≤ g ∧ q.ownBlock ≠ some g) wr p.1.items p.2)) (fun iv _ => c.lits.length - (RowKit.intOf iv).toNat)
  case atStart => exact ⟨0, [], q0, rfl, Nat.zero_le _, rfl, by simp, Save.refl _ _, HX3'.out, HN.out, by simp⟩
  case round =>
    obtain ⟨k, ps, q, rfl, hk, hpl, hpm, hS, hX, hO, hI⟩ := hrel
    have HS := Lib.hid hS
    have HX := Lib.hid hX
    have HO := Lib.hid hO
    have HI := Lib.hid hI
    have HM := Lib.hid hpm
    have hz := hS.size
    have hbw := HB3.out.trans (hS.below (by omega) (fun j hj => by omega) : Below w.heap.size w3 wr)
    have HBW := Lib.hid hbw
    have c2 := (HC3.out.save hS (show ¬ w.heap.size = (w.heap.size + 1 + 1) by omega)).c2
    have hCl : w.heap.size < wr.heap.size := by omega
    have x2 := hX.c2
    have hXl := hX.lt
    clear hS hX hO hI hpm hbw
    subst hpl
    by_cases hlt : ps.length < c.lits.length
    · have hltI : (ps.length : Int) < (c.lits.length : Int) := by omega
      have hk0 : (0 : Int) ≤ (ps.length : Int) := by omega
      obtain ⟨ba, oa, rfl, hba⟩ := hrowl.some_of hlt
      obtain ⟨x, hx⟩ : ∃ x, c.lits[ps.length]? = some x := ⟨_, List.getElem?_eq_getElem hlt⟩
      obtain ⟨a0, a1, a2, a3, a4⟩ := (hrowl.keep (HBW.out.mono hBw) hBl).lit hx
      obtain ⟨Ay, capy, Vy, hVk, _⟩ := (hrl ps.length x hx).out
      have hv := hrl ps.length x hx
      rw [hVk] at a4 hv
      have hxb := Pl.lits_get_big hx
      have hxi := Pl.items_big x
      have CL := Lib.hid (copyLit_any hv x wr.drew rfl ((HBW.out.mono hBw).drew) hBw (HWL.out x (List.mem_of_getElem? hx)) (by omega))
      have HXX := Lib.hid hx
      have hOb := HO.out.lt
      have HOB := Lib.hid hOb
      have hbal : ba < wr.heap.size := by omega
      unfold litV at CL
      clear hx hVk hv hOb
      go_wp2_with fail
      go_region_law (first
        | (refine step_appL rfl (.tmp 21) (.tmp 28) rfl w3.heap.size _ ps rfl HO10.out (x, .slice A2 x.items.length cap2) rfl _ rfl rfl (by omega) (by omega) ?_
           intro v' w14 ho hg
           obtain ⟨qa, qc, rfl⟩ := ho.form
           have SG : Save (fun g => q.ownBlock = some g) w10 w14 := (Save.refl _ w10).grow hg (fun g hg _ => hg)
           have HX14 := Lib.hid (HX10.out.save SG (fun e => by have := (HOB.out _ e).1; omega))
           have v2 := HX14.out.c2
           have vf := HX14.out.f2
           have vl := HX14.out.lt
           have HV := Lib.hid ho
           have HG := Lib.hid hg
           have SGH := Lib.hid SG
           clear ho hg SG)
        | (go_simp
           go_at_call 26
           refine CL.out.mono ?_
           rintro e w10 ⟨v2', rfl, hl2, hb2⟩
           obtain ⟨A2, cap2, rfl⟩ : ∃ A2 cap2, v2' = .slice A2 x.items.length cap2 := (by cases hl2; exact ⟨_, _, rfl⟩)
           have SB : Save (fun _ => False) wr.drew w10 := Save.none_below hb2
           have HX10 := Lib.hid (HX.out.drew'.save SB (fun f => f))
           have HO10 := Lib.hid (HO.out.drew.save SB (fun _ _ f => f))
           have q2 := HX10.out.c2
           have qf := HX10.out.f2
           have ql := HX10.out.lt
           have hz10 : wr.heap.size ≤ w10.heap.size := SB.size
           have hz310 : w3.heap.size ≤ w10.heap.size := (by omega)
           have qn : ¬ (w.heap.size + 1 + 1) = w10.heap.size := (by omega)
           have HLL := Lib.hid hl2
           have SBH := Lib.hid SB
           clear hl2 hb2 SB))
      all_goals
        have hnew := HV.out.lt
        have HNEW := Lib.hid hnew
        have HNE := Lib.hid (show ∀ g, (Value.slice qa (ps.length + 1) qc).ownBlock = some g → q.ownBlock = some g ∨ w10.heap.size ≤ g from fun g hg => by
          rcases HG.out.2 with e | e
          · exact .inl (e ▸ hg)
          · exact .inr (e g hg))
        clear hnew
        go_wp2_with fail
        go_roundw
        case rel =>
          have SR := (Save.refl (fun g => g = (w.heap.size + 1 + 1)) w14).set ⟨(w.heap.size + 1 + 1), 2, none⟩ (.slice qa (ps.length + 1) qc) (fun _ => rfl)
          have SN := (SGH.out.mono (T := fun g => g = (w.heap.size + 1 + 1) ∨ q.ownBlock = some g) (fun g _ e => .inr e)).trans SR (fun g _ e => .inl e)
          have SO := (((Save.refl (fun g => g = (w.heap.size + 1 + 1) ∨ q.ownBlock = some g) wr).drew).trans SBH.out (fun g _ f => f.elim)).trans SN (fun g _ e => e)
          refine ⟨ps.length + 1, ps ++ [(x, .slice A2 x.items.length cap2)], .slice qa (ps.length + 1) qc, by go_num, by omega, by simp, ?_, HS.out.trans SO (fun g hg e => e.elim id (fun e => by have := (HOB.out g e).1; omega)), HX14.out.set2 _, ?_, ?_⟩
          · rw [List.map_append, HM.out, List.take_add_one, HXX.out]; rfl
          · rw [List.length_append]
            exact HV.out.save SR (fun g hg e => by have := (HNEW.out g hg).1; omega)
          · intro i y hy
            by_cases hi : i < ps.length
            · rw [List.getElem?_append_left hi] at hy
              refine LitsOf.mono (Q := fun g => w3.heap.size ≤ g ∧ (Value.slice qa (ps.length + 1) qc).ownBlock ≠ some g ∧ q.ownBlock ≠ some g) (LitsOf.save ((HI.out i y hy).mono (fun g hg hh => ⟨hh.1, fun e => ?_, hh.2⟩)) SO (fun g hg hh e => ?_)) (fun g _ hh => ⟨hh.1, hh.2.1⟩)
              · rcases HNE.out g e with e' | e'
                · exact hh.2 e'
                · omega
              · rcases e with e | e
                · have := hh.1; omega
                · exact hh.2.2 e
            · rw [List.getElem?_append_right (by omega)] at hy
              have hyy : y = (x, .slice A2 x.items.length cap2) := by
                cases hii : i - ps.length with
                | zero => rw [hii] at hy; simpa using hy.symm
                | succ m => rw [hii] at hy; simp at hy
              subst hyy
              refine LitsOf.mono (Q := fun g => w3.heap.size ≤ g ∧ (Value.slice qa (ps.length + 1) qc).ownBlock ≠ some g ∧ g ≠ (w.heap.size + 1 + 1) ∧ q.ownBlock ≠ some g) (LitsOf.save (HLL.out.mono (fun g hg (hh : wr.heap.size ≤ g) => ?_)) SN (fun g hg hh e => e.elim hh.2.2.1 hh.2.2.2)) (fun g _ hh => ⟨hh.1, hh.2.1⟩)
              have hu : q.ownBlock ≠ some g := fun e => by have := (HOB.out g e).2; omega
              refine ⟨by omega, fun e => ?_, by omega, hu⟩
              rcases HNE.out g e with e' | e'
              · exact hu e'
              · omega
        case measure => simp [RowKit.intOf]; omega
    · have hltI : (c.lits.length : Int) ≤ (ps.length : Int) := by omega
      have hke : ps.length = c.lits.length := by omega
      have hmap : ps.map (·.1) = c.lits := by rw [HM.out, hke, List.take_length]
      obtain ⟨qa, qc, hq⟩ := HO.out.form
      have HLQ := Lib.hid (LitsOf.of_owns (Q := fun g => w3.heap.size ≤ g) HO.out hmap (by omega) (fun g hg => (HO.out.lt g hg).1) HWL.out (fun i y hy => (HI.out i y hy).mono (fun g _ hh => hh.1)))
      rw [hq] at HLQ HX
      have HXl := HX
      obtain ⟨wl, hwl⟩ : ∃ z, z = wr := ⟨wr, rfl⟩
      subst hwl
      clear hke hq x2
      go_wp2_with fail
      have HN2 := Lib.hid (Owns.nil wl wl.heap.size 58 5)
      generalize hq1 : Value.slice none 0 0 = q1 at HN2
      have HX2' := Lib.hid (show CodBox wl (w.heap.size + 1 + 1) (.string c.sel) (.int .i64 c.prim) (.slice qa ps.length qc) q1 from by rw [← hq1]; exact HXl.out)
      go_loopw [5] (fun iv wr => ∃ (k : Nat) (us : List (Pl.Unt × Value)) (V : Value), iv = .int .i64 k ∧ k ≤ c.units.length ∧ us.length = k ∧ us.map (·.1) = c.units.take k ∧ Save (fun g => g = (w.heap.size + 1 + 1)) wl wr ∧ CodBox wr (w.heap.size + 1 + 1) (.string c.sel) (.int .i64 c.prim) (.slice qa ps.length qc) V ∧
          Owns wr wl.heap.size 58 5 V us.length (rowOf untCells us) ∧ (∀ (i : Nat) (y : Pl.Unt × Value), us[i]? = some y → InssOf (fun g => wl.heap.size ≤ g ∧ V.ownBlock ≠ some g) wr y.1.code y.2)) (fun iv _ => c.units.length - (RowKit.intOf iv).toNat)
      case atStart => exact ⟨0, [], q1, rfl, Nat.zero_le _, rfl, by simp, Save.refl _ _, HX2'.out, HN2.out, by simp⟩
      case round =>
        obtain ⟨k, us, V, rfl, hk, hpl, hpm, hS2, hX2, hO2, hI2⟩ := hrel
        have HS2 := Lib.hid hS2
        have HX2 := Lib.hid hX2
        have HO2 := Lib.hid hO2
        have HI2 := Lib.hid hI2
        have HM2 := Lib.hid hpm
        have hz2 := hS2.size
        have hS3 := HS.out.trans hS2 (fun _ _ e => e)
        have HS3 := Lib.hid hS3
        have HBW2 := Lib.hid (HB3.out.trans (hS3.below (by omega) (fun j hj => by omega) : Below w.heap.size w3 wr))
        have c3 := (HC3.out.save hS3 (show ¬ w.heap.size = (w.heap.size + 1 + 1) by omega)).c3
        have hCl2 : w.heap.size < wr.heap.size := by omega
        have x3 := hX2.c3
        have hXl2 := hX2.lt
        clear hS2 hX2 hO2 hI2 hpm hS3 c2
        subst hpl
        by_cases hlt2 : us.length < c.units.length
        · have hlI : (us.length : Int) < (c.units.length : Int) := by omega
          have hk0 : (0 : Int) ≤ (us.length : Int) := by omega
          obtain ⟨bu, ou, rfl, hbb⟩ := hrowu.some_of hlt2
          obtain ⟨u, hu⟩ : ∃ u, c.units[us.length]? = some u := ⟨_, List.getElem?_eq_getElem hlt2⟩
          obtain ⟨e0, e1, e2, e3, e4⟩ := (hrowu.keep (HBW2.out.mono hBw) hBu).unt hu
          have hin := hru us.length u hu
          obtain ⟨Ai, capi, hVk, _⟩ := hru us.length u hu
          rw [hVk] at e4 hin
          have HUU := Lib.hid hu
          have hnn := HNI.out u (List.mem_of_getElem? hu)
          have HIN := Lib.hid (hin.keep ((HBW2.out.mono hBw).alloc (by omega) (.cells #[.int .i64 u.args, .int .i64 u.copied, .int .i64 u.locals, .int .i64 u.stack, .slice Ai u.code.length capi] 58)))
          have hbul : bu < wr.heap.size := by omega
          clear hu hVk hin
          go_wp2_with (at_builtin; go_loud (refine wpList_copyI rfl (.tmp 43) (.tmp 45) rfl hq1.symm HIN.out rfl hnn ?_))
          intro v1 w5 hv1 ho1 hb5
          obtain ⟨A1, k1, rfl⟩ : ∃ A1 k1, v1 = .slice A1 u.code.length k1 := by obtain ⟨A, cap, e, _⟩ := hv1; exact ⟨A, cap, e⟩
          have y0 : w5.cell? ⟨wr.heap.size, 0, none⟩ = some (.int .i64 u.args) := boxCells (hb5.mono (by simp)) rfl
          have y1 : w5.cell? ⟨wr.heap.size, 1, none⟩ = some (.int .i64 u.copied) := boxCells (hb5.mono (by simp)) rfl
          have y2 : w5.cell? ⟨wr.heap.size, 2, none⟩ = some (.int .i64 u.locals) := boxCells (hb5.mono (by simp)) rfl
          have y3 : w5.cell? ⟨wr.heap.size, 3, none⟩ = some (.int .i64 u.stack) := boxCells (hb5.mono (by simp)) rfl
          have y4 : w5.cell? ⟨wr.heap.size, 4, none⟩ = some (.slice Ai u.code.length capi) := boxCells (hb5.mono (by simp)) rfl
          have yf : w5.frozen? ⟨wr.heap.size, 4, none⟩ = false := boxFrozen (hb5.mono (by simp)) 
          have hz5 : wr.heap.size < w5.heap.size := by have := hb5.size; simp at this; omega
          have S5 : Save (fun _ => False) wr w5 := ((Save.refl _ wr).alloc (.cells #[.int .i64 u.args, .int .i64 u.copied, .int .i64 u.locals, .int .i64 u.stack, .slice Ai u.code.length capi] 58)).trans (Save.none_below (by simpa using hb5)) (fun _ _ f => f)
          have HX5 := Lib.hid (HX2.out.save S5 (fun f => f))
          have HO5 := Lib.hid (HO2.out.save S5 (fun _ _ f => f))
          have x35 := HX5.out.c3
          have xf5 := HX5.out.f3
          have xl5 := HX5.out.lt
          have hXn : ¬ (w.heap.size + 1 + 1) = wr.heap.size := by omega
          have HV1 := Lib.hid (hv1.mono (Q' := fun g => wr.heap.size + 1 ≤ g) (fun g _ h => by simpa using h))
          have S5H := Lib.hid S5
          have HO5l := Lib.hid (HO2.out.lt)
          clear hv1 ho1 hb5 S5 e0 e1 e2 e3 e4 x3
          go_wp2_with (at_builtin; go_loud (refine wpList_appU rfl (.tmp 49) (.tmp 51) rfl wl.heap.size _ us rfl (HO5.out.elsewhere (a := ⟨wr.heap.size, 4, none⟩) (.slice A1 u.code.length k1) (fun e => by have := (HO5l.out _ e).2; simp at this)) (u, .slice A1 u.code.length k1) rfl _ rfl ?hx ?hl ?hb ?_))
          case hx => show Value.slice (some ⟨w5.heap.size, 0, none⟩) 1 1 = Value.slice (some ⟨(World.setCell _ _ _).heap.size, 0, none⟩) 1 1; simp
          case hl => omega
          case hb => simp; omega
          intro V1 w7 ho7 hg7
          obtain ⟨va, vc, rfl⟩ := ho7.form
          have hS7 := (((S5H.out.mono (T := fun g => V.ownBlock = some g) (fun _ _ f => f.elim)).set ⟨wr.heap.size, 4, none⟩ (.slice A1 u.code.length k1) (fun e => absurd e (Nat.lt_irrefl _))).grow hg7 (fun g e _ => e))
          have hS57 := (((Save.refl (fun g => g = wr.heap.size ∨ V.ownBlock = some g) w5).set ⟨wr.heap.size, 4, none⟩ (.slice A1 u.code.length k1) (fun _ => .inl rfl)).grow hg7 (fun g e _ => .inr e))
          have HNE2 := Lib.hid (show ∀ g, (Value.slice va (us.length + 1) vc).ownBlock = some g → V.ownBlock = some g ∨ w5.heap.size ≤ g from fun g hg => by
            rcases hg7.2 with e | e
            · exact .inl (e ▸ hg)
            · exact .inr (by simpa using e g hg))
          have HX7 := Lib.hid (HX2.out.save hS7 (fun e => by have := (HO5l.out _ e).1; omega))
          have S7H := Lib.hid hS7
          have S57H := Lib.hid hS57
          have x37 := HX7.out.c3
          have xf7 := HX7.out.f3
          have xl7 := HX7.out.lt
          have HV7 := Lib.hid ho7
          have HNW := Lib.hid ho7.lt
          clear ho7 hg7 hS7 hS57 x35 xf5 xl5 y0 y1 y2 y3 y4 yf
          go_wp2_with fail
          go_roundw
          case rel =>
            have SR := (Save.refl (fun g => g = (w.heap.size + 1 + 1)) w7).set ⟨(w.heap.size + 1 + 1), 3, none⟩ (.slice va (us.length + 1) vc) (fun _ => rfl)
            have SO := (S7H.out.mono (T := fun g => g = (w.heap.size + 1 + 1) ∨ V.ownBlock = some g) (fun g _ e => .inr e)).trans SR (fun g _ e => .inl e)
            have SN := (S57H.out.mono (T := fun g => g = (w.heap.size + 1 + 1) ∨ g = wr.heap.size ∨ V.ownBlock = some g) (fun g _ e => .inr e)).trans SR (fun g _ e => .inl e)
            refine ⟨us.length + 1, us ++ [(u, .slice A1 u.code.length k1)], .slice va (us.length + 1) vc, by go_num, by omega, by simp, ?_, HS2.out.trans SO (fun g hg e => e.elim id (fun e => by have := (HO5l.out g e).1; omega)), HX7.out.set3 _, ?_, ?_⟩
            · rw [List.map_append, HM2.out, List.take_add_one, HUU.out]; rfl
            · rw [List.length_append]
              exact HV7.out.save SR (fun g hg e => by have := (HNW.out g hg).1; omega)
            · intro i y hy
              by_cases hi : i < us.length
              · rw [List.getElem?_append_left hi] at hy
                refine InssOf.mono (Q := fun g => wl.heap.size ≤ g ∧ (Value.slice va (us.length + 1) vc).ownBlock ≠ some g ∧ V.ownBlock ≠ some g) (InssOf.save ((HI2.out i y hy).mono (fun g hg hh => ⟨hh.1, fun e => ?_, hh.2⟩)) SO (fun g hg hh e => ?_)) (fun g _ hh => ⟨hh.1, hh.2.1⟩)
                · rcases HNE2.out g e with e' | e'
                  · exact hh.2 e'
                  · omega
                · rcases e with e | e
                  · have := hh.1; omega
                  · exact hh.2.2 e
              · rw [List.getElem?_append_right (by omega)] at hy
                have hyy : y = (u, .slice A1 u.code.length k1) := by
                  cases hii : i - us.length with
                  | zero => rw [hii] at hy; simpa using hy.symm
                  | succ m => rw [hii] at hy; simp at hy
                subst hyy
                refine InssOf.mono (Q := fun g => wl.heap.size ≤ g ∧ (Value.slice va (us.length + 1) vc).ownBlock ≠ some g ∧ g ≠ (w.heap.size + 1 + 1) ∧ g ≠ wr.heap.size ∧ V.ownBlock ≠ some g) (InssOf.save (HV1.out.mono (fun g hg (hh : wr.heap.size + 1 ≤ g) => ?_)) SN (fun g hg hh e => e.elim hh.2.2.1 (fun e => e.elim hh.2.2.2.1 hh.2.2.2.2))) (fun g _ hh => ⟨hh.1, hh.2.1⟩)
                have hu : V.ownBlock ≠ some g := fun e => by have := (HO5l.out g e).2; omega
                refine ⟨by omega, fun e => ?_, by omega, by omega, hu⟩
                rcases HNE2.out g e with e' | e'
                · exact hu e'
                · omega
          case measure => simp [RowKit.intOf]; omega
        · have hlI : (c.units.length : Int) ≤ (us.length : Int) := by omega
          have hke2 : us.length = c.units.length := by omega
          have hmap2 : us.map (·.1) = c.units := by rw [HM2.out, hke2, List.take_length]
          obtain ⟨va, vc, hqv⟩ := HO2.out.form
          rw [hqv] at HO2 HI2 HX2
          clear hqv x3 hke2
          obtain ⟨x0, x1, x2, x3, _, _, _, _, _⟩ := HX2.out
          obtain ⟨r0, r1, r2, r3, f0, f1, f2, f3, hRl⟩ := HR3.out.save HS3.out (show ¬ w.heap.size + 1 = w.heap.size + 1 + 1 by omega)
          go_wp2_with fail
          refine bodyPost_ret (v := .agg #[.string c.sel, .int .i64 c.prim, .slice qa ps.length qc, .slice va us.length vc]) (by simp [results, Tryz.results10, go_sem, r0, r1, r2, r3]) rfl ?_
          have SE := ((((Save.refl (fun g => g = w.heap.size + 1) wr).set ⟨w.heap.size + 1, 0, none⟩ (.string c.sel) (fun _ => rfl)).set ⟨w.heap.size + 1, 1, none⟩ (.int .i64 c.prim) (fun _ => rfl)).set ⟨w.heap.size + 1, 2, none⟩ (.slice qa ps.length qc) (fun _ => rfl)).set ⟨w.heap.size + 1, 3, none⟩ (.slice va us.length vc) (fun _ => rfl)
          have SA := (HS2.out.mono (T := fun g => g = w.heap.size + 1 ∨ g = w.heap.size + 1 + 1) (fun g _ e => .inr e)).trans SE (fun g _ e => .inl e)
          have hl := HLQ.out.save SA (fun g hg hq e => by rcases e with e | e <;> omega)
          have hu := UntsAt.of_owns (HO2.out.save SE (fun g hg e => by have := (HO2.out.lt g hg).1; omega)) hmap2 (by omega) hwu (fun i x hx => (HI2.out i x hx).save SE (fun g hg hq e => by have := hq.1; omega))
          refine ⟨_, _, rfl, ⟨hl.at, hu, HH.out.s, HH.out.p0, HH.out.p1, Nat.le_refl _⟩, HBW2.out.trans (SE.below (by omega) (fun g hg => by omega))⟩
end Go.Proofs.YtoklnpoacckbfaaGreatDoor
