/- code.Pack. -/
import Derived.Test.YtoklnpoacckbfaaGreatDoorKaam
import Derived.Test.YtoklnpoacckbfaaGreatDoorKabj
namespace Go.Proofs.YtoklnpoacckbfaaGreatDoor
open Go Go.RowKit Go.Lib

theorem wpList_app8 {ops : Array Oper} {rest : List Oper} {o : Oper} {a : Act} {Q : Exit → Act → World → Prop} {w : World} (hgd : o.guard = none) (s x : Operand)
    (ho : o.op = .call { callee := .builtin .append, args := #[s, x], argTypes := #[66, 66] }) (base : Nat) (v : Value) (n : Nat) (l : List Nat) (hs : a.eval s = v) (hown : Owns w base 5 1 v n (nums .u8 l))
    (m : List Nat) (cs : Array Value) (hc : cs.toList = nums .u8 m) (hx : a.eval x = .slice (some ⟨w.heap.size, 0, none⟩) m.length m.length) (hlen : n + m.length ≤ 140737488355328) (hbase : base ≤ w.heap.size)
    (h : ∀ v' w', Owns w' base 5 1 v' (n + m.length) (nums .u8 (l ++ m)) → Grow w v w' v' → wpList Tryz.prog ops Q rest (a.put o.dst v') w') : wpList Tryz.prog ops Q (o :: rest) a (w.alloc (.cells cs 5)) := by
  obtain ⟨i0, hi, hz0, hz1, hz2⟩ := info_parts info_u8
  refine wpList_append_owns hgd s x 66 ho base 5 i0 (.int .u8 0) 1 1 Tryz.underlying66 hi hz0 hz1 hz2 rfl v n (nums .u8 l) hs (hown.alloc _) ⟨w.heap.size, 0, none⟩ m.length m.length (nums .u8 m) hx (by rw [nums_length, Nat.mul_one]) ?_ ?_ (by unfold maxLen; omega) (by omega) (by simp; omega) ?_
  · intro j u hj
    rw [add_plain, Nat.zero_add, World.cell?_alloc_new, ← Array.getElem?_toList, hc]
    exact hj
  · intro u hu
    unfold nums at hu; obtain ⟨x, _, rfl⟩ := List.mem_map.1 hu; rfl
  · intro v' w' ho' hg'
    exact h v' w' (by rw [nums_append]; exact ho') ((Grow.alloc w v _).trans hg')
set_option maxRecDepth 100000 in
set_option maxHeartbeats 4000000 in
theorem pack_bad {B : Nat} {c : Pl.Cod} {L U : Value} (w : World) (h : CodAt B w c L U) (he : ErrAt w) (hEB : 9 < B) (hbig : Pl.litsBig c.lits ≤ 262144) (hck : Pl.check c ≠ 0) :
    Calls Tryz.prog 14 #[codV c L U] w fun e w' => e = .returned (.tuple #[.string ⟨#[]⟩, .int .i64 (Pl.check c : Nat)]) ∧ Below w.heap.size w w' := by
  have hBw := h.b
  have CK := Lib.hid (fun (W : World) (hb : Below w.heap.size w W) => check_any W (h.keep (hb.mono hBw)) (he.keep hb he.1) hEB hbig)
  obtain ⟨Al, capl, Vl, rfl, hBl, hrowl, hwl, hrl⟩ := h.l.out
  obtain ⟨Au, capu, Vu, rfl, hBu, hrowu, hwu, hru⟩ := h.u
  have hck' : ((Pl.check c : Nat) : Int) ≠ 0 := by omega
  generalize Pl.check c = E at CK hck' ⊢
  unfold codV at CK ⊢
  go_enter Tryz.func14, Tryz.ntmps14
  go_wp2_with (go_at_call 11; refine (CK.out _ ((Below.refl _ _).alloc (Nat.le_refl _) _)).mono ?_; rintro e w2 ⟨rfl, hb2⟩)
  go_ret2
  exact ⟨rfl, ((Below.refl _ _).alloc (Nat.le_refl _) _).trans (hb2.mono (by simp))⟩
set_option maxRecDepth 100000 in
set_option maxHeartbeats 4000000 in
theorem pack_ok {B : Nat} {c : Pl.Cod} {L U : Value} (w : World) (h : CodAt B w c L U) (he : ErrAt w) (hEB : 9 < B) (hbig : Pl.litsBig c.lits ≤ 262144) (hck : Pl.check c = 0) :
    Calls Tryz.prog 14 #[codV c L U] w fun e w' => e = .returned (.tuple #[.string (Pl.bs (Pl.enc c.prim c.units)), .int .i64 0]) ∧ Below w.heap.size w w' := by
  have hBw := h.b
  have CK := Lib.hid (fun (W : World) (hb : Below w.heap.size w W) => check_any W (h.keep (hb.mono hBw)) (he.keep hb he.1) hEB hbig)
  have hF := (Pl.check_ok.1 hck).1
  have hS := (Pl.check_ok.1 hck).2.1
  have HF := Lib.hid hF
  have HOKU := Lib.hid (Pl.untOk_of hF hS)
  have HUL := Lib.hid (fun (u : Pl.Unt) (hu : u ∈ c.units) => (Pl.untOk_of hF hS u hu).n)
  have hnu := hF.nu.2
  have hpr := hF.p
  obtain ⟨Al, capl, Vl, rfl, hBl, hrowl, hwl, hrl⟩ := h.l.out
  obtain ⟨Au, capu, Vu, rfl, hBu, hrowu, hwu, hru⟩ := h.u
  rw [hck] at CK
  unfold codV at CK ⊢
  clear hF hS hck
  go_enter Tryz.func14, Tryz.ntmps14
  go_wp2_with (go_at_call 11; refine (CK.out _ ((Below.refl _ _).alloc (Nat.le_refl _) _)).mono ?_; rintro e w2 ⟨rfl, hb2⟩; have d1w : w2.cell? ⟨w.heap.size, 1, none⟩ = some (.int .i64 c.prim) := boxCells (hb2.mono (by simp)) rfl; have d3w : w2.cell? ⟨w.heap.size, 3, none⟩ = some (.slice Au c.units.length capu) := boxCells (hb2.mono (by simp)) rfl; have hl0 : w.heap.size < w2.heap.size := (by have := hb2.size; simp at this; omega); have hl1 : ¬ w.heap.size = w2.heap.size := by omega)
  have HB2 := Lib.hid (show Below w.heap.size w w2 from ((Below.refl _ _).alloc (Nat.le_refl _) _).trans (hb2.mono (by simp)))
  have HO0 := Lib.hid (show Owns (w2.alloc (.cells #[.int .u8 (c.prim % 256), .int .u8 c.units.length] 5)) w2.heap.size 5 1 (.slice (some ⟨w2.heap.size, 0, none⟩) 2 2) (Pl.encTo c 0).length (nums .u8 (Pl.encTo c 0)) from by
    have := Owns.made w2 w2.heap.size 5 1 #[.int .u8 (c.prim % 256), .int .u8 c.units.length] 2 (Nat.le_refl _) (by decide) rfl
    rw [show (#[.int .u8 (c.prim % 256), .int .u8 c.units.length] : Array Value).toList = nums .u8 [Pl.byte c.prim, Pl.byte (c.units.length : Int)] from by
      rw [byte_nums, show (.int .u8 (c.units.length : Int) : Value) = .int .u8 (Pl.byte (c.units.length : Int) : Nat) from by unfold Pl.byte; congr 1; omega]; rfl] at this
    rw [Pl.encTo_zero]
    exact this)
  have HB3 := Lib.hid (show Below w2.heap.size w2 (w2.alloc (.cells #[.int .u8 (c.prim % 256), .int .u8 c.units.length] 5)) from (Below.refl _ _).alloc (Nat.le_refl _) _)
  have hsz3 : w2.heap.size + 1 = (w2.alloc (.cells #[.int .u8 (c.prim % 256), .int .u8 c.units.length] 5)).heap.size := by simp
  clear hb2
  generalize w2.alloc (.cells #[.int .u8 (c.prim % 256), .int .u8 c.units.length] 5) = w3 at HO0 HB3 hsz3 ⊢
  have CELL := Lib.hid (fun (W : World) (hW : Below w2.heap.size w2 W) => show W.cell? ⟨w.heap.size, 1, none⟩ = some (.int .i64 c.prim) ∧ W.cell? ⟨w.heap.size, 3, none⟩ = some (.slice Au c.units.length capu) ∧ Below w.heap.size w W from
    ⟨(hW.cell (p := ⟨w.heap.size, 1, none⟩) hl0).trans d1w, (hW.cell (p := ⟨w.heap.size, 3, none⟩) hl0).trans d3w, HB2.out.trans (hW.mono HB2.out.size)⟩)
  clear d1w d3w
  generalize hq0 : Value.slice (some ⟨w2.heap.size, 0, none⟩) 2 2 = q0 at HO0 ⊢
  clear hq0
  go_loopw [5, 30] (fun q iv wr => ∃ i : Nat, iv = .int .i64 i ∧ i ≤ c.units.length ∧ Owns wr w2.heap.size 5 1 q (Pl.encTo c i).length (nums .u8 (Pl.encTo c i)) ∧ Below w2.heap.size w2 wr) (fun _ iv _ => c.units.length - (RowKit.intOf iv).toNat)
  case atStart => exact ⟨0, rfl, Nat.zero_le _, HO0.out, HB3.out⟩
  case round =>
    obtain ⟨i, rfl, hi, hO, hb⟩ := hrel
    have HOi := Lib.hid hO
    obtain ⟨d1, d3, hbw⟩ := CELL.out wr hb
    have hz := hb.size
    have HBW := Lib.hid hbw
    have HBi := Lib.hid hb
    clear hO hbw hb
    by_cases hlt : i < c.units.length
    · obtain ⟨bu, ou, rfl, hbb⟩ := hrowu.some_of hlt
      obtain ⟨u, hu⟩ : ∃ u, c.units[i]? = some u := ⟨_, List.getElem?_eq_getElem hlt⟩
      have hok := HOKU.out u (List.mem_of_getElem? hu)
      have hltI : (i : Int) < (c.units.length : Int) := by omega
      obtain ⟨Ai, capi, hVk, hBi, hrowi, hwi⟩ := hru i u hu
      obtain ⟨e0, e1, e2, e3, e4⟩ := (hrowu.keep (HBW.out.mono hBw) hBu).unt hu
      rw [hVk] at e4
      have HU := Lib.hid hu
      have hn := hok.n
      have ha := hok.a; have hcp := hok.c; have hll := hok.l; have hss := hok.s
      unfold Pl.InByte at ha hcp hll hss
      have HOK := Lib.hid hok
      have hlen1 := Pl.encTo_len HUL.out i
      clear hu hok
      have hbn : Below w2.heap.size w2 (wr.alloc (.cells #[.int .i64 u.args, .int .i64 u.copied, .int .i64 u.locals, .int .i64 u.stack, .slice Ai u.code.length capi] 58)) := HBi.out.alloc hz _
      have HBN := Lib.hid hbn
      have HOn := Lib.hid (HOi.out.alloc (.cells #[.int .i64 u.args, .int .i64 u.copied, .int .i64 u.locals, .int .i64 u.stack, .slice Ai u.code.length capi] 58))
      clear hbn
      go_wp2_with (at_builtin; go_loud (refine wpList_app8 rfl (.tmp 37) (.tmp 55) rfl w2.heap.size _ _ _ rfl HOn.out (Pl.untHead u) _ ?hc ?hx ?hl (by simp; omega) ?_))
      case hc => unfold nums Pl.untHead Pl.byte; simp; omega
      case hx => show Value.slice (some ⟨wr.heap.size + 1, 0, none⟩) 6 6 = Value.slice (some ⟨(World.alloc _ _).heap.size, 0, none⟩) 6 6; rw [World.size_alloc]
      case hl => show _ + 6 ≤ _; omega
      intro q1 w4 hq1 hg1
      have hb4 := hg1.below2 HOn.out HBN.out (by simp; omega) (Nat.le_refl _)
      have e4' : w4.cell? ⟨wr.heap.size, 4, none⟩ = some (.slice Ai u.code.length capi) := by
        rw [hg1.cell_of (by simp) (HOi.out.not_new (Nat.le_refl _))]; simp [go_sem]
      have hz4 := hb4.size
      have HB4 := Lib.hid hb4
      have HO4 := Lib.hid (show Owns w4 w2.heap.size 5 1 q1 (Pl.encIn c i u 0).length (nums .u8 (Pl.encIn c i u 0)) from by rw [Pl.encIn_zero, List.length_append]; exact hq1)
      clear hq1 hg1 hb4 e0 e1 e2 e3 e4 d1 d3
      go_wp2_with fail
      clear e4'
      go_loopw [5, 60] (fun q iv wr => ∃ k : Nat, iv = .int .i64 k ∧ k ≤ u.code.length ∧ Owns wr w2.heap.size 5 1 q (Pl.encIn c i u k).length (nums .u8 (Pl.encIn c i u k)) ∧ Below w2.heap.size w2 wr) (fun _ iv _ => u.code.length - (RowKit.intOf iv).toNat)
      case atStart => exact ⟨0, rfl, Nat.zero_le _, HO4.out, HB4.out⟩
      case round =>
        obtain ⟨k, rfl, hk, hO, hb⟩ := hrel
        have hbw := HB2.out.trans (hb.mono HB2.out.size)
        have hz5 := hb.size
        by_cases hklt : k < u.code.length
        · have hkI : (k : Int) < (u.code.length : Int) := by omega
          obtain ⟨bi, oi, rfl, hbi⟩ := hrowi.some_of hklt
          obtain ⟨x, hx⟩ : ∃ x, u.code[k]? = some x := ⟨_, List.getElem?_eq_getElem hklt⟩
          obtain ⟨f0, f1, f2⟩ := (hrowi.keep (hbw.mono hBw) hBi).ins hx
          have hxok := HOK.out.i x (List.mem_of_getElem? hx)
          have hop : x.op < 256 := by have := hxok.op; unfold Pl.known at this; omega
          have hopb : Pl.byte (x.op : Int) = x.op := by unfold Pl.byte; omega
          have OF := Lib.hid (of_known x.op hxok.op)
          have HXOK := Lib.hid hxok
          have HX := Lib.hid hx
          have hlen2 := Pl.encIn_len HUL.out i u k
          have HSH := Lib.hid (show Pl.shFirst x.op = (Pl.bytesA x.op : Nat) from by have := hxok.op; unfold Pl.known at this; unfold Pl.shFirst; rw [if_neg (by omega)])
          have HOk := Lib.hid hO
          have HBk := Lib.hid hb
          have hlI : wr.heap.size < (wr.alloc (.cells #[.int .u8 x.op, .int .i64 x.a, .int .i64 x.b] 61)).heap.size := by simp
          have hnI := hO.not_new (Nat.le_refl wr.heap.size)
          clear hx hxok hO hb hbw
          unfold Pl.shapeV at OF
          go_wp2_with (first
            | (go_at_call 35; refine (OF.out _).mono ?_; rintro e w6 ⟨rfl, hb6⟩
               have g0 : w6.cell? ⟨wr.heap.size, 0, none⟩ = some (.int .u8 x.op) := boxCells (hb6.mono (by simp)) rfl
               have g1 : w6.cell? ⟨wr.heap.size, 1, none⟩ = some (.int .i64 x.a) := boxCells (hb6.mono (by simp)) rfl
               have g2 : w6.cell? ⟨wr.heap.size, 2, none⟩ = some (.int .i64 x.b) := boxCells (hb6.mono (by simp)) rfl
               have hz6 : wr.heap.size < w6.heap.size := (by have := hb6.size; simp at this; omega)
               have hz6n : ¬ wr.heap.size = w6.heap.size := by omega
               have HO6 := Lib.hid (((HOk.out.alloc (.cells #[.int .u8 x.op, .int .i64 x.a, .int .i64 x.b] 61)).below hb6 (fun k hk => by have := (HOk.out.lt k hk).2; simp; omega)).alloc (.cells #[.string (Pl.opName x.op), .int .i64 (Pl.shFirst x.op), .bool (Pl.two x.op), .int .i64 (Pl.shOff x.op), .int .i64 (Pl.shLays x.op)] 69))
               have HB6 := Lib.hid (show Below w2.heap.size w2 (w6.alloc (.cells #[.string (Pl.opName x.op), .int .i64 (Pl.shFirst x.op), .bool (Pl.two x.op), .int .i64 (Pl.shOff x.op), .int .i64 (Pl.shLays x.op)] 69)) from ((HBk.out.alloc hz5 (.cells #[.int .u8 x.op, .int .i64 x.a, .int .i64 x.b] 61)).trans (hb6.mono (by simp; omega))).alloc (by omega) _))
            | (at_builtin; refine wpList_app8 rfl (.tmp 70) (.tmp 73) rfl w2.heap.size _ _ _ rfl HO6.out [x.op] _ rfl ?hx ?hl (by simp; omega) ?_))
          case hx => show Value.slice (some ⟨w6.heap.size + 1, 0, none⟩) 1 1 = Value.slice (some ⟨(World.alloc _ _).heap.size, 0, none⟩) 1 1; rw [World.size_alloc]
          case hl => show _ + 1 ≤ _; omega
          intro q2 w8 hq2 hg2
          have hb8 := hg2.below2 HO6.out HB6.out (by simp; omega) (Nat.le_refl _)
          have hnS := HOk.out.not_new (b := w6.heap.size) (by omega)
          have i1 : w8.cell? ⟨wr.heap.size, 1, none⟩ = some (.int .i64 x.a) := by rw [hg2.cell_of (by simp; omega) hnI, World.cell?_alloc_old _ _ _ hz6n]; exact g1
          have i2 : w8.cell? ⟨wr.heap.size, 2, none⟩ = some (.int .i64 x.b) := by rw [hg2.cell_of (by simp; omega) hnI, World.cell?_alloc_old _ _ _ hz6n]; exact g2
          have s1 : w8.cell? ⟨w6.heap.size, 1, none⟩ = some (.int .i64 (Pl.shFirst x.op)) := by rw [hg2.cell_of (by simp) hnS]; simp [go_sem]
          have s2 : w8.cell? ⟨w6.heap.size, 2, none⟩ = some (.bool (Pl.two x.op)) := by rw [hg2.cell_of (by simp) hnS]; simp [go_sem]
          have n8I := hg2.own_of (by simp; omega) hnI
          have n8S := hg2.own_of (by simp) hnS
          rw [HSH.out] at s1
          have hz8 := hb8.size
          have HB8 := Lib.hid hb8
          have HO8 := Lib.hid (show Owns w8 w2.heap.size 5 1 q2 (Pl.encIn c i u k ++ [x.op] ++ Pl.encAt x.a 0).length (nums .u8 (Pl.encIn c i u k ++ [x.op] ++ Pl.encAt x.a 0)) from by
            rw [show Pl.encAt x.a 0 = [] from rfl, List.append_nil, List.length_append]; exact hq2)
          clear hq2 hg2 hb8 f0 f1 f2 hb6 g0 g1 g2
          obtain ⟨wk, hwk⟩ : ∃ z, z = wr := ⟨wr, rfl⟩
          subst hwk
          go_wp2_with fail
          clear s1
          go_loopw [5, 77] (fun q jv wr => ∃ j : Nat, jv = .int .i64 j ∧ j ≤ Pl.bytesA x.op ∧ Owns wr w2.heap.size 5 1 q (Pl.encIn c i u k ++ [x.op] ++ Pl.encAt x.a j).length (nums .u8 (Pl.encIn c i u k ++ [x.op] ++ Pl.encAt x.a j)) ∧ Below w2.heap.size w2 wr ∧
              wr.cell? ⟨wk.heap.size, 1, none⟩ = some (.int .i64 x.a) ∧ wr.cell? ⟨wk.heap.size, 2, none⟩ = some (.int .i64 x.b) ∧ wr.cell? ⟨w6.heap.size, 2, none⟩ = some (.bool (Pl.two x.op)) ∧ q.ownBlock ≠ some wk.heap.size ∧ q.ownBlock ≠ some w6.heap.size) (fun _ jv _ => Pl.bytesA x.op - (RowKit.intOf jv).toNat)
          case atStart => exact ⟨0, rfl, Nat.zero_le _, HO8.out, HB8.out, i1, i2, s2, n8I, n8S⟩
          case round =>
            clear i1 i2 s2 n8I n8S
            obtain ⟨j, rfl, hj, hO, hb, i1, i2, s2, n8I, n8S⟩ := hrel
            have HOj := Lib.hid hO
            have HBj := Lib.hid hb
            have hzj := hb.size
            have hIl : wk.heap.size < wr.heap.size := by simpa using World.block_lt_of_cell? _ _ i1
            have hSl : w6.heap.size < wr.heap.size := by simpa using World.block_lt_of_cell? _ _ s2
            have hjl : (Pl.encIn c i u k ++ [x.op] ++ Pl.encAt x.a j).length ≤ 8 + i * 262146 + k * 4 + 3 := by
              have : (Pl.encAt x.a j).length ≤ 2 := by unfold Pl.encAt; split; simp; split <;> simp
              simp only [List.length_append, List.length_cons, List.length_nil]; omega
            clear hO hb
            by_cases hjlt : j < Pl.bytesA x.op
            · have hjI : (j : Int) < (Pl.bytesA x.op : Int) := by omega
              have hb2 := Pl.bytesA_le x.op
              have ha1 := HXOK.out.a1
              have ha2 := HXOK.out.a2
              unfold Pl.InByte at ha1
              have haI : 0 ≤ x.a ∧ x.a ≤ 65535 := by omega
              obtain ⟨jj, hjj⟩ : ∃ jj : Int, jj = j := ⟨_, rfl⟩
              have hj01 : j = 0 ∨ j = 1 := by omega
              rcases hj01 with rfl | rfl
              · rw [show ((0 : Nat) : Int) = 0 from rfl] at hjI ⊢
                go_wp2_with (at_builtin; go_loud (refine wpList_app8 rfl (.tmp 80) (.tmp 87) rfl w2.heap.size _ _ _ rfl HOj.out [Pl.byte x.a] _ ?hc rfl ?hl hzj ?_))
                case hc => unfold nums Pl.byte; simp; omega
                case hl => show _ + 1 ≤ _; omega
                intro q3 w9 hq3 hg3
                have HB9 := Lib.hid (hg3.below2 HOj.out HBj.out hzj (Nat.le_refl _))
                have HQ3 := Lib.hid (show Owns w9 w2.heap.size 5 1 q3 (Pl.encIn c i u k ++ [x.op] ++ Pl.encAt x.a 0 ++ [Pl.byte x.a]).length (nums .u8 (Pl.encIn c i u k ++ [x.op] ++ Pl.encAt x.a 0 ++ [Pl.byte x.a])) from by simpa [List.append_assoc, Nat.add_assoc] using hq3)
                have HG3 := Lib.hid hg3
                clear hq3 hg3
                go_wp2_with fail
                go_roundw
                case rel =>
                  refine ⟨0 + 1, by go_num, by omega, ?_, HB9.out, ?_, ?_, ?_, HG3.out.own_of hIl n8I, HG3.out.own_of hSl n8S⟩
                  · have e : Pl.encIn c i u k ++ [x.op] ++ Pl.encAt x.a (0 + 1) = Pl.encIn c i u k ++ [x.op] ++ Pl.encAt x.a 0 ++ [Pl.byte x.a] := by rw [List.append_assoc _ (Pl.encAt x.a 0)]; rfl
                    rw [e]; exact HQ3.out
                  · rw [HG3.out.cell_of hIl n8I]; exact i1
                  · rw [HG3.out.cell_of hIl n8I]; exact i2
                  · rw [HG3.out.cell_of hSl n8S]; exact s2
                case measure => simp [RowKit.intOf]; omega
              · rw [show ((1 : Nat) : Int) = 1 from rfl] at hjI ⊢
                go_wp2_with (at_builtin; go_loud (refine wpList_app8 rfl (.tmp 80) (.tmp 87) rfl w2.heap.size _ _ _ rfl HOj.out [Pl.byte (x.a / 256)] _ ?hc rfl ?hl hzj ?_))
                case hc => unfold nums Pl.byte; simp; omega
                case hl => show _ + 1 ≤ _; omega
                intro q3 w9 hq3 hg3
                have HB9 := Lib.hid (hg3.below2 HOj.out HBj.out hzj (Nat.le_refl _))
                have HQ3 := Lib.hid (show Owns w9 w2.heap.size 5 1 q3 (Pl.encIn c i u k ++ [x.op] ++ Pl.encAt x.a 1 ++ [Pl.byte (x.a / 256)]).length (nums .u8 (Pl.encIn c i u k ++ [x.op] ++ Pl.encAt x.a 1 ++ [Pl.byte (x.a / 256)])) from by simpa [List.append_assoc, Nat.add_assoc] using hq3)
                have HG3 := Lib.hid hg3
                clear hq3 hg3
                go_wp2_with fail
                go_roundw
                case rel =>
                  refine ⟨1 + 1, by go_num, by omega, ?_, HB9.out, ?_, ?_, ?_, HG3.out.own_of hIl n8I, HG3.out.own_of hSl n8S⟩
                  · have e : Pl.encIn c i u k ++ [x.op] ++ Pl.encAt x.a (1 + 1) = Pl.encIn c i u k ++ [x.op] ++ Pl.encAt x.a 1 ++ [Pl.byte (x.a / 256)] := by rw [List.append_assoc _ (Pl.encAt x.a 1)]; rfl
                    rw [e]; exact HQ3.out
                  · rw [HG3.out.cell_of hIl n8I]; exact i1
                  · rw [HG3.out.cell_of hIl n8I]; exact i2
                  · rw [HG3.out.cell_of hSl n8S]; exact s2
                case measure => simp [RowKit.intOf]; omega
            · have hjI : (Pl.bytesA x.op : Int) ≤ (j : Int) := by omega
              have hje : j = Pl.bytesA x.op := by omega
              rw [hje, Pl.encAt_all] at HOj hjl
              have HSTEP := Lib.hid (Pl.encIn_step (c := c) (i := i) HX.out)
              clear hje
              cases htw : Pl.two x.op
              · rw [htw] at s2
                have HE := Lib.hid (show Pl.encIn c i u (k + 1) = Pl.encIn c i u k ++ [x.op] ++ Pl.encA x.op x.a from by
                  rw [HSTEP.out]; unfold Pl.encIns Pl.encB; rw [htw, hopb]; simp)
                clear htw
                go_wp2_with fail
                go_roundw
                case rel => exact ⟨k + 1, by go_num, by omega, by rw [HE.out]; exact HOj.out, HBj.out⟩
                case measure => simp [RowKit.intOf]; omega
              · rw [htw] at s2
                have HE := Lib.hid (show Pl.encIn c i u (k + 1) = Pl.encIn c i u k ++ [x.op] ++ Pl.encA x.op x.a ++ [Pl.byte x.b] from by
                  rw [HSTEP.out]; unfold Pl.encIns Pl.encB; rw [htw, hopb]; simp)
                have hbb1 := HXOK.out.b1 htw
                unfold Pl.InByte at hbb1
                clear htw
                go_wp2_with (at_builtin; go_loud (refine wpList_app8 rfl (.tmp 92) (.tmp 96) rfl w2.heap.size _ _ _ rfl HOj.out [Pl.byte x.b] _ ?hc rfl ?hl hzj ?_))
                case hc => unfold nums Pl.byte; simp; omega
                case hl => show _ + 1 ≤ _; omega
                intro q3 w9 hq3 hg3
                have HB9 := Lib.hid (hg3.below2 HOj.out HBj.out hzj (Nat.le_refl _))
                have HQ3 := Lib.hid (show Owns w9 w2.heap.size 5 1 q3 (Pl.encIn c i u k ++ [x.op] ++ Pl.encA x.op x.a ++ [Pl.byte x.b]).length (nums .u8 (Pl.encIn c i u k ++ [x.op] ++ Pl.encA x.op x.a ++ [Pl.byte x.b])) from by simpa [List.append_assoc, Nat.add_assoc] using hq3)
                clear hq3 hg3
                go_wp2_with fail
                go_roundw
                case rel => exact ⟨k + 1, by go_num, by omega, by rw [HE.out]; exact HQ3.out, HB9.out⟩
                case measure => simp [RowKit.intOf]; omega
        · have hkI : (u.code.length : Int) ≤ (k : Int) := by omega
          have hke : k = u.code.length := by omega
          rw [hke, Pl.encIn_all HU.out] at hO
          have HOk := Lib.hid hO
          have HBk := Lib.hid hb
          clear hO hb hbw hke
          go_wp2_with fail
          go_roundw
          case rel => exact ⟨i + 1, by go_num, by omega, HOk.out, HBk.out⟩
          case measure => simp [RowKit.intOf]; omega
    · have hltI : (c.units.length : Int) ≤ (i : Int) := by omega
      have hie : i = c.units.length := by omega
      rw [hie, Pl.encTo_all] at HOi
      have hcv := run_string_of_owns (P := Tryz.prog) 66 9 Tryz.underlying66 Tryz.underlying5 Tryz.underlying9 (l := (Pl.enc c.prim c.units).map UInt8.ofNat) (by rw [← nums_bs (Pl.enc_lt _ _)]; exact HOi.out)
      clear hie
      go_wp2_with fail
      go_ret2
      exact ⟨rfl, HBW.out⟩
theorem pack_any {B : Nat} {c : Pl.Cod} {L U : Value} (w : World) (h : CodAt B w c L U) (he : ErrAt w) (hEB : 9 < B) (hbig : Pl.litsBig c.lits ≤ 262144) :
    Calls Tryz.prog 14 #[codV c L U] w fun e w' => e = .returned (.tuple #[.string (packS c), .int .i64 (Pl.check c : Nat)]) ∧ Below w.heap.size w w' := by
  by_cases hck : Pl.check c = 0
  · unfold packS; rw [if_pos hck, hck]; exact pack_ok w h he hEB hbig hck
  · unfold packS; rw [if_neg hck]; exact pack_bad w h he hEB hbig hck
end Go.Proofs.YtoklnpoacckbfaaGreatDoor
