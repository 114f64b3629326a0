/- The document's fits. -/
import Derived.Test.YtoklnpoacckbfaaGreatDoorKaam
import Derived.Test.YtoklnpoacckbfaaGreatDoorKaan
import Derived.Test.YtoklnpoacckbfaaGreatDoorKaai
import Derived.Deep.LoopGhost
import Derived.Deep.CutRange
namespace Go.Proofs.YtoklnpoacckbfaaGreatDoor
open Go Go.RowKit Go.Lib
theorem Pl.InsOk.bounds {x : Pl.Ins} (h : Pl.InsOk x) : (0 ≤ x.a ∧ x.a ≤ 65535) ∧ (0 ≤ x.b ∧ x.b ≤ 255) := by
  have hb := Pl.bytesA_le x.op
  constructor
  · rcases hb with h0 | h0 | h0
    · have := h.a0 h0; omega
    · have := h.a1 h0; unfold Pl.InByte at this; omega
    · exact h.a2 h0
  · cases ht : Pl.two x.op
    · have := h.b0 ht; omega
    · have := h.b1 ht; unfold Pl.InByte at this; omega
theorem Pl.off_bounds {x : Pl.Ins} (h : Pl.InsOk x) : 0 ≤ Pl.off x ∧ Pl.off x ≤ 65536 := by
  obtain ⟨⟨a0, a1⟩, ⟨b0, b1⟩⟩ := h.bounds
  unfold Pl.off; split
  · omega
  · split
    · omega
    · split
      · omega
      · split <;> omega
def jumpsB (x : Pl.Ins) : Bool := decide (18 ≤ x.op ∧ x.op ≤ 20)
def goesB (x : Pl.Ins) : Bool := decide (x.op ≠ 18 ∧ x.op ≠ 21 ∧ x.op ≠ 22)
theorem info_int : (Tryz.prog.info? 3).map (fun i => (i.zero, i.size, i.bytes)) = some (some (.int .i64 0), 1, 8) := by kernel_rfl
def FitRel (y : Pl.Unt) (G B0 : Nat) (W1 : World) (n : Nat) (p q : Value) (wr : World) : Prop :=
  ∃ (hs t : List Nat) (most : Int), Pl.Inv y.code y.stack hs (fun q => q ∈ t) most ∧ hs.count 0 + t.length ≤ n ∧ q = .int .i64 most ∧ most ≤ 252 ∧ Owns wr B0 3 1 p t.length (nums .i64 t) ∧
    Owns wr B0 3 1 (.slice (some ⟨G, 0, none⟩) y.code.length y.code.length) y.code.length (nums .i64 hs) ∧ p.ownBlock ≠ some G ∧ Below B0 W1 wr ∧ n ≤ y.code.length
set_option maxRecDepth 100000 in
set_option maxHeartbeats 4000000 in
theorem rfits_any {B : Nat} (w : World) (y : Pl.Unt) (hf : Pl.UntForm y) (hok : ∀ x ∈ y.code, Pl.InsOk x) (V : Value) (hV : InssAt B w y.code V) (hBw : B ≤ w.heap.size) :
    Calls Tryz.prog 34 #[untV y V] w fun e w' => e = .returned (.bool (Pl.fitsB y)) ∧ Below w.heap.size w w' := by
  obtain ⟨i0, hi, hz0, hz1, hz2⟩ := info_parts info_int
  have hst := hf.s
  obtain ⟨_, _, _, _, ⟨fs0, fs1⟩, fn0, fn1⟩ := hf
  obtain ⟨Ay, capy, rfl, hBy, hrowy, hwy⟩ := hV
  unfold untV
  have hlenI : (0 : Int) < (y.code.length : Int) := by omega
  go_enter Tryz.func34, Tryz.ntmps34
  go_wp2_with (at_make; refine wpList_make_full _ rfl _ _ 115 rfl (w.heap.size + 1) 3 i0 (.int .i64 0) 1 Tryz.underlying115 hi hz0 hz1 .i64 .i64 _ _ y.code.length rfl rfl (by omega) (by omega) (by rw [hz2]; omega) (by unfold maxLen; omega) (by simp) ?_)
  intro w1 ho1 hg1
  have hO1 : Owns w1 (w.heap.size + 1) 3 1 (.slice (some ⟨w.heap.size + 1, 0, none⟩) y.code.length y.code.length) y.code.length (nums .i64 (List.replicate y.code.length 0)) := by
    have := Owns.of_row ho1
    rw [← nums_made]; exact this
  have hB1 : Below (w.heap.size + 1) (w.alloc (.cells #[.int .i64 y.args, .int .i64 y.copied, .int .i64 y.locals, .int .i64 y.stack, .slice Ay y.code.length capy] 58)) w1 := (Below.refl _ _).grown hg1 (by simp) (fun k hk => by cases hk)
  have hz1' := hB1.size
  rw [World.size_alloc] at hz1'
  have hgb := (hO1.lt _ rfl).2
  have d0 : w1.cell? ⟨w.heap.size + 1, 0, none⟩ = some (.int .i64 0) := hO1.cellAt (nums_at .i64 (by rw [List.getElem?_replicate, if_pos (by omega)]))
  have df : w1.frozen? ⟨w.heap.size + 1, 0, none⟩ = false := hO1.free (by omega)
  have HO1 := Lib.hid hO1
  have HB1 := Lib.hid hB1
  clear ho1 hg1 hO1 hB1
  go_wp2_with fail
  obtain ⟨W1, hW1⟩ : ∃ W1, (w1.setCell ⟨w.heap.size + 1, 0, none⟩ (.int .i64 1)).alloc (.cells #[.int .i64 0] 3) = W1 := ⟨_, rfl⟩
  have hsz1 : (w1.setCell ⟨w.heap.size + 1, 0, none⟩ (.int .i64 1)).heap.size = w1.heap.size := by simp
  have HOh := Lib.hid (show Owns W1 (w.heap.size + 1) 3 1 (.slice (some ⟨w.heap.size + 1, 0, none⟩) y.code.length y.code.length) y.code.length (nums .i64 ((List.replicate y.code.length 0).set 0 1)) by
    rw [← hW1, ← nums_set]; exact (HO1.out.stored _).alloc _)
  have HOt := Lib.hid (show Owns W1 (w.heap.size + 1) 3 1 (.slice (some ⟨w1.heap.size, 0, none⟩) 1 1) 1 (nums .i64 [0]) by
    have := Owns.made (w1.setCell ⟨w.heap.size + 1, 0, none⟩ (.int .i64 1)) (w.heap.size + 1) 3 1 #[.int .i64 0] 1 (by rw [hsz1]; omega) (by decide) rfl
    rw [hsz1, hW1] at this
    exact this)
  have HBW := Lib.hid (show Below (w.heap.size + 1) (w.alloc (.cells #[.int .i64 y.args, .int .i64 y.copied, .int .i64 y.locals, .int .i64 y.stack, .slice Ay y.code.length capy] 58)) W1 by
    rw [← hW1]; exact (HB1.out.setCell (p := ⟨w.heap.size + 1, 0, none⟩) (Nat.le_refl _) _).alloc (by rw [hsz1]; omega) _)
  have HST := Lib.hid (Pl.Inv.start (l := y.code) (st := y.stack) fs0 (by omega))
  have hzW : w.heap.size + 1 ≤ W1.heap.size := by rw [← hW1]; simp; omega
  have hne : ((Value.slice (some ⟨w1.heap.size, 0, none⟩) 1 1).ownBlock ≠ some (w.heap.size + 1)) := by simp [Value.ownBlock]; omega
  have HNE := Lib.hid hne
  rw [hW1]
  clear hW1 HO1 HB1 d0 df hne
  go_loopg [4, 5] (y.code.length) (fun n p q wr => FitRel y (w.heap.size + 1) (w.heap.size + 1) W1 n p q wr)
  case atStart =>
    refine ⟨_, [0], 0, HST.out.congr (fun q => by simp), ?_, rfl, by omega, HOt.out, HOh.out, HNE.out, Below.refl _ _, Nat.le_refl _⟩
    have := Pl.count_set (hs := List.replicate y.code.length 0) (k := 0) (v := 1) (by simp; omega) (Pl.getD_replicate _ _) (by decide)
    simp at this ⊢; omega
  case round =>
    obtain ⟨hs, t, most, hI, hcnt, rfl, hm252, hOt, hOh, hnG, hb, hgl⟩ := hrel
    have hbb := (HBW.out.trans hb)
    have c3 : wr.cell? ⟨w.heap.size, 3, none⟩ = some (.int .i64 y.stack) := boxCells hbb rfl
    have c4 : wr.cell? ⟨w.heap.size, 4, none⟩ = some (.slice Ay y.code.length capy) := boxCells hbb rfl
    have hbw : Below w.heap.size w wr := ((Below.refl _ _).alloc (Nat.le_refl _) _).trans (hbb.mono (by omega))
    have hzr := hb.size
    rcases List.eq_nil_or_concat t with rfl | ⟨t', p, rfl⟩
    · obtain ⟨a, cc, rfl⟩ := hOt.form
      have HE := Lib.hid (Pl.fitsB_end (u := y) hI)
      clear hI
      go_wp2_with fail
      all_goals
        go_ret
        exact ⟨ret_bool (by first | (rw [HE.out]; done) | (rw [HE.out, Bool.eq_iff_iff]; simp; done) | (rw [HE.out, Bool.eq_iff_iff]; simp; omega)), hbw⟩
    · have hI' := hI
      rw [List.concat_eq_append] at hI' hcnt hOt
      have htl : (t' ++ [p]).length = t'.length + 1 := by simp
      rw [htl] at hOt hcnt
      obtain ⟨n, rfl⟩ : ∃ n, gk = n + 1 := ⟨gk - 1, by omega⟩
      have hV := hI'.pop (n := n) (by rw [htl]; exact hcnt)
      obtain ⟨g, cap, rfl, hg1, hg2, hcap⟩ := hOt.some_of (by omega)
      have ct : wr.cell? ⟨g, t'.length, none⟩ = some (.int .i64 p) := hOt.cellAt (nums_at .i64 (by simp))
      obtain ⟨hN, hhN⟩ : ∃ hN : Nat, Pl.ht hs p = hN := ⟨(Pl.ht hs p).toNat, by have := hV.h0; omega⟩
      rw [hhN] at hV
      have hch : wr.cell? ⟨w.heap.size + 1, p, none⟩ = some (.int .i64 (hN + 1 : Nat)) := hOh.cellAt (nums_at .i64 (by have := hV.cell; rwa [show ((hN : Int)).toNat = hN by omega] at this))
      have hplt := hV.lt
      have hh250 := hV.h250
      have htlen : t'.length ≤ y.code.length := by omega
      obtain ⟨bc, oc, rfl, hbc⟩ := hrowy.some_of hplt
      obtain ⟨x, hx⟩ : ∃ x, y.code[p]? = some x := ⟨_, List.getElem?_eq_getElem hplt⟩
      obtain ⟨e0, e1, e2⟩ := (hrowy.keep (hbw.mono hBw) hBy).ins hx
      have hins : Pl.ins y.code p = x := by unfold Pl.ins; rw [List.getD_eq_getElem?_getD, hx]; rfl
      have hxw := hwy x (List.mem_of_getElem? hx)
      have hxo := hok x (List.mem_of_getElem? hx)
      obtain ⟨⟨xa0, xa1⟩, ⟨xb0, xb1⟩⟩ := hxo.bounds
      obtain ⟨of0, of1⟩ := Pl.off_bounds hxo
      obtain ⟨la0, la1⟩ := Pl.lays_bd x
      have hop := hxo.op
      unfold Pl.known at hop
      have HV := Lib.hid hV
      have HPOP := Lib.hid (show Owns wr (w.heap.size + 1) 3 1 (.slice (some ⟨g, 0, none⟩) t'.length cap) t'.length (nums .i64 t') from Owns.pop (last := nums .i64 [p]) (by rw [nums_length, Nat.mul_one]) (by rw [← nums_append]; exact hOt))
      have HOH := Lib.hid hOh
      have HINS := Lib.hid hins
      have HMV := Lib.hid (moves_any x hxw (by omega))
      have hgG : g ≠ w.heap.size + 1 := by intro e; subst e; exact hnG rfl
      have hpI : (p : Int) < (y.code.length : Int) := by omega
      have htI : ((t'.length : Int)) < (t'.length : Int) + 1 := by omega
      unfold insV at HMV
      clear hI hI' hV hOt hOh hins hnG hx hxo hxw hhN
      go_upto_region 10 with (go_at_call 69; refine (HMV.out _).mono ?_; rintro e w5 ⟨rfl, hb5⟩)
      have hb25 : Below wr.heap.size wr w5 := ((Below.refl _ _).alloc (Nat.le_refl _) _).trans (hb5.mono (by simp))
      have hz5 := hb5.size
      rw [World.size_alloc] at hz5
      have x0 : w5.cell? ⟨wr.heap.size, 0, none⟩ = some (.int .u8 x.op) := boxCells (hb5.mono (by simp)) rfl
      have x1 : w5.cell? ⟨wr.heap.size, 1, none⟩ = some (.int .i64 x.a) := boxCells (hb5.mono (by simp)) rfl
      have hch5 : w5.cell? ⟨w.heap.size + 1, p, none⟩ = some (.int .i64 (hN + 1 : Nat)) := by rw [hb25.cell (p := ⟨w.heap.size + 1, p, none⟩) (by simp; omega)]; exact hch
      have HPOP5 := Lib.hid (HPOP.out.below hb25 (fun k hk => by simp [Value.ownBlock] at hk; omega))
      have HOH5 := Lib.hid (HOH.out.below hb25 (fun k hk => by simp [Value.ownBlock] at hk; omega))
      have HB5 := Lib.hid (hb.trans (hb25.mono (by omega)))
      have HBW5 := Lib.hid (hbw.trans (hb25.mono (by omega)))
      have HLOW := Lib.hid (fun h => Pl.fitsB_no (u := y) (HV.out.low h))
      have hmle := HV.out.le
      obtain ⟨OF, hOF⟩ : ∃ OF, Pl.off x = OF := ⟨_, rfl⟩
      obtain ⟨LA, hLA⟩ : ∃ LA, Pl.lays x = LA := ⟨_, rfl⟩
      rw [hOF] at of0 of1 ⊢
      rw [hLA] at la0 la1 ⊢
      by_cases hlow : (hN : Int) < OF
      · have HB := Lib.hid (HLOW.out (by rw [HINS.out, hOF]; exact hlow))
        clear hOF hLA
        go_wp2_with fail
        go_ret
        exact ⟨ret_bool (by rw [HB.out]), HBW5.out⟩
      · have hlow' : Pl.off x ≤ hN := by rw [hOF]; omega
        have hlow2 : OF ≤ (hN : Int) := by omega
        obtain ⟨NW, hNW⟩ : ∃ NW : Int, (hN : Int) - OF + LA = NW := ⟨_, rfl⟩
        have nw0 : 0 ≤ NW := by omega
        have nw2 : NW ≤ 252 := by omega
        have HNOW := Lib.hid (show Pl.now y.code p hN = NW by unfold Pl.now; rw [HINS.out, hOF, hLA, hNW])
        have HVM := Lib.hid (show Pl.Vis y.code y.stack p hN hs t' (max most NW) n by have := HV.out.raise; rwa [HNOW.out] at this)
        have hmx : max most NW = if most < NW then NW else most := by
          by_cases e : most < NW
          · rw [if_pos e]; exact Int.max_eq_right (by omega)
          · rw [if_neg e]; exact Int.max_eq_left (by omega)
        have hmx2 : max most NW ≤ 252 := by rw [hmx]; split <;> omega
        have hfoli : ∀ k, Pl.Follows y.code p k ↔ (Pl.GoesOn x ∧ k = p + 1 ∨ Pl.Jumps x ∧ k = x.a.toNat) := fun k => by unfold Pl.Follows; rw [HINS.out]
        have HFO := Lib.hid hfoli
        obtain ⟨A, hA⟩ : ∃ A : Nat, x.a = A := ⟨x.a.toNat, by omega⟩
        rw [hA] at x1 xa1
        have HA := Lib.hid hA
        have HMX := Lib.hid hmx
        clear hOF hLA hb5 hb25 hb hbw hA xa0 hmx hfoli
        go_upto_region 14 with (fail)
        clear hNW
        go_upto_if 66 with (fail)
        go_cut [5] from 23 to 153 (fun q wx => q = .int .i64 (max most NW) ∧ wx = w5)
        case first =>
          by_cases hmn : most < NW
          · go_wp2_with fail
            go_meet
            case rel => exact ⟨by rw [Int.max_eq_right (by omega)], rfl⟩
          · have hmn2 : NW ≤ most := by omega
            go_wp2_with fail
            go_meet
            case rel => exact ⟨by rw [Int.max_eq_left (by omega)], rfl⟩
        case rest =>
        obtain ⟨rfl, rfl⟩ := hcut
        have hcls : x.op = 18 ∨ x.op = 19 ∨ x.op = 20 ∨ x.op = 21 ∨ x.op = 22 ∨ (x.op ≠ 18 ∧ x.op ≠ 19 ∧ x.op ≠ 20 ∧ x.op ≠ 21 ∧ x.op ≠ 22) := by omega
        go_upto_region 19 with (fail)
        go_cut [13] from 23 to 153 (fun q wx => q = .bool (jumpsB x) ∧ wx = wc)
        case first =>
          rcases hcls with hc | hc | hc | hc | hc | ⟨hc1, hc2, hc3, hc4, hc5⟩
          · rw [hc] at x0
            go_wp2_with fail
            go_meet
            case rel => exact ⟨by unfold jumpsB; rw [hc]; rfl, rfl⟩
          · rw [hc] at x0
            go_wp2_with fail
            go_meet
            case rel => exact ⟨by unfold jumpsB; rw [hc]; rfl, rfl⟩
          · rw [hc] at x0
            go_wp2_with fail
            go_meet
            case rel => exact ⟨by unfold jumpsB; rw [hc]; rfl, rfl⟩
          · rw [hc] at x0
            go_wp2_with fail
            go_meet
            case rel => exact ⟨by unfold jumpsB; rw [hc]; rfl, rfl⟩
          · rw [hc] at x0
            go_wp2_with fail
            go_meet
            case rel => exact ⟨by unfold jumpsB; rw [hc]; rfl, rfl⟩
          · have q1 : ((x.op : Int) == 18) = false := by simp; omega
            have q2 : ((x.op : Int) == 19) = false := by simp; omega
            have q3 : ((x.op : Int) == 20) = false := by simp; omega
            have hj : jumpsB x = false := by unfold jumpsB; simp; omega
            go_wp2_with fail
            go_meet
            case rel => exact ⟨by rw [hj], rfl⟩
        case rest =>
        obtain ⟨rfl, rfl⟩ := hcut
        rename_i wc1
        go_upto_region 20 with (fail)
        go_cut [93] from 23 to 153 (fun q wx => q = .bool (goesB x) ∧ wx = wc)
        case first =>
          rcases hcls with hc | hc | hc | hc | hc | ⟨hc1, hc2, hc3, hc4, hc5⟩
          · rw [hc] at x0
            go_wp2_with fail
            go_meet
            case rel => exact ⟨by unfold goesB; rw [hc]; rfl, rfl⟩
          · rw [hc] at x0
            go_wp2_with fail
            go_meet
            case rel => exact ⟨by unfold goesB; rw [hc]; rfl, rfl⟩
          · rw [hc] at x0
            go_wp2_with fail
            go_meet
            case rel => exact ⟨by unfold goesB; rw [hc]; rfl, rfl⟩
          · rw [hc] at x0
            go_wp2_with fail
            go_meet
            case rel => exact ⟨by unfold goesB; rw [hc]; rfl, rfl⟩
          · rw [hc] at x0
            go_wp2_with fail
            go_meet
            case rel => exact ⟨by unfold goesB; rw [hc]; rfl, rfl⟩
          · have q1 : ((x.op : Int) != 18) = true := by simp; omega
            have q2 : ((x.op : Int) != 21) = true := by simp; omega
            have q3 : ((x.op : Int) != 22) = true := by simp; omega
            have hj : goesB x = true := by unfold goesB; simp; omega
            go_wp2_with fail
            go_meet
            case rel => exact ⟨by rw [hj], rfl⟩
        case rest =>
        obtain ⟨rfl, rfl⟩ := hcut
        obtain ⟨W5, hW5⟩ : ∃ z, z = wc := ⟨wc, rfl⟩
        subst hW5
        go_upto_if 93 with (fail)
        go_cut [12] from 23 to 153 (fun N wx => ∃ nx : List Nat, (∀ k, k ∈ nx ↔ goesB x = true ∧ k = p + 1) ∧ nx.length ≤ 1 ∧ Owns wx (w.heap.size + 1) 3 1 N nx.length (nums .i64 nx) ∧ (∀ b, N.ownBlock = some b → W5.heap.size ≤ b) ∧ Below W5.heap.size W5 wx)
        case first =>
          cases hg : goesB x
          · go_wp2_with fail
            go_meet
            case rel => exact ⟨[], by simp [hg], by simp, Owns.nil _ _ _ _, by simp [Value.ownBlock], Below.refl _ _⟩
          · go_wp2_with (at_builtin; refine wpList_append_owns rfl (.tmp 94) (.tmp 97) 115 rfl (w.heap.size + 1) 3 i0 (.int .i64 0) 1 8 Tryz.underlying115 hi hz0 hz1 hz2 rfl _ _ _ rfl ((Owns.nil W5 (w.heap.size + 1) 3 1).alloc _) ⟨W5.heap.size, 0, none⟩ 1 1 [.int .i64 ((p : Int) + 1)] rfl rfl (one_new _ _ _) (by intro u hu; simp at hu; subst hu; rfl) (by unfold maxLen; first | omega | (simp; done) | (simp; omega)) (by first | omega | (simp; done) | (simp; omega)) (by first | omega | (simp; done) | (simp; omega)) ?_)
            intro N1 w6 hN1o hN1g
            have hz6 := hN1g.1.size
            simp at hz6
            have hb5n : Below W5.heap.size W5 w6 := hN1g.below ((Below.refl _ _).alloc (Nat.le_refl _) _) (by simp) (fun b hb => by simp [Value.ownBlock] at hb)
            have hN1b : ∀ b, N1.ownBlock = some b → W5.heap.size ≤ b := by
              intro b hb
              rcases hN1g.2 with e | e
              · rw [e] at hb; simp [Value.ownBlock] at hb
              · have := e b hb; simp at this; omega
            have HN1O := Lib.hid hN1o
            obtain ⟨a1, c1x, rfl⟩ := hN1o.form
            clear hN1o hN1g
            go_wp2_with fail
            go_meet
            case rel => exact ⟨[p + 1], by simp [hg], by simp, HN1O.out, hN1b, hb5n⟩
        case rest =>
        obtain ⟨nx1, hnx1, hnl1, hNO1, hNb1, hbe1⟩ := hcut
        obtain ⟨na1, nc1, rfl⟩ := hNO1.form
        obtain ⟨W6, hW6⟩ : ∃ z, z = wc := ⟨wc, rfl⟩
        subst hW6
        have x1n : W6.cell? ⟨wr.heap.size, 1, none⟩ = some (.int .i64 A) := by rw [hbe1.cell (p := ⟨wr.heap.size, 1, none⟩) (by simp; omega)]; exact x1
        have hz56 := hbe1.size
        have HNO1 := Lib.hid hNO1
        have HNX1 := Lib.hid hnx1
        have HNB1 := Lib.hid hNb1
        have HBE1 := Lib.hid hbe1
        clear hNO1 hnx1 hNb1 hbe1
        go_upto_if 99 with (fail)
        go_cut [12, 13] from 23 to 153 (fun N J wx => J = .bool (jumpsB x) ∧ ∃ nx : List Nat, (∀ k, Pl.Follows y.code p k ↔ k ∈ nx) ∧ nx.length ≤ 2 ∧ Owns wx (w.heap.size + 1) 3 1 N nx.length (nums .i64 nx) ∧ (∀ b, N.ownBlock = some b → W5.heap.size ≤ b) ∧ Below W5.heap.size W5 wx)
        case first =>
          cases hj : jumpsB x
          · go_wp2_with fail
            go_meet
            case rel =>
              refine ⟨by rw [hj], nx1, ?_, by omega, HNO1.out, HNB1.out, HBE1.out⟩
              intro k
              rw [HFO.out, HNX1.out]
              unfold Pl.GoesOn Pl.Jumps goesB
              unfold jumpsB at hj
              simp at hj ⊢
              omega
          · go_wp2_with (at_builtin; refine wpList_append_owns rfl (.tmp 100) (.tmp 103) 115 rfl (w.heap.size + 1) 3 i0 (.int .i64 0) 1 8 Tryz.underlying115 hi hz0 hz1 hz2 rfl _ _ _ rfl (HNO1.out.alloc _) ⟨W6.heap.size, 0, none⟩ 1 1 [.int .i64 (A : Nat)] rfl rfl (one_new _ _ _) (by intro u hu; simp at hu; subst hu; rfl) (by unfold maxLen; first | omega | (simp; done) | (simp; omega)) (by first | omega | (simp; done) | (simp; omega)) (by first | omega | (simp; done) | (simp; omega)) ?_)
            intro N2 w7 hN2o hN2g
            have hz7 := hN2g.1.size
            simp at hz7
            have hb5n : Below W5.heap.size W5 w7 := HBE1.out.trans ((hN2g.below ((Below.refl W5.heap.size W6).alloc (by omega) _) (by simp; omega) (fun b hb => HNB1.out b hb)))
            have hN2b : ∀ b, N2.ownBlock = some b → W5.heap.size ≤ b := by
              intro b hb
              rcases hN2g.2 with e | e
              · rw [e] at hb; exact HNB1.out b hb
              · have := e b hb; simp at this; omega
            have HN2O := Lib.hid hN2o
            obtain ⟨a2, c2x, rfl⟩ := hN2o.form
            clear hN2o hN2g
            go_wp2_with fail
            go_meet
            case rel =>
              refine ⟨by rw [hj], nx1 ++ [A], ?_, by simp; omega, by rw [List.length_append, nums_append]; exact HN2O.out, hN2b, hb5n⟩
              intro k
              rw [HFO.out, List.mem_append, HNX1.out, HA.out]
              unfold Pl.GoesOn Pl.Jumps goesB
              unfold jumpsB at hj
              simp at hj ⊢
              omega
        case rest =>
        obtain ⟨rfl, nx, hNX, hnl, hNXO, hNb, hb5n⟩ := hcut
        obtain ⟨na, nc, rfl⟩ := hNXO.form
        obtain ⟨W7, hW7⟩ : ∃ z, z = wc := ⟨wc, rfl⟩
        subst hW7
        have hN1 : ∀ b, (Value.slice na nx.length nc).ownBlock = some b → b ≠ w.heap.size + 1 := fun b hb e => by have := hNb b hb; omega
        have hN2 : ∀ b, (Value.slice na nx.length nc).ownBlock = some b → (Value.slice (some ⟨g, 0, none⟩) t'.length cap).ownBlock ≠ some b := fun b hb e => by have := hNb b hb; simp [Value.ownBlock] at e; omega
        have hPOP6 := HPOP5.out.below hb5n (fun k hk => by simp [Value.ownBlock] at hk; omega)
        have hOH6 := HOH5.out.below hb5n (fun k hk => by simp [Value.ownBlock] at hk; omega)
        have hB6 := HB5.out.trans (hb5n.mono (by omega))
        clear hNb hb5n
        have HNX := Lib.hid hNX
        have HNXO := Lib.hid hNXO
        have HN1 := Lib.hid hN1
        have HN2 := Lib.hid hN2
        have HPOP6 := Lib.hid hPOP6
        have HOH6 := Lib.hid hOH6
        have HB6 := Lib.hid hB6
        clear hNX hNXO hN1 hN2 hPOP6 hOH6 hB6
        go_wp2_with fail
        go_loopw [4, 14] (fun q iv wr => ∃ (i : Nat) (hs' t'' : List Nat), iv = .int .i64 i ∧ i ≤ nx.length ∧ Pl.Vis y.code y.stack p hN hs' t'' (max most NW) n ∧ (∀ j k, j < i → nx[j]? = some k → Pl.Come y.code p hN hs' k) ∧
            Owns wr (w.heap.size + 1) 3 1 q t''.length (nums .i64 t'') ∧ Owns wr (w.heap.size + 1) 3 1 (.slice (some ⟨w.heap.size + 1, 0, none⟩) y.code.length y.code.length) y.code.length (nums .i64 hs') ∧
            Owns wr (w.heap.size + 1) 3 1 (.slice na nx.length nc) nx.length (nums .i64 nx) ∧ q.ownBlock ≠ some (w.heap.size + 1) ∧ (∀ b, (Value.slice na nx.length nc).ownBlock = some b → q.ownBlock ≠ some b) ∧ Below (w.heap.size + 1) W1 wr) (fun _ iv _ => nx.length - (RowKit.intOf iv).toNat)
        case atStart => exact ⟨0, hs, t', rfl, Nat.zero_le _, HVM.out, fun j k hj => absurd hj (Nat.not_lt_zero _), HPOP6.out, HOH6.out, HNXO.out, by simp [Value.ownBlock]; exact hgG, HN2.out, HB6.out⟩
        case round =>
          obtain ⟨i, hs', t'', rfl, hil, hV, hcome, hOt, hOh, hON, hqG, hqN, hb⟩ := hrel
          have hbb := (HBW.out.trans hb)
          have c3 : wr.cell? ⟨w.heap.size, 3, none⟩ = some (.int .i64 y.stack) := boxCells hbb rfl
          have c4 : wr.cell? ⟨w.heap.size, 4, none⟩ = some (.slice (some ⟨bc, oc, none⟩) y.code.length capy) := boxCells hbb rfl
          have hbw : Below w.heap.size w wr := ((Below.refl _ _).alloc (Nat.le_refl _) _).trans (hbb.mono (by omega))
          have hzr2 := hb.size
          by_cases hin : i < nx.length
          · obtain ⟨k, hk⟩ : ∃ k, nx[i]? = some k := ⟨_, List.getElem?_eq_getElem hin⟩
            have hfol : Pl.Follows y.code p k := (HNX.out k).2 (List.mem_of_getElem? hk)
            obtain ⟨gn, cn, hNe, hgn1, hgn2, hcn⟩ := hON.some_of (by omega)
            injection hNe with hNe1 _ hNe2
            subst hNe1 hNe2
            have ck : wr.cell? ⟨gn, i, none⟩ = some (.int .i64 k) := hON.cellAt (nums_at .i64 hk)
            have hinI : (i : Int) < (nx.length : Int) := by omega
            have hhl : hs'.length = y.code.length := hV.len
            have hnwp : Pl.now y.code p hN = NW := HNOW.out
            have hcnt2 := hV.cnt
            obtain ⟨qa, qc, rfl⟩ := hOt.form
            have HCOME := Lib.hid hcome
            have HOT := Lib.hid hOt
            have HOHH := Lib.hid hOh
            have HON := Lib.hid hON
            have HQG := Lib.hid hqG
            have HQN := Lib.hid hqN
            have HRET := Lib.hid hbw
            have HBR := Lib.hid hb
            have HFOL := Lib.hid hfol
            have HKN := Lib.hid hk
            have HBAD := Lib.hid (fun hbd => Pl.fitsB_no (u := y) (hV.bad hfol hbd))
            have HVV := Lib.hid hV
            clear hcome hOt hOh hON hqG hqN hbw hbb hfol hk hV
            by_cases hkl : k < y.code.length
            · have hkI : (k : Int) < (y.code.length : Int) := by omega
              obtain ⟨v, hv⟩ : ∃ v, hs'[k]? = some v := ⟨_, List.getElem?_eq_getElem (by omega)⟩
              have hgd : hs'.getD k 0 = v := by rw [List.getD_eq_getElem?_getD, hv]; rfl
              have cv : wr.cell? ⟨w.heap.size + 1, k, none⟩ = some (.int .i64 v) := HOHH.out.cellAt (nums_at .i64 hv)
              have hv251 : v ≤ 251 := by rw [← hgd]; exact HVV.out.inv.small k
              have HGD := Lib.hid hgd
              clear hv hgd
              by_cases hn250 : 250 < NW
              · go_wp2_with fail
                go_ret
                exact ⟨ret_bool (by rw [HBAD.out (.inr (.inl (by rw [hnwp]; exact hn250)))]), HRET.out⟩
              · have hn2 : NW ≤ 250 := by omega
                by_cases hv0 : v = 0
                · subst hv0
                  have cf : wr.frozen? ⟨w.heap.size + 1, k, none⟩ = false := HOHH.out.free (by omega)
                  obtain ⟨hV2, hkeep, hset, hht⟩ := HVV.out.new HFOL.out hkl (by rw [hnwp]; exact hn2) (by rw [hnwp]; exact Int.le_max_right _ _) (by rw [hnwp]; exact nw0) HGD.out
                  rw [hnwp] at hV2 hkeep hset hht
                  obtain ⟨m, hm⟩ : ∃ m : Nat, NW = m := ⟨NW.toNat, by omega⟩
                  rw [show NW.toNat + 1 = m + 1 by omega] at hV2 hkeep hset hht
                  have hwv : NW + 1 = ((m + 1 : Nat) : Int) := by omega
                  have HV2 := Lib.hid hV2
                  have HKEEP := Lib.hid hkeep
                  have HSET := Lib.hid hset
                  have HHT := Lib.hid hht
                  have HWV := Lib.hid hwv
                  have HM := Lib.hid hm
                  clear hV2 hkeep hset hht hwv hm hnwp
                  go_wp2_with (at_builtin; refine wpList_append_owns rfl (.tmp 150) (.tmp 152) 115 rfl (w.heap.size + 1) 3 i0 (.int .i64 0) 1 8 Tryz.underlying115 hi hz0 hz1 hz2 rfl _ _ _ rfl ((HOT.out.elsewhere (a := ⟨w.heap.size + 1, k, none⟩) (.int .i64 (NW + 1)) HQG.out).alloc _) ⟨wr.heap.size, 0, none⟩ 1 1 [.int .i64 k] rfl rfl (by have := one_new (wr.setCell ⟨w.heap.size + 1, k, none⟩ (.int .i64 (NW + 1))) (.int .i64 k) 3; rwa [show (wr.setCell ⟨w.heap.size + 1, k, none⟩ (.int .i64 (NW + 1))).heap.size = wr.heap.size by simp] at this) (by intro u hu; simp at hu; subst hu; rfl) (by unfold maxLen; first | omega | (simp; done) | (simp; omega)) (by first | omega | (simp; done) | (simp; omega)) (by first | omega | (simp; done) | (simp; omega)) ?_)
                  intro v' w7 hown hgrow
                  have hz7 := hgrow.1.size
                  simp at hz7
                  have hnb : ∀ b, (Value.slice qa t''.length qc).ownBlock ≠ some b → b < wr.heap.size → v'.ownBlock ≠ some b := by
                    intro b h1 h2 h3
                    rcases hgrow.2 with e | e
                    · rw [e] at h3; exact h1 h3
                    · have := e b h3; simp at this; omega
                  have HOWN := Lib.hid hown
                  have HGROW := Lib.hid hgrow
                  have HNB := Lib.hid hnb
                  obtain ⟨va, vc, rfl⟩ := hown.form
                  clear hown hgrow hnb
                  go_wp2_with fail
                  go_roundw
                  case rel =>
                    have hOH7 : Owns w7 (w.heap.size + 1) 3 1 (.slice (some ⟨w.heap.size + 1, 0, none⟩) y.code.length y.code.length) y.code.length (nums .i64 (hs'.set k (m + 1))) := by
                      rw [← nums_set, ← HWV.out]
                      refine ((HOHH.out.stored _).alloc _).kept HGROW.out.1 (.inr ?_)
                      exact fun e => HQG.out e.symm
                    have hON7 : Owns w7 (w.heap.size + 1) 3 1 (.slice (some ⟨gn, 0, none⟩) nx.length nc) nx.length (nums .i64 nx) := by
                      refine ((HON.out.elsewhere _ ?_).alloc _).kept HGROW.out.1 (.inr ?_)
                      · exact fun e => HN1.out gn rfl (by simpa [Value.ownBlock] using e)
                      · exact fun e => HQN.out gn rfl e.symm
                    refine ⟨i + 1, hs'.set k (m + 1), t'' ++ [k], by go_num, by omega, HV2.out, ?_, ?_, hOH7, hON7, ?_, ?_, ?_⟩
                    · intro j k' hj hk'
                      by_cases e : j = i
                      · subst e
                        rw [HKN.out] at hk'; cases hk'
                        exact ⟨hkl, by rw [HNOW.out]; exact hn2, HSET.out, by rw [HNOW.out]; exact HHT.out⟩
                      · exact (HCOME.out j k' (by omega) hk').keep HKEEP.out
                    · have := HOWN.out
                      rw [List.length_append, nums_append]
                      exact this
                    · exact HNB.out _ HQG.out (by omega)
                    · intro b hb'
                      exact HNB.out b (HQN.out b hb') (by simp [Value.ownBlock] at hb'; omega)
                    · have h1 : Below (w.heap.size + 1) W1 ((wr.setCell ⟨w.heap.size + 1, k, none⟩ (.int .i64 (NW + 1))).alloc (.cells #[.int .i64 k] 3)) := (HBR.out.setCell (p := ⟨w.heap.size + 1, k, none⟩) (Nat.le_refl _) _).alloc (by simp; omega) _
                      exact HGROW.out.below h1 (by simp; omega) (fun b hb' => (HOT.out.lt b hb').1)
                  case measure => simp [RowKit.intOf]; omega
                · have hv0I : (v : Int) ≠ 0 := by omega
                  by_cases hve : (v : Int) = NW + 1
                  · have hveb : ((v : Int) != NW + 1) = false := by simp [hve]
                    have hv0b : ((v : Int) != 0) = true := by simpa using hv0I
                    have hv0c : ((v : Int) == 0) = false := by simpa using hv0I
                    have HVE := Lib.hid hve
                    clear hve hv0I hv0
                    have HV0 := Lib.hid hv0c
                    go_wp2_with fail
                    go_roundw
                    case rel =>
                      refine ⟨i + 1, hs', t'', by go_num, by omega, HVV.out, ?_, HOT.out, HOHH.out, HON.out, HQG.out, HQN.out, HBR.out⟩
                      intro j k' hj hk'
                      by_cases e : j = i
                      · subst e
                        rw [HKN.out] at hk'; cases hk'
                        refine Pl.Come.old hkl (by rw [HNOW.out]; exact hn2) ?_ (by rw [HGD.out, HNOW.out]; exact HVE.out)
                        rw [HGD.out]; have := HV0.out; simp at this; omega
                      · exact HCOME.out j k' (by omega) hk'
                    case measure => simp [RowKit.intOf]; omega
                  · have hveb : ((v : Int) != NW + 1) = true := by simpa using hve
                    have hv0b : ((v : Int) != 0) = true := by simpa using hv0I
                    have HB := Lib.hid (HBAD.out (.inr (.inr ⟨by rw [HGD.out]; exact hv0, by rw [HGD.out, hnwp]; exact hve⟩)))
                    clear hve hv0I hv0
                    go_wp2_with fail
                    go_ret
                    exact ⟨ret_bool (by rw [HB.out]), HRET.out⟩
            · have hkI : (y.code.length : Int) ≤ (k : Int) := by omega
              go_wp2_with fail
              go_ret
              exact ⟨ret_bool (by rw [HBAD.out (.inl (by omega))]), HRET.out⟩
          · have hinI : ((nx.length : Int) : Int) ≤ (i : Int) := by omega
            have hnwp : Pl.now y.code p hN = NW := HNOW.out
            have hdone := hV.done (by rw [HINS.out]; exact hlow') (by rw [hnwp]; exact Int.le_max_right _ _) (fun k hk => by
              obtain ⟨j, hj⟩ := List.mem_iff_getElem?.1 ((HNX.out k).1 hk)
              exact hcome j k (by have := (List.getElem?_eq_some_iff.1 hj).1; omega) hj)
            have HD := Lib.hid hdone
            have hcc := hV.cnt
            have HOT := Lib.hid hOt
            have HOHH := Lib.hid hOh
            have HQG := Lib.hid hqG
            have HBR := Lib.hid hb
            clear hdone hV hcome hOt hOh hON hqG hqN hb hbb hbw hnwp
            go_wp2_with fail
            go_roundg n
            case measure => omega
            case rel =>
              refine ⟨hs', t'', _, ?_, hcc, rfl, by omega, HOT.out, HOHH.out, HQG.out, HBR.out, by omega⟩
              exact HD.out
end Go.Proofs.YtoklnpoacckbfaaGreatDoor
