/- Is each list of units its owner's alone? (Printed by gen_own.py.) Is each list its owner's alone? Where there is no list. (Printed by gen_owz.py.) Codes.Own, Trees.Own: is each list of the book its owner's alone? Codes.Code: a code's lists are noted. (Printed by gen_cdc.py.) What awake does; a code in more memory. CodeUnpacks: the walk (given awake). -/
import Derived.Test.YtoklnpoacckbfaaGreatDoorKuaf
import Derived.Test.YtoklnpoacckbfaaGreatDoorKuab
import Derived.Deep.CutRange
import Derived.Deep.RegionLaw
import Derived.StillTailTactics
import Derived.Test.YtoklnpoacckbfaaGreatDoorKabj
import Derived.Test.YtoklnpoacckbfaaGreatDoorKaai
import Derived.Test.YtoklnpoacckbfaaGreatDoorKuac
import Derived.Test.YtoklnpoacckbfaaGreatDoorKuae
namespace Go.Proofs.YtoklnpoacckbfaaGreatDoor
open Go Go.RowKit Go.Lib
theorem info_rowu : (Tryz.prog.info? 23).map (fun i => (i.zero, i.size, i.bytes)) = some (some (.slice none 0 0), 1, 24) := by kernel_rfl
set_option maxRecDepth 100000 in
set_option maxHeartbeats 8000000 in
theorem ownu_any (w : World) (v : Value) (rs : List Value) (hv : Owns w 0 23 1 v rs.length rs) (hm : Mine w 58 5 rs) (ha : Apart (v :: rs)) (hlen : rs.length ≤ 1099511627776) (hsm : ∀ r ∈ rs, rlen r ≤ 1099511627776) :
    Calls Tryz.prog 53 #[v] w fun e w' => e = .returned (.bool true) ∧ Save (fun q => In rs q) w w' := by
  have HV := Lib.hid hv
  have HM := Lib.hid hm
  have HA := Lib.hid ha
  have HSM := Lib.hid hsm
  obtain ⟨Av, cv, rfl⟩ := hv.form
  have HVN := Lib.hid (show ∀ q, (Value.slice Av rs.length cv).ownBlock = some q → ¬ In rs q from fun q e h => (HA.out.of_cons).2 q e h)
  clear hv hm ha hsm
  go_enter Tryz.func53, Tryz.ntmps53
  go_wp2_with fail
  go_loopw [4] (fun iv wr => ∃ i : Nat, iv = .int .i64 i ∧ i ≤ rs.length ∧ Save (fun q => In rs q) w wr ∧ ∀ (j : Nat) (r : Value), rs[j]? = some r → ∃ xs, Owns wr 0 58 5 r (rlen r) xs ∧ (j < i → Spot 5 0 j (rlen r) xs)) (fun iv _ => rs.length - (RowKit.intOf iv).toNat)
  case atStart => exact ⟨0, rfl, Nat.zero_le _, Save.refl _ _, fun j r hr => by obtain ⟨xs, hx⟩ := HM.out r (List.mem_of_getElem? hr); exact ⟨xs, hx, fun h => by omega⟩⟩
  case round =>
    obtain ⟨i, rfl, hi, hS, hR⟩ := hrel
    have HS := Lib.hid hS
    have HR := Lib.hid hR
    clear hS hR
    by_cases hlt : i < rs.length
    · have hltI : (i : Int) < (rs.length : Int) := by omega
      have hi0 : (0 : Int) ≤ (i : Int) := by omega
      obtain ⟨r, hr⟩ : ∃ r, rs[i]? = some r := ⟨_, List.getElem?_eq_getElem hlt⟩
      obtain ⟨gv, cv', hve, _, hgv, _⟩ := HV.out.some_of (by omega)
      cases hve
      have hcr : wr.cell? ⟨gv, i, none⟩ = some r := (HS.out.cell i hgv (HVN.out gv rfl)).trans (HV.out.cellAt hr)
      have hvl : gv < wr.heap.size := Nat.lt_of_lt_of_le hgv HS.out.size
      obtain ⟨xs0, ho0, _⟩ := HR.out i r hr
      have HO0 := Lib.hid ho0
      have HRI := Lib.hid hr
      have hsr := HSM.out r (List.mem_of_getElem? hr)
      have HGN := Lib.hid (show r.ownBlock ≠ some gv from fun e => HVN.out gv rfl ⟨r, List.mem_of_getElem? hr, e⟩)
      obtain ⟨Ar, cr, hre⟩ := ho0.form
      obtain ⟨n, hn⟩ : ∃ n, rlen r = n := ⟨_, rfl⟩
      rw [hn] at hre hsr HO0
      have HRE := Lib.hid hre
      have HN := Lib.hid hn
      rw [hre] at hcr
      clear hr ho0 hre hn
      obtain ⟨wk0, hwk0⟩ : ∃ z, z = wr := ⟨wr, rfl⟩
      subst hwk0
      go_wp2_with fail
      go_loopw [5] (fun kv wr => ∃ k : Nat, kv = .int .i64 k ∧ k ≤ n ∧ Save (fun q => r.ownBlock = some q) wk0 wr ∧ ∃ xs, Owns wr 0 58 5 r n xs ∧ Spot 5 0 i k xs) (fun kv _ => n - (RowKit.intOf kv).toNat)
      case atStart => exact ⟨0, rfl, Nat.zero_le _, Save.refl _ _, xs0, HO0.out, Spot.zero _ _ _ _⟩
      case round =>
        obtain ⟨k, rfl, hk, hS2, xs, hO, hSp⟩ := hrel
        have HS2 := Lib.hid hS2
        have HO := Lib.hid hO
        have HSP := Lib.hid hSp
        have hcr2 : wr.cell? ⟨gv, i, none⟩ = some (.slice Ar n cr) := (HS2.out.cell i hvl HGN.out).trans hcr
        have hvl2 : gv < wr.heap.size := Nat.lt_of_lt_of_le hvl HS2.out.size
        clear hS2 hO hSp
        by_cases hkn : k < n
        · have hkI : (k : Int) < (n : Int) := by omega
          have hk0 : (0 : Int) ≤ (k : Int) := by omega
          obtain ⟨gr, cr', hrr, _, hgr, hnc⟩ := HO.out.some_of (by omega)
          have e := HRE.out.symm.trans hrr
          cases e
          have hlx := HO.out.1
          have hpl := place_lt (size := 5) (off := 0) (by omega) hkn
          obtain ⟨z, hz⟩ : ∃ z, xs[k * 5 + 0]? = some z := ⟨_, List.getElem?_eq_getElem (by omega)⟩
          have hO' := HO.out
          rw [HRE.out] at hO'
          have y0 : wr.cell? ⟨gr, k * 5, none⟩ = some z := hO'.cellAt hz
          have yf : wr.frozen? ⟨gr, k * 5, none⟩ = false := hO'.free (by have := Nat.mul_le_mul_right 5 hnc; omega)
          have HST := Lib.hid (hO'.stored (j := k * 5 + 0) (.int .i64 ((i : Int) * 20000 + k)))
          have hx1 : (xs.set (k * 5 + 0) (.int .i64 ((i : Int) * 20000 + k))).length = n * 5 := by rw [List.length_set]; exact hlx
          have HST2 := Lib.hid (hO'.drew.stored (j := k * 5 + 0) (.int .i64 ((i : Int) * 20000 + k)))
          clear hO' hz
          go_wp2_with fail
          go_region_with (go_at_call 79; refine (spot_any _ i k (by omega) (by omega)).mono ?_; rintro e w9 ⟨rfl, rfl⟩)
          all_goals
            go_wp2_with fail
            go_roundw
            case rel =>
              refine ⟨k + 1, by go_num, by omega, by first | exact HS2.out.set ⟨gr, k * 5, none⟩ _ (fun _ => by rw [HRE.out]; rfl) | exact HS2.out.drew.set ⟨gr, k * 5, none⟩ _ (fun _ => by rw [HRE.out]; rfl), _, by rw [HRE.out]; first | exact HST.out | exact HST2.out, HSP.out.set (by omega) hlx hkn rfl⟩
            case measure => simp [RowKit.intOf]; omega
        · have hkI : (n : Int) ≤ (k : Int) := by omega
          have hke : k = n := by omega
          subst hke
          go_wp2_with fail
          go_roundw
          case rel =>
            refine ⟨i + 1, by go_num, by omega, HS.out.trans HS2.out (fun q _ e => ⟨r, List.mem_of_getElem? HRI.out, e⟩), ?_⟩
            intro j q hq
            by_cases hj : j = i
            · subst hj
              have : q = r := by rw [HRI.out] at hq; cases hq; rfl
              subst this
              exact ⟨xs, by rw [HN.out]; exact HO.out, fun _ => by rw [HN.out]; exact HSP.out⟩
            · obtain ⟨ys, h1, h2⟩ := HR.out j q hq
              exact ⟨ys, h1.save HS2.out (fun g hg e => (HA.out.of_cons).1.two hq HRI.out hj g hg e), fun h => h2 (by omega)⟩
          case measure => simp [RowKit.intOf]; omega
    · have hltI : (rs.length : Int) ≤ (i : Int) := by omega
      have hie : i = rs.length := by omega
      obtain ⟨w1, hw1⟩ : ∃ z, z = wr := ⟨wr, rfl⟩
      subst hw1
      subst hie
      clear hi hlt
      have HRL := Lib.hid (show ∀ q, In rs q → q < w1.heap.size from fun q h => Nat.lt_of_lt_of_le (HM.out.lt q h) HS.out.size)
      have HR1 := Lib.hid (show ∀ (j : Nat) (r : Value), rs[j]? = some r → ∃ xs, Owns w1 0 58 5 r (rlen r) xs ∧ Spot 5 0 j (rlen r) xs from fun j r hr => by
        obtain ⟨xs, h1, h2⟩ := HR.out j r hr
        exact ⟨xs, h1, h2 (List.getElem?_eq_some_iff.1 hr).1⟩)
      clear HR
      go_wp2_with fail
      have HN1 := Lib.hid (Owns.nil w1 w1.heap.size 23 1)
      generalize hq0 : Value.slice none 0 0 = q0 at HN1
      have hq0' := hq0.symm
      clear hq0
      go_loopw [3, 6] (fun qv iv wr => ∃ (i : Nat) (ys : List Value), iv = .int .i64 i ∧ i ≤ rs.length ∧ ys.length = i ∧ Save (fun q => In rs q) w1 wr ∧ Owns wr w1.heap.size 23 1 qv ys.length ys ∧
          (∀ (j : Nat) (r y : Value), rs[j]? = some r → ys[j]? = some y → Done wr w1.heap.size 5 0 j r y ∧ (∀ q, qv.ownBlock = some q → y.ownBlock ≠ some q)) ∧
          (∀ (j : Nat) (r : Value), i ≤ j → rs[j]? = some r → ∃ xs, Owns wr 0 58 5 r (rlen r) xs ∧ Spot 5 0 j (rlen r) xs)) (fun _ iv _ => rs.length - (RowKit.intOf iv).toNat)
      case atStart => exact ⟨0, [], rfl, Nat.zero_le _, rfl, Save.refl _ _, HN1.out, fun j r y _ hy => by simp at hy, fun j r _ hr => HR1.out j r hr⟩
      case round =>
        obtain ⟨i, ys, rfl, hi, hyl, hS1, hOL, hD, hR⟩ := hrel
        have HS1 := Lib.hid hS1
        have HOL := Lib.hid hOL
        have HD := Lib.hid hD
        have HR := Lib.hid hR
        have hz1 := hS1.size
        clear hS1 hOL hD hR
        by_cases hlt : i < rs.length
        · have hltI : (i : Int) < (rs.length : Int) := by omega
          have hi0 : (0 : Int) ≤ (i : Int) := by omega
          obtain ⟨r, hr⟩ : ∃ r, rs[i]? = some r := ⟨_, List.getElem?_eq_getElem hlt⟩
          obtain ⟨gv, cv', hve, _, hgv, _⟩ := HV.out.some_of (by omega)
          cases hve
          have hvn := HVN.out gv rfl
          have hv1 : gv < w1.heap.size := Nat.lt_of_lt_of_le hgv HS.out.size
          have hcr : wr.cell? ⟨gv, i, none⟩ = some r := (HS1.out.cell i hv1 hvn).trans ((HS.out.cell i hgv hvn).trans (HV.out.cellAt hr))
          obtain ⟨xs0, ho0, hsp0⟩ := HR.out i r (Nat.le_refl _) hr
          have HO0 := Lib.hid ho0
          have HSP0 := Lib.hid hsp0
          have HRI := Lib.hid hr
          have hsr := HSM.out r (List.mem_of_getElem? hr)
          have HRB := Lib.hid (show ∀ q, r.ownBlock = some q → q < w1.heap.size from fun q e => HRL.out q ⟨r, List.mem_of_getElem? hr, e⟩)
          obtain ⟨Ar, cr, hre⟩ := ho0.form
          obtain ⟨n, hn⟩ : ∃ n, rlen r = n := ⟨_, rfl⟩
          rw [hn] at hre hsr HO0 HSP0
          have HRE := Lib.hid hre
          have HN := Lib.hid hn
          rw [hre] at hcr
          clear hr ho0 hre hn hsp0
          obtain ⟨wk0, hwk0⟩ : ∃ z, z = wr := ⟨wr, rfl⟩
          subst hwk0
          go_wp2_with fail
          obtain ⟨x0, hx0⟩ : ∃ x, Value.slice Ar n cr = x := ⟨_, rfl⟩
          have HX0 := Lib.hid hx0
          rw [hx0]
          clear hx0
          go_loopw [7, 8] (fun xv kv wr => ∃ (k : Nat) (zs : List Value), kv = .int .i64 k ∧ k ≤ 8 ∧ Save (fun q => r.ownBlock = some q) wk0 wr ∧ Owns wr 0 58 5 xv (n + k) zs ∧ Spot 5 0 i n zs ∧ Behind 5 0 i n k zs ∧
              (∃ xs, Reads wr r xs ∧ Spot 5 0 i n xs) ∧ (∀ q, xv.ownBlock = some q → r.ownBlock = some q ∨ wk0.heap.size ≤ q)) (fun _ kv _ => 8 - (RowKit.intOf kv).toNat)
          case atStart => exact ⟨0, xs0, rfl, by omega, Save.refl _ _, by rw [← HX0.out, ← HRE.out]; exact HO0.out, HSP0.out, Behind.zero _ _ _ _ _, ⟨xs0, HO0.out.reads, HSP0.out⟩, fun q e => .inl (by rw [HRE.out, HX0.out]; exact e)⟩
          case round =>
            obtain ⟨k, zs, rfl, hk, hS2, hO, hSp, hBe, hRx, hNe⟩ := hrel
            have HS2 := Lib.hid hS2
            have HO := Lib.hid hO
            have HSP := Lib.hid hSp
            have HBE := Lib.hid hBe
            have HRX := Lib.hid hRx
            have HNE := Lib.hid hNe
            have hz2 := hS2.size
            clear hS2 hO hSp hBe hRx hNe
            by_cases hkn : k < 8
            · have hkI : (k : Int) < 8 := by omega
              go_wp2_with (first
                | (go_at_call 80; refine (behind_any _ i k (by omega) (by omega)).mono ?_; rintro e w9 ⟨rfl, rfl⟩)
                | (at_builtin; go_loud (refine wpList_appMark rfl (.tmp 52) (.tmp 57) 23 58 5 56 Tryz.underlying23 info_unt rfl rfl 0 _ (n + k) zs rfl HO.out _ rfl ?h1 rfl (by omega) (by omega) (by omega) ?_)))
              case h1 =>
                first | exact ⟨rfl, rfl, rfl⟩ | exact ⟨rfl, rfl, rfl, rfl, rfl⟩ | rfl
              intro v' w' ho' hg' hrd'
              have SG := Lib.hid (show Save (fun q => u7.ownBlock = some q) _ w' from (Save.refl _ _).grow hg' (fun q e _ => e))
              go_wp2_with fail
              go_roundw
              case rel =>
                have hxl := HO.out.lt
                have hl := HO.out.1
                refine ⟨k + 1, _, by go_num, by omega, HS2.out.trans SG.out (fun q hq e => ?_), ho', HSP.out.append, HBE.out.step hl (u := _) rfl rfl, ?_, ?_⟩
                · rcases HNE.out q e with e' | e'
                  · exact e'
                  · omega
                · by_cases hsame : ∃ q, u7.ownBlock = some q ∧ r.ownBlock = some q
                  · obtain ⟨q, hq1, hq2⟩ := hsame
                    refine ⟨zs, hrd'.of_same ?_ (fun _ _ h => h), HSP.out⟩
                    intro g hg
                    rw [hq2] at hg
                    cases hg
                    obtain ⟨cu, hu⟩ := HO.out.block_form hq1
                    exact ⟨_, _, hu⟩
                  · obtain ⟨xs, hx1, hx2⟩ := HRX.out
                    refine ⟨xs, hx1.save SG.out (fun g hg => ⟨?_, fun e => hsame ⟨g, e, hg⟩⟩), hx2⟩
                    have := HRB.out g hg
                    omega
                · intro q hq
                  rcases hg'.2 with e | e
                  · exact HNE.out q (e ▸ hq)
                  · exact .inr (by have := e q hq; omega)
              case measure => simp [RowKit.intOf]; omega
            · have hkI : (8 : Int) ≤ (k : Int) := by omega
              have hke : k = 8 := by omega
              subst hke
              obtain ⟨Ax, cx, hxv⟩ := HO.out.form
              have hul := HOL.out.lt
              have HUL := Lib.hid hul
              have HOL2 := Lib.hid (HOL.out.save HS2.out (fun q hq e => by have := HRB.out q e; have := (hul q hq).1; omega))
              subst hxv
              clear hul
              go_wp2_with (at_builtin; go_loud (refine wpList_appRow rfl (.tmp 59) (.tmp 61) 41 23 Tryz.underlying41 info_rowu rfl w1.heap.size _ ys rfl HOL2.out (.slice Ax (n + 8) cx) rfl rfl (by omega) (by omega) ?_))
              intro v' w' ho' hg'
              have SG := Lib.hid (show Save (fun q => u3.ownBlock = some q) _ w' from (Save.refl _ _).grow hg' (fun q e _ => e))
              have HG' := Lib.hid hg'.2
              have HO' := Lib.hid ho'
              clear ho' hg'
              go_wp2_with fail
              go_roundw
              case rel =>
                have SA : Save (fun q => r.ownBlock = some q ∨ u3.ownBlock = some q) wk0 w' := (HS2.out.mono (fun _ _ e => .inl e)).trans SG.out (fun _ _ e => .inr e)
                have hxl : ∀ q, (Value.slice Ax (n + 8) cx).ownBlock = some q → u3.ownBlock ≠ some q := fun q e e' => by
                  rcases HNE.out q e with h | h
                  · have := HRB.out q h; have := (HUL.out q e').1; omega
                  · have := (HUL.out q e').2; omega
                have hx7 := HO.out.lt
                refine ⟨i + 1, ys ++ [(Value.slice Ax (n + 8) cx)], by go_num, by omega, by simp [hyl], HS1.out.trans SA (fun q hq e => ?_), by rw [List.length_append]; first | exact HO'.out | (rw [hyl]; exact HO'.out), ?_, ?_⟩
                · rcases e with e | e
                  · exact ⟨r, List.mem_of_getElem? HRI.out, e⟩
                  · have := (HUL.out q e).1; omega
                · intro j r' y hr' hy
                  by_cases hj : j < ys.length
                  · rw [List.getElem?_append_left hj] at hy
                    obtain ⟨d, hd⟩ := HD.out j r' y hr' hy
                    have hr'B := fun q e => HRL.out q ⟨r', List.mem_of_getElem? hr', e⟩
                    refine ⟨d.save SA (fun g e => ?_), fun q e => ?_⟩
                    · rcases e with e | e
                      · have hne : r'.ownBlock ≠ some g := fun e' => (HA.out.of_cons).1.two hr' HRI.out (by omega) g e' e
                        exact ⟨hne, d.not hne (HRB.out g e)⟩
                      · exact ⟨fun e' => by have := hr'B g e'; have := (HUL.out g e).1; omega, hd g e⟩
                    · rcases HG'.out with h | h
                      · exact hd q (h ▸ e)
                      · intro e'
                        have := d.ylt q e'
                        have := h q e
                        omega
                  · rw [List.getElem?_append_right (by omega)] at hy
                    have hj2 : j < rs.length := (List.getElem?_eq_some_iff.1 hr').1
                    have hji : j = i := by
                      cases hii : j - ys.length with
                      | zero => omega
                      | succ m => rw [hii] at hy; simp at hy
                    subst hji
                    have hyy : y = (Value.slice Ax (n + 8) cx) := by rw [hyl, Nat.sub_self] at hy; simpa using hy.symm
                    have hrr : r' = r := by rw [HRI.out] at hr'; cases hr'; rfl
                    rw [hyy]
                    subst hrr
                    obtain ⟨xs, hx1, hx2⟩ := HRX.out
                    obtain ⟨g, cap, hgf, _, hgl, _⟩ := HO.out.some_of (by omega)
                    refine ⟨⟨⟨xs, hx1.save SG.out (fun q e => ⟨by have := HRB.out q e; omega, fun e' => by have := HRB.out q e; have := (HUL.out q e').1; omega⟩), by rw [HN.out]; exact hx2⟩, ⟨zs, HO.out.reads.save SG.out (fun q e => ⟨(hx7 q e).2, fun e' => hxl q e e'⟩), by rw [HN.out]; exact HSP.out, by rw [HN.out]; exact HBE.out⟩, ⟨g, cap, by rw [HN.out]; exact hgf, Nat.lt_of_lt_of_le hgl SG.out.size, ?_⟩, fun q e => by have := HRB.out q e; have := SG.out.size; omega⟩, fun q e => ?_⟩
                    · have he : (Value.slice Ax (n + 8) cx).ownBlock = some g := by rw [hgf]; rfl
                      rcases HNE.out g he with h | h
                      · exact .inl h
                      · exact .inr (by omega)
                    · rcases HG'.out with h | h
                      · exact fun e' => hxl q e' (h ▸ e)
                      · intro e'
                        have := (hx7 q e').2
                        have := h q e
                        omega
                · intro j r' hj hr'
                  obtain ⟨xs, hx1, hx2⟩ := HR.out j r' (by omega) hr'
                  refine ⟨xs, hx1.save SA (fun g e' e => ?_), hx2⟩
                  rcases e with e | e
                  · exact (HA.out.of_cons).1.two hr' HRI.out (by omega) g e' e
                  · have := HRL.out g ⟨r', List.mem_of_getElem? hr', e'⟩
                    have := (HUL.out g e).1
                    omega
              case measure => simp [RowKit.intOf]; omega
        · have hltI : (rs.length : Int) ≤ (i : Int) := by omega
          have hie : i = rs.length := by omega
          obtain ⟨wE, hwE⟩ : ∃ z, z = wr := ⟨wr, rfl⟩
          subst hwE
          subst hie
          clear hi hlt
          go_wp2_with fail
          go_loopw [9] (fun iv wr => ∃ i : Nat, iv = .int .i64 i ∧ i ≤ rs.length ∧ Save (fun _ => False) wE wr) (fun iv _ => rs.length - (RowKit.intOf iv).toNat)
          case atStart => exact ⟨0, rfl, Nat.zero_le _, Save.refl _ _⟩
          case round =>
            obtain ⟨i, rfl, hi, hSE⟩ := hrel
            have HSE := Lib.hid hSE
            clear hSE
            by_cases hlt : i < rs.length
            · have hltI : (i : Int) < (rs.length : Int) := by omega
              have hltY : (i : Int) < (ys.length : Int) := by omega
              have hi0 : (0 : Int) ≤ (i : Int) := by omega
              obtain ⟨r, hr⟩ : ∃ r, rs[i]? = some r := ⟨_, List.getElem?_eq_getElem hlt⟩
              obtain ⟨y, hy⟩ : ∃ y, ys[i]? = some y := ⟨_, List.getElem?_eq_getElem (by omega)⟩
              obtain ⟨gv, cv', hve, _, hgv, _⟩ := HV.out.some_of (by omega)
              cases hve
              have hvn := HVN.out gv rfl
              have hv1 : gv < w1.heap.size := Nat.lt_of_lt_of_le hgv HS.out.size
              have hvE : gv < wE.heap.size := Nat.lt_of_lt_of_le hv1 HS1.out.size
              have hcr : wr.cell? ⟨gv, i, none⟩ = some r := (HSE.out.cell i hvE (fun f => f)).trans ((HS1.out.cell i hv1 hvn).trans ((HS.out.cell i hgv hvn).trans (HV.out.cellAt hr)))
              obtain ⟨gl, cl, hle, _, hgl, _⟩ := HOL.out.some_of (by omega)
              cases hle
              have hcy : wr.cell? ⟨gl, i, none⟩ = some y := (HSE.out.cell i hgl (fun f => f)).trans (HOL.out.cellAt hy)
              have HDD := Lib.hid (((HD.out i r y hr hy).1).save HSE.out (fun _ f => f.elim))
              have hsr := HSM.out r (List.mem_of_getElem? hr)
              obtain ⟨xs0, ho0⟩ := HM.out r (List.mem_of_getElem? hr)
              obtain ⟨Ar, cr, hre⟩ := ho0.form
              obtain ⟨gy, cy, hye, _, _⟩ := HDD.out.form
              obtain ⟨n, hn⟩ : ∃ n, rlen r = n := ⟨_, rfl⟩
              rw [hn] at hre hye hsr ho0
              have HO0 := Lib.hid ho0
              have HRE := Lib.hid hre
              have HYE := Lib.hid hye
              have HN := Lib.hid hn
              rw [hre] at hcr
              rw [hye] at hcy
              clear hr hy ho0 hre hye hn
              obtain ⟨wk0, hwk0⟩ : ∃ z, z = wr := ⟨wr, rfl⟩
              subst hwk0
              go_wp2_with fail
              go_loopw [11] (fun kv wr => ∃ k : Nat, kv = .int .i64 k ∧ k ≤ n ∧ Save (fun _ => False) wk0 wr) (fun kv _ => n - (RowKit.intOf kv).toNat)
              case atStart => exact ⟨0, rfl, Nat.zero_le _, Save.refl _ _⟩
              case round =>
                obtain ⟨k, rfl, hk, hS2⟩ := hrel
                have HS2 := Lib.hid hS2
                have hz2 := hS2.size
                have hvk : gv < wk0.heap.size := Nat.lt_of_lt_of_le hvE HSE.out.size
                have hlk : gl < wk0.heap.size := Nat.lt_of_lt_of_le hgl HSE.out.size
                have hcr2 := (hS2.cell i hvk (fun f => f)).trans hcr
                have hcy2 := (hS2.cell i hlk (fun f => f)).trans hcy
                have HD2 := Lib.hid (HDD.out.save hS2 (fun _ f => f.elim))
                clear hS2
                by_cases hkn : k < n
                · have hkI : (k : Int) < (n : Int) := by omega
                  have hkI8 : (k : Int) < (n : Int) + 8 := by omega
                  have hk0 : (0 : Int) ≤ (k : Int) := by omega
                  obtain ⟨gr, cr', hrr, _, _, _⟩ := HO0.out.some_of (by omega)
                  have e := HRE.out.symm.trans hrr
                  cases e
                  have x1 : wr.cell? ⟨gr, k * 5, none⟩ = some (.int .i64 ((i : Int) * 20000 + k)) := HD2.out.cellR HRE.out hkn
                  have x2 : wr.cell? ⟨gy, k * 5, none⟩ = some (.int .i64 ((i : Int) * 20000 + k)) := HD2.out.cellY HYE.out (by rw [HN.out]; exact hkn)
                  go_wp2_with fail
                  go_quiet (first | (go_at_call 79; exact spot_q i k (by omega) (by omega) _ _))
                  go_wp2_with fail
                  go_roundw
                  case rel => exact ⟨k + 1, by go_num, by omega, ⟨HS2.out.os, HS2.out.tape, HS2.out.output, HS2.out.size, HS2.out.block⟩⟩
                  case measure => simp [RowKit.intOf]; omega
                · have hkI : (n : Int) ≤ (k : Int) := by omega
                  have hke : k = n := by omega
                  subst hke
                  obtain ⟨wm0, hwm0⟩ : ∃ z, z = wr := ⟨wr, rfl⟩
                  subst hwm0
                  go_wp2_with fail
                  go_loopw [12] (fun kv wr => ∃ k : Nat, kv = .int .i64 k ∧ k ≤ 8 ∧ Save (fun _ => False) wm0 wr) (fun kv _ => 8 - (RowKit.intOf kv).toNat)
                  case atStart => exact ⟨0, rfl, by omega, Save.refl _ _⟩
                  case round =>
                    obtain ⟨m, rfl, hm, hS3⟩ := hrel
                    have HS3 := Lib.hid hS3
                    have hcy3 := (hS3.cell i (Nat.lt_of_lt_of_le hlk hz2) (fun f => f)).trans hcy2
                    have HD3 := Lib.hid (HD2.out.save hS3 (fun _ f => f.elim))
                    clear hS3
                    by_cases hm8 : m < 8
                    · have hmI : (m : Int) < 8 := by omega
                      have hkI8 : (k : Int) + (m : Int) < (k : Int) + 8 := by omega
                      have hk0 : (0 : Int) ≤ (k : Int) + (m : Int) := by omega
                      have hto : ((k : Int) + (m : Int)).toNat = k + m := by omega
                      have x1 : wr.cell? ⟨gy, (k + m) * 5, none⟩ = some (.int .i64 (-1 - (i : Int) * 20 - m)) := by
                        have := HD3.out.cellZ HYE.out hm8
                        rw [HN.out] at this
                        exact this
                      go_wp2_with fail
                      go_quiet (first | (go_at_call 80; exact behind_q i m (by omega) (by omega) _ _))
                      go_wp2_with fail
                      go_roundw
                      case rel => exact ⟨m + 1, by go_num, by omega, ⟨HS3.out.os, HS3.out.tape, HS3.out.output, HS3.out.size, HS3.out.block⟩⟩
                      case measure => simp [RowKit.intOf]; omega
                    · have hmI : (8 : Int) ≤ (m : Int) := by omega
                      go_wp2_with fail
                      go_roundw
                      case rel => exact ⟨i + 1, by go_num, by omega, (HSE.out.trans HS2.out (fun _ _ f => f)).trans HS3.out (fun _ _ f => f)⟩
                      case measure => simp [RowKit.intOf]; omega
            · have hltI : (rs.length : Int) ≤ (i : Int) := by omega
              go_wp2_with fail
              go_ret
              exact ⟨rfl, HS.out.trans (HS1.out.trans HSE.out (fun _ _ f => f.elim)) (fun _ _ e => e)⟩
end Go.Proofs.YtoklnpoacckbfaaGreatDoor
namespace Go.Proofs.YtoklnpoacckbfaaGreatDoor
open Go Go.RowKit Go.Lib
set_option maxRecDepth 100000 in
set_option maxHeartbeats 1000000 in
theorem ownTokens_none (w : World) : Calls Tryz.prog 81 #[.slice none 0 0] w fun e w' => e = .returned (.bool true) ∧ w = w' := by
  go_enter Tryz.func81, Tryz.ntmps81
  go_wp2_with fail
  go_loopw [4] (fun iv wr => iv = .int .i64 0 ∧ wr = w) (fun _ _ => 0)
  case atStart => exact ⟨rfl, rfl⟩
  case round =>
    obtain ⟨rfl, rfl⟩ := hrel
    obtain ⟨w0, hw0⟩ : ∃ z, z = wr := ⟨wr, rfl⟩
    subst hw0
    go_wp2_with fail
    go_loopw [6] (fun iv wr => iv = .int .i64 0 ∧ wr = w0) (fun _ _ => 0)
    case atStart => exact ⟨rfl, rfl⟩
    case round =>
      obtain ⟨rfl, rfl⟩ := hrel
      obtain ⟨w1, hw1⟩ : ∃ z, z = wr := ⟨wr, rfl⟩
      subst hw1
      go_wp2_with fail
      go_loopw [9] (fun iv wr => iv = .int .i64 0 ∧ wr = w1) (fun _ _ => 0)
      case atStart => exact ⟨rfl, rfl⟩
      case round =>
        obtain ⟨rfl, rfl⟩ := hrel
        go_wp2_with fail
        go_ret
        exact ⟨rfl, rfl⟩
set_option maxRecDepth 100000 in
set_option maxHeartbeats 1000000 in
theorem ownNodes_none (w : World) : Calls Tryz.prog 83 #[.slice none 0 0] w fun e w' => e = .returned (.bool true) ∧ w = w' := by
  go_enter Tryz.func83, Tryz.ntmps83
  go_wp2_with fail
  go_loopw [4] (fun iv wr => iv = .int .i64 0 ∧ wr = w) (fun _ _ => 0)
  case atStart => exact ⟨rfl, rfl⟩
  case round =>
    obtain ⟨rfl, rfl⟩ := hrel
    obtain ⟨w0, hw0⟩ : ∃ z, z = wr := ⟨wr, rfl⟩
    subst hw0
    go_wp2_with fail
    go_loopw [6] (fun iv wr => iv = .int .i64 0 ∧ wr = w0) (fun _ _ => 0)
    case atStart => exact ⟨rfl, rfl⟩
    case round =>
      obtain ⟨rfl, rfl⟩ := hrel
      obtain ⟨w1, hw1⟩ : ∃ z, z = wr := ⟨wr, rfl⟩
      subst hw1
      go_wp2_with fail
      go_loopw [9] (fun iv wr => iv = .int .i64 0 ∧ wr = w1) (fun _ _ => 0)
      case atStart => exact ⟨rfl, rfl⟩
      case round =>
        obtain ⟨rfl, rfl⟩ := hrel
        go_wp2_with fail
        go_ret
        exact ⟨rfl, rfl⟩
set_option maxRecDepth 100000 in
set_option maxHeartbeats 1000000 in
theorem ownNames_none (w : World) : Calls Tryz.prog 84 #[.slice none 0 0] w fun e w' => e = .returned (.bool true) ∧ w = w' := by
  go_enter Tryz.func84, Tryz.ntmps84
  go_wp2_with fail
  go_loopw [4] (fun iv wr => iv = .int .i64 0 ∧ wr = w) (fun _ _ => 0)
  case atStart => exact ⟨rfl, rfl⟩
  case round =>
    obtain ⟨rfl, rfl⟩ := hrel
    obtain ⟨w0, hw0⟩ : ∃ z, z = wr := ⟨wr, rfl⟩
    subst hw0
    go_wp2_with fail
    go_loopw [6] (fun iv wr => iv = .int .i64 0 ∧ wr = w0) (fun _ _ => 0)
    case atStart => exact ⟨rfl, rfl⟩
    case round =>
      obtain ⟨rfl, rfl⟩ := hrel
      obtain ⟨w1, hw1⟩ : ∃ z, z = wr := ⟨wr, rfl⟩
      subst hw1
      go_wp2_with fail
      go_loopw [9] (fun iv wr => iv = .int .i64 0 ∧ wr = w1) (fun _ _ => 0)
      case atStart => exact ⟨rfl, rfl⟩
      case round =>
        obtain ⟨rfl, rfl⟩ := hrel
        go_wp2_with fail
        go_ret
        exact ⟨rfl, rfl⟩
end Go.Proofs.YtoklnpoacckbfaaGreatDoor
namespace Go.Proofs.YtoklnpoacckbfaaGreatDoor
open Go Go.RowKit Go.Lib
abbrev BookP (w : World) (G : Nat) (I U L : Value) (ri ru rl : List Value) : Prop := BookAt w G 56 23 22 61 58 37 I U L ri ru rl
set_option maxRecDepth 100000 in
theorem treesOwn_any (w : World) (G : Nat) (L : Value) (rl : List Value) (ht : w.cell? ⟨G, 2, none⟩ = some (.slice none 0 0)) (hl : ListAt w G 3 22 L rl) (hn : w.cell? ⟨G, 4, none⟩ = some (.slice none 0 0)) (hx : w.cell? ⟨G, 5, none⟩ = some (.slice none 0 0))
    (hm : Mine w 37 5 rl) (ha : Apart (L :: rl)) (hG : ¬ In rl G) (hlen : rl.length ≤ 1099511627776) (hsm : ∀ r ∈ rl, rlen r ≤ 1099511627776) :
    Calls Tryz.prog 54 #[.pointer (some ⟨G, 2, none⟩)] w fun e w' => e = .returned (.bool true) ∧ Save (fun q => In rl q) w w' := by
  have hGl := hl.lt
  obtain ⟨Al, cl, hLe⟩ := hl.o.form
  subst hLe
  have l3 := hl.c
  have OW := Lib.hid (ownm_any w _ rl hl.o hm ha hlen hsm)
  have HG := Lib.hid hG
  have OT := Lib.hid ownTokens_none
  have ON := Lib.hid ownNodes_none
  have OS := Lib.hid ownNames_none
  clear hl hm ha hsm hG
  go_enter Tryz.func54, Tryz.ntmps54
  go_wp2_with (first
    | (go_at_call 81; refine (OT.out _).mono ?_; rintro e w2 ⟨rfl, rfl⟩)
    | (go_at_call 83; refine (ON.out _).mono ?_; rintro e w2 ⟨rfl, rfl⟩)
    | (go_at_call 84; refine (OS.out _).mono ?_; rintro e w2 ⟨rfl, rfl⟩)
    | (go_at_call 82; refine OW.out.mono ?_; rintro e w3 ⟨rfl, hs⟩; have n4 := (hs.cell 4 hGl HG.out).trans hn; have n5 := (hs.cell 5 hGl HG.out).trans hx; have HS := Lib.hid hs; clear hs))
  go_ret
  exact ⟨rfl, HS.out⟩
set_option maxRecDepth 100000 in
theorem codesOwn_any (w : World) (G : Nat) (I U L : Value) (ri ru rl : List Value) (h : BookP w G I U L ri ru rl) (hli : ri.length ≤ 1099511627776) (hlu : ru.length ≤ 1099511627776) (hll : rl.length ≤ 1099511627776) (hsm : ∀ r ∈ ri ++ (ru ++ rl), rlen r ≤ 1099511627776) :
    Calls Tryz.prog 23 #[.pointer (some ⟨G, 0, none⟩)] w fun e w' => e = .returned (.bool true) ∧ Save (fun q => In (ri ++ (ru ++ rl)) q) w w' := by
  obtain ⟨ai, au, al, di, du, dl⟩ := h.parts
  have HH := Lib.hid h
  have hGl := h.i.lt
  obtain ⟨A1, k1, rfl⟩ := h.i.o.form
  obtain ⟨A2, k2, rfl⟩ := h.u.o.form
  have c0 := h.i.c
  have c1 := h.u.c
  have OI := Lib.hid (owni_any w _ ri h.i.o h.mi ai hli (fun r hr => hsm r (List.mem_append_left _ hr)))
  have OU := Lib.hid (fun (W : World) (s : Save (fun q => In ri q) w W) => ownu_any W _ ru (h.u.o.save s (fun k e hk => di k hk (.inl e))) (h.mu.save s (fun k e hk => di k hk (.inr (.inr (.inl e))))) au hlu (fun r hr => hsm r (List.mem_append_right _ (List.mem_append_left _ hr))))
  have OT := Lib.hid (fun (W : World) (s : Save (fun q => In ri q ∨ In ru q) w W) => treesOwn_any W G L rl ((s.cell 2 hGl (fun e => e.elim (fun e => di G e (.inr (.inr (.inr (.inr rfl))))) (fun e => du G e (.inr (.inr rfl))))).trans h.t)
    (h.l.save s (fun e => e.elim (fun e => di G e (.inr (.inr (.inr (.inr rfl))))) (fun e => du G e (.inr (.inr rfl)))) (fun k e hk => hk.elim (fun hk => di k hk (.inr (.inl e))) (fun hk => du k hk (.inl e))))
    ((s.cell 4 hGl (fun e => e.elim (fun e => di G e (.inr (.inr (.inr (.inr rfl))))) (fun e => du G e (.inr (.inr rfl))))).trans h.n) ((s.cell 5 hGl (fun e => e.elim (fun e => di G e (.inr (.inr (.inr (.inr rfl))))) (fun e => du G e (.inr (.inr rfl))))).trans h.x)
    (h.ml.save s (fun k e hk => hk.elim (fun hk => di k hk (.inr (.inr (.inr (.inl e))))) (fun hk => du k hk (.inr (.inl e))))) al (fun e => dl G e rfl) hll (fun r hr => hsm r (List.mem_append_right _ (List.mem_append_right _ hr))))
  have HDI := Lib.hid di
  clear h ai au al di du dl hsm
  go_enter Tryz.func23, Tryz.ntmps23
  go_wp2_with (first
    | (go_at_call 52; refine OI.out.mono ?_; rintro e w2 ⟨rfl, hs⟩; have c12 := (hs.cell 1 hGl (fun e => HDI.out G e (.inr (.inr (.inr (.inr rfl)))))).trans c1; have HS := Lib.hid hs; clear hs)
    | (go_at_call 53; refine (OU.out _ HS.out).mono ?_; rintro e w3 ⟨rfl, hs⟩; have HS3 := Lib.hid ((HS.out.mono (T := fun q => In ri q ∨ In ru q) (fun _ _ e => .inl e)).trans hs (fun _ _ e => .inr e)); clear hs)
    | (go_at_call 54; refine (OT.out _ HS3.out).mono ?_; rintro e w4 ⟨rfl, hs⟩; have HS4 := Lib.hid hs; clear hs))
  go_ret
  refine ⟨rfl, (HS3.out.mono (T := fun q => In (ri ++ (ru ++ rl)) q) (fun k _ e => ?_)).trans HS4.out (fun k _ e => In.append.2 (.inr (In.append.2 (.inr e))))⟩
  rcases e with e | e
  · exact In.append.2 (.inl e)
  · exact In.append.2 (.inr (In.append.2 (.inl e)))
end Go.Proofs.YtoklnpoacckbfaaGreatDoor
namespace Go.Proofs.YtoklnpoacckbfaaGreatDoor
open Go Go.RowKit Go.Lib
/-- a new list: where it lies -/
theorem grow_at {w w1 : World} {v v' : Value} (h : v'.ownBlock = v.ownBlock ∨ (∀ g, v'.ownBlock = some g → w.heap.size ≤ g)) (hw : w1.heap.size ≤ w.heap.size) : ∀ g, v'.ownBlock = some g → v.ownBlock = some g ∨ w1.heap.size ≤ g := by
  intro g hg
  rcases h with e | e
  · exact .inl (e ▸ hg)
  · exact .inr (Nat.le_trans hw (e g hg))
set_option maxRecDepth 100000 in
set_option maxHeartbeats 8000000 in
theorem codesCode_any {w : World} {G : Nat} {I U L : Value} {ri ru rl : List Value} (h : BookP w G I U L ri ru rl) {c : Pl.Cod} {Lc Uc : Value} {ci cl : List Value} (hc : CodOwn w 37 58 61 c Lc Uc ci cl)
    (hf : ∀ k, In (Uc :: (ci ++ cl)) k → ¬ BookIn G I U L ri ru rl k) (hbi : ri.length + ci.length ≤ 1099511627776) (hbu : ru.length + 1 ≤ 1099511627776) (hbl : rl.length + cl.length ≤ 1099511627776) :
    Calls Tryz.prog 21 #[.pointer (some ⟨G, 0, none⟩), codV c Lc Uc] w fun e w' => e = .returned (.tuple #[]) ∧
      ∃ I' U' L', BookBox w' G I' U' L' ∧ Owns w' 0 56 1 I' (ri ++ ci).length (ri ++ ci) ∧ Owns w' 0 23 1 U' (ru ++ [Uc]).length (ru ++ [Uc]) ∧ Owns w' 0 22 1 L' (rl ++ cl).length (rl ++ cl) ∧ Save (fun k => k = G ∨ I.ownBlock = some k ∨ U.ownBlock = some k ∨ L.ownBlock = some k) w w' ∧
        ∃ n1 n2 n3 : Nat, w.heap.size ≤ n1 ∧ n1 ≤ n2 ∧ n2 ≤ n3 ∧ (∀ k, U'.ownBlock = some k → U.ownBlock = some k ∨ (w.heap.size ≤ k ∧ k < n1)) ∧ (∀ k, L'.ownBlock = some k → L.ownBlock = some k ∨ (n1 ≤ k ∧ k < n2)) ∧ (∀ k, I'.ownBlock = some k → I.ownBlock = some k ∨ n2 ≤ k) := by
  have hbb := h.box
  have hiG := h.i.ne
  have huG := h.u.ne
  have hlG := h.l.ne
  have hpa := h.ap
  obtain ⟨hp1, hp2⟩ := hpa.of_cons
  obtain ⟨hp3, hp4⟩ := hp1.of_cons
  obtain ⟨hlo, ⟨us, hus1, hus2, huo, huk⟩, hca⟩ := hc
  obtain ⟨ls, hls⟩ : ∃ ls, c.lits = ls := ⟨_, rfl⟩
  rw [hls] at hlo
  cases hlo with
  | mk _ ps rs hlow hll hlw hrl hlr =>
  obtain ⟨Al, cl0, rfl⟩ := hlow.form
  obtain ⟨Au, cu, rfl⟩ := huo.form
  have HIO := Lib.hid h.i.o
  have HUO := Lib.hid h.u.o
  have HLO := Lib.hid h.l.o
  have HF := Lib.hid hf
  have hIl := h.i.o.lt
  have hUl := h.u.o.lt
  have hLl := h.l.o.lt
  have HIL := Lib.hid hIl
  have HUL := Lib.hid hUl
  have HLL := Lib.hid hLl
  have HNE := Lib.hid (show (∀ k, I.ownBlock = some k → ¬ (k = G ∨ U.ownBlock = some k ∨ L.ownBlock = some k)) ∧ (∀ k, U.ownBlock = some k → ¬ (k = G ∨ I.ownBlock = some k ∨ L.ownBlock = some k)) ∧ (∀ k, L.ownBlock = some k → ¬ (k = G ∨ I.ownBlock = some k ∨ U.ownBlock = some k)) from
    ⟨fun k e h => by
      rcases h with rfl | h | h
      · exact hiG e
      · exact hp2 k e (In.cons.2 (.inl h))
      · exact hp2 k e (In.cons.2 (.inr (In.cons.2 (.inl h)))), fun k e h => by
      rcases h with rfl | h | h
      · exact huG e
      · exact hp2 k h (In.cons.2 (.inl e))
      · exact hp4 k e (In.cons.2 (.inl h)), fun k e h => by
      rcases h with rfl | h | h
      · exact hlG e
      · exact hp2 k h (In.cons.2 (.inr (In.cons.2 (.inl e))))
      · exact hp4 k h (In.cons.2 (.inl e))⟩)
  have HCL := Lib.hid hlow
  have HCU := Lib.hid huo
  have HUK := Lib.hid huk
  have hrows : ∀ k, In (Value.slice Au us.length cu :: (ci ++ (Value.slice Al ps.length cl0 :: rs.flatten))) k → k < w.heap.size := by
    intro k hk
    rcases In.cons.1 hk with hk | hk
    · exact (huo.lt k hk).2
    · rcases In.append.1 hk with hk | hk
      · rw [← hus2] at hk; exact huk.lt k hk
      · rcases In.cons.1 hk with hk | hk
        · exact (hlow.lt k hk).2
        · obtain ⟨x, hx, e⟩ := hk
          obtain ⟨q, hq, hxq⟩ := List.mem_flatten.1 hx
          obtain ⟨i, hi⟩ := List.mem_iff_getElem?.1 hq
          have hil : i < ps.length := by rw [← hrl]; exact (List.getElem?_eq_some_iff.1 hi).1
          exact (hlr i ps[i] q (List.getElem?_eq_getElem hil) hi).mine.lt k ⟨x, hxq, e⟩
  have HFR := Lib.hid (show ∀ k, In (Value.slice Au us.length cu :: (ci ++ (Value.slice Al ps.length cl0 :: rs.flatten))) k → ¬ (k = G ∨ I.ownBlock = some k ∨ U.ownBlock = some k ∨ L.ownBlock = some k) from fun k hk e => hf k hk (by
    rcases e with e | e | e | e
    · exact .inl e
    · exact .inr (In.cons.2 (.inl e))
    · exact .inr (In.cons.2 (.inr (In.cons.2 (.inl e))))
    · exact .inr (In.cons.2 (.inr (In.cons.2 (.inr (In.cons.2 (.inl e))))))))
  have HRW := Lib.hid hrows
  have HLR := Lib.hid hlr
  have hcil : ci.length = us.length := by rw [← hus2, List.length_map]
  have HU2 := Lib.hid hus2
  have hGl := h.i.lt
  simp only [List.length_cons] at hbl
  have hIfree : ∀ g, I.ownBlock = some g → I.ownBlock ≠ some G := fun _ _ => hiG
  clear h hf hpa hp1 hp2 hp3 hp4 hca hlow huo huk hlr hrows hus1 hIl hUl hLl hls
  have S1 := Save.none_alloc w (.cells #[.string c.sel, .int .i64 c.prim, .slice Al ps.length cl0, .slice Au us.length cu] 25)
  have HBX1 := Lib.hid (hbb.save S1 (fun f => f))
  have HS1 := Lib.hid S1
  have HC1 := Lib.hid (heap_alloc_new w (.cells #[.string c.sel, .int .i64 c.prim, .slice Al ps.length cl0, .slice Au us.length cu] 25))
  have hXl : w.heap.size < (w.alloc (.cells #[.string c.sel, .int .i64 c.prim, .slice Al ps.length cl0, .slice Au us.length cu] 25)).heap.size := by simp
  unfold codV
  clear hbb S1
  go_enter Tryz.func21, Tryz.ntmps21
  go_wp2_with fail
  generalize w.alloc (.cells #[.string c.sel, .int .i64 c.prim, .slice Al ps.length cl0, .slice Au us.length cu] 25) = w1 at HBX1 HS1 HC1 hXl ⊢
  have hz1 := HS1.out.size
  obtain ⟨b0, b1, b2, b3, b4, b5, bf0, bf1, bf3, bl⟩ := HBX1.out
  have x2 : w1.cell? ⟨w.heap.size, 2, none⟩ = some (.slice Al ps.length cl0) := Lib.cell_of_heap HC1.out 2
  have x3 : w1.cell? ⟨w.heap.size, 3, none⟩ = some (.slice Au us.length cu) := Lib.cell_of_heap HC1.out 3
  have HUO1 := Lib.hid (HUO.out.save HS1.out (fun _ _ f => f))
  go_cut [] from 6 to 16 (fun wx => ∃ U', BookBox wx G I U' L ∧ Owns wx 0 23 1 U' (ru.length + 1) (ru ++ [.slice Au us.length cu]) ∧ Save (fun k => k = G ∨ U.ownBlock = some k) w1 wx ∧ (∀ k, U'.ownBlock = some k → U.ownBlock = some k ∨ w1.heap.size ≤ k))
  case first =>
    first
      | go_region_law (
          refine step_appRow rfl (.tmp 10) (.tmp 13) 41 23 Tryz.underlying41 info_rowu rfl 0 _ (ru) rfl (Owns.drew HUO1.out) (.slice Au us.length cu) rfl (by exact rfl) (by omega) (by omega) ?_
          intro v' w14 ho hg
          obtain ⟨qa, qc, rfl⟩ := ho.form
          have SG : Save (fun g => U.ownBlock = some g) w1 w14 := ((Save.refl (fun g => U.ownBlock = some g) w1).drew).grow hg (fun g hg _ => hg)
          have HB14 := Lib.hid (HBX1.out.save SG (fun e => huG e))
          obtain ⟨m0, m1, m2, m3, m4, m5, n0, n1, n3, ml⟩ := HB14.out
          have HV := Lib.hid ho
          have HGR := Lib.hid hg
          have SGH := Lib.hid SG
          clear ho hg SG)
      | fail
    all_goals
      go_wp2_with fail
      go_meet
      case rel => exact ⟨.slice qa (ru.length + 1) qc, HB14.out.set1 _, HV.out.elsewhere _ (fun e => by
        rcases grow_at HGR.out.2 (Nat.le_refl w1.heap.size) G e with h | h
        · exact huG h
        · omega), (SGH.out.mono (T := fun k => k = G ∨ U.ownBlock = some k) (fun _ _ e => .inr e)).set ⟨G, 1, none⟩ _ (fun _ => .inl rfl), grow_at HGR.out.2 (Nat.le_refl _)⟩
  case rest =>
  obtain ⟨U1, hbx2, huo2, hs2, hun⟩ := hcut
  have HBX2 := Lib.hid hbx2
  have HUO2 := Lib.hid huo2
  have HS2 := Lib.hid hs2
  have HUN := Lib.hid hun
  have hz2 := hs2.size
  obtain ⟨w2, hw2⟩ : ∃ z, z = wc := ⟨wc, rfl⟩
  subst hw2
  clear b0 b1 b2 b3 b4 b5 bf0 bf1 bf3 bl x2 x3 hbx2 huo2 hs2 hun
  have hc2 := (HS2.out.block w.heap.size hXl (fun e => by
    rcases e with e | e
    · omega
    · have := (HUL.out _ e).2; omega)).trans HC1.out
  have HC2 := Lib.hid hc2
  obtain ⟨b0, b1, b2, b3, b4, b5, bf0, bf1, bf3, bl⟩ := HBX2.out
  have x2 : w2.cell? ⟨w.heap.size, 2, none⟩ = some (.slice Al ps.length cl0) := Lib.cell_of_heap hc2 2
  have x3 : w2.cell? ⟨w.heap.size, 3, none⟩ = some (.slice Au us.length cu) := Lib.cell_of_heap hc2 3
  have HLO2 := Lib.hid ((HLO.out.save HS1.out (fun _ _ f => f)).save HS2.out (fun k e h => HNE.out.2.2 k e (h.elim .inl (fun h => .inr (.inr h)))))
  have hX2 : w.heap.size < w2.heap.size := by omega
  clear hc2
  go_upto_region 2 with (fail)
  go_cut [] from 17 to 29 (fun wx => ∃ L', BookBox wx G I U1 L' ∧ Owns wx 0 22 1 L' (rl.length + 1) (rl ++ [.slice Al ps.length cl0]) ∧ Save (fun k => k = G ∨ L.ownBlock = some k) w2 wx ∧ (∀ k, L'.ownBlock = some k → L.ownBlock = some k ∨ w2.heap.size ≤ k))
  case first =>
    first
      | go_region_law (
          refine step_appRow rfl (.tmp 22) (.tmp 25) 43 22 Tryz.underlying43 info_rowm rfl 0 _ (rl) rfl (Owns.drew HLO2.out) (.slice Al ps.length cl0) rfl (by exact rfl) (by omega) (by omega) ?_
          intro v' w14 ho hg
          obtain ⟨qa, qc, rfl⟩ := ho.form
          have SG : Save (fun g => L.ownBlock = some g) w2 w14 := ((Save.refl (fun g => L.ownBlock = some g) w2).drew).grow hg (fun g hg _ => hg)
          have HB14 := Lib.hid (HBX2.out.save SG (fun e => hlG e))
          obtain ⟨m0, m1, m2, m3, m4, m5, n0, n1, n3, ml⟩ := HB14.out
          have HV := Lib.hid ho
          have HGR := Lib.hid hg
          have SGH := Lib.hid SG
          clear ho hg SG)
      | fail
    all_goals
      go_wp2_with fail
      go_meet
      case rel => exact ⟨.slice qa (rl.length + 1) qc, HB14.out.set3 _, HV.out.elsewhere _ (fun e => by
        rcases grow_at HGR.out.2 (Nat.le_refl w2.heap.size) G e with h | h
        · exact hlG h
        · omega), (SGH.out.mono (T := fun k => k = G ∨ L.ownBlock = some k) (fun _ _ e => .inr e)).set ⟨G, 3, none⟩ _ (fun _ => .inl rfl), grow_at HGR.out.2 (Nat.le_refl _)⟩
  case rest =>
  obtain ⟨L1, hbx3, hlo3, hs3, hln⟩ := hcut
  have HBX3 := Lib.hid hbx3
  have HLO3 := Lib.hid hlo3
  have HS3 := Lib.hid hs3
  have HLN := Lib.hid hln
  have hz3 := hs3.size
  obtain ⟨w3, hw3⟩ : ∃ z, z = wc := ⟨wc, rfl⟩
  subst hw3
  clear b0 b1 b2 b3 b4 b5 bf0 bf1 bf3 bl x2 x3 hbx3 hlo3 hs3 hln
  have HC3 := Lib.hid ((HS3.out.block w.heap.size hX2 (fun e => by
    rcases e with e | e
    · omega
    · have := (HLL.out _ e).2; omega)).trans HC2.out)
  have HLA := Lib.hid (show ListAt w3 G 3 22 L1 (rl ++ [.slice Al ps.length cl0]) from ⟨HBX3.out.c3, HBX3.out.f3, HBX3.out.lt, by rw [List.length_append]; exact HLO3.out, fun e => by
    rcases HLN.out G e with h | h
    · exact hlG h
    · omega⟩)
  have HS13 := Lib.hid (show Save (fun k => k = G ∨ U.ownBlock = some k ∨ L.ownBlock = some k) w w3 from ((HS1.out.mono (T := fun k => k = G ∨ U.ownBlock = some k ∨ L.ownBlock = some k) (fun _ _ f => f.elim)).trans HS2.out (fun k _ e => e.elim .inl (fun e => .inr (.inl e)))).trans HS3.out (fun k _ e => e.elim .inl (fun e => .inr (.inr e))))
  have hX3 : w.heap.size < w3.heap.size := by omega
  go_wp2_with fail
  go_loopw [4] (fun iv wr => ∃ (i : Nat) (L2 : Value), iv = .int .i64 i ∧ i ≤ ps.length ∧ ListAt wr G 3 22 L2 (rl ++ .slice Al ps.length cl0 :: (rs.take i).flatten) ∧ Save (fun k => k = G ∨ L1.ownBlock = some k) w3 wr ∧ (∀ k, L2.ownBlock = some k → L1.ownBlock = some k ∨ w3.heap.size ≤ k) ∧ Keeps G 3 w3 wr) (fun iv _ => ps.length - (RowKit.intOf iv).toNat)
  case atStart => exact ⟨0, L1, rfl, Nat.zero_le _, HLA.out, Save.refl _ _, fun k e => .inl e, Keeps.refl _ _ _⟩
  case round =>
    obtain ⟨i, L2, rfl, hi, hL, hS, hQ, hKp⟩ := hrel
    have HL := Lib.hid hL
    have HS := Lib.hid hS
    have HQ2 := Lib.hid hQ
    have HKP := Lib.hid hKp
    have hzr := hS.size
    have hL1w : ∀ k, L1.ownBlock = some k → k < w3.heap.size := fun k e => (HLO3.out.lt k e).2
    have hc := (hS.block w.heap.size hX3 (fun e => by
      rcases e with e | e
      · omega
      · rcases HLN.out _ e with h | h
        · have := (HLL.out _ h).2; omega
        · omega)).trans HC3.out
    have HCR := Lib.hid hc
    have x2 : wr.cell? ⟨w.heap.size, 2, none⟩ = some (.slice Al ps.length cl0) := Lib.cell_of_heap hc 2
    have hXr : w.heap.size < wr.heap.size := by omega
    have HSR := Lib.hid (show Save (fun k => k = G ∨ U.ownBlock = some k ∨ L.ownBlock = some k) w wr from HS13.out.trans hS (fun k hk e => e.elim .inl (fun e => by
      rcases HLN.out k e with h | h
      · exact .inr (.inr h)
      · omega)))
    have HSQ := Lib.hid hS
    clear hL hS hQ hKp hc
    by_cases hlt : i < ps.length
    · have hltI : (i : Int) < (ps.length : Int) := by omega
      have hi0 : (0 : Int) ≤ (i : Int) := by omega
      obtain ⟨p, hp⟩ : ∃ p, ps[i]? = some p := ⟨_, List.getElem?_eq_getElem hlt⟩
      obtain ⟨r, hrr⟩ : ∃ r, rs[i]? = some r := ⟨_, List.getElem?_eq_getElem (by omega)⟩
      have hOr := HCL.out.save HSR.out (fun k e h => HFR.out k (In.cons.2 (.inr (In.append.2 (.inr (In.cons.2 (.inl e)))))) (h.elim .inl (fun h => .inr (.inr h))))
      obtain ⟨g, cap, hve, _, hgl, _⟩ := hOr.some_of (by omega)
      cases hve
      obtain ⟨a0, a1, a2, a3, a4⟩ := hOr.lit5 hp
      obtain ⟨Ai, capi, hV⟩ := (HLR.out i p r hp hrr).slice
      have hin : ∀ k, In r k → In (Value.slice Au us.length cu :: (ci ++ (Value.slice (some ⟨g, 0, none⟩) ps.length cl0 :: rs.flatten))) k := fun k hk => In.cons.2 (.inr (In.append.2 (.inr (In.cons.2 (.inr (mem_flat_at hrr hk))))))
      have hrl2 : (rs.take i).flatten.length + r.length ≤ rs.flatten.length := flat_len hrr
      have bl := HL.out.lt
      have IH := Lib.hid (treesLit_any (HLR.out i p r hp hrr) p.1 wr.drew G L2 (rl ++ .slice (some ⟨g, 0, none⟩) ps.length cl0 :: (rs.take i).flatten) rfl
        (HSR.out.mono (T := fun k => ¬ In r k) (fun k _ h e => HFR.out k (hin k e) (h.elim .inl (fun h => .inr (.inr h))))).drew (HL.out.save ((Save.refl (fun _ => False) wr).drew) (fun f => f) (fun _ _ f => f)) (fun e => HFR.out G (hin G e) (.inl rfl))
        (fun k e hk => by
          have h1 := HFR.out k (hin k hk)
          have h2 := HRW.out k (hin k hk)
          rcases HQ2.out k e with h | h
          · rcases HLN.out k h with h | h
            · exact h1 (.inr (.inr (.inr h)))
            · omega
          · omega) (by simp only [List.length_append, List.length_cons]; omega))
      rw [hV] at a4 IH
      unfold litV at IH
      have HRR := Lib.hid hrr
      clear hV hp hrr hOr hin
      go_wp2_with fail
      go_still_tail 8, (by kernel_rfl)
      change wpList _ _ _ _ _ wr.drew
      go_wp2_with (go_at_call 50; refine IH.out.mono ?_; rintro e w5 ⟨rfl, Q3, h3, s3, q3, kp3⟩; have HK3 := Lib.hid kp3; have HL3 := Lib.hid h3; have HS3' := Lib.hid s3; have HQ3 := Lib.hid q3; clear h3 s3 q3 kp3)
      go_roundw
      case rel =>
        have hdz : wr.drew.heap.size = wr.heap.size := rfl
        refine ⟨i + 1, Q3, by go_num, by omega, ?_, HS.out.drew.trans HS3'.out (fun k hk e => ?_), fun k e => ?_, Keeps.trans (b := wr.drew) HKP.out HK3.out⟩
        · have : rl ++ Value.slice (some ⟨g, 0, none⟩) ps.length cl0 :: (rs.take (i + 1)).flatten = (rl ++ Value.slice (some ⟨g, 0, none⟩) ps.length cl0 :: (rs.take i).flatten) ++ r := by
            rw [List.take_add_one, HRR.out]
            simp
          rw [this]
          exact HL3.out
        · rcases e with e | e
          · exact .inl e
          · rcases HQ2.out k e with h | h
            · exact .inr h
            · omega
        · rcases HQ3.out k e with h | h
          · exact HQ2.out k h
          · exact .inr (by omega)
      case measure => simp [RowKit.intOf]; omega
    · have hltI : (ps.length : Int) ≤ (i : Int) := by omega
      have hie : i = ps.length := by omega
      have hL4 := HL.out
      rw [List.take_of_length_le (by omega)] at hL4
      obtain ⟨w4, hw4⟩ : ∃ z, z = wr := ⟨wr, rfl⟩
      subst hw4
      have HL4 := Lib.hid hL4
      have HBX4 := Lib.hid (HBX3.out.keeps HKP.out hL4)
      have HIO4 := Lib.hid (HIO.out.save HSR.out HNE.out.1)
      have HL2N := Lib.hid (show ∀ k, L2.ownBlock = some k → L.ownBlock = some k ∨ w2.heap.size ≤ k from fun k e => by
        rcases HQ2.out k e with h | h
        · exact HLN.out k h
        · exact .inr (by omega))
      clear hie hL4
      go_wp2_with fail
      clear x2
      go_loopw [5] (fun iv wr => ∃ (j : Nat) (I2 : Value), iv = .int .i64 j ∧ j ≤ us.length ∧ BookBox wr G I2 U1 L2 ∧ Owns wr 0 56 1 I2 (ri ++ ci.take j).length (ri ++ ci.take j) ∧ Save (fun k => k = G ∨ I.ownBlock = some k) w4 wr ∧ (∀ k, I2.ownBlock = some k → I.ownBlock = some k ∨ w4.heap.size ≤ k)) (fun iv _ => us.length - (RowKit.intOf iv).toNat)
      case atStart => exact ⟨0, I, rfl, Nat.zero_le _, HBX4.out, by simp only [List.take_zero, List.append_nil]; exact HIO4.out, Save.refl _ _, fun k e => .inl e⟩
      case round =>
        obtain ⟨j, I2, rfl, hj, hB, hO, hS, hN⟩ := hrel
        have HB := Lib.hid hB
        have HO := Lib.hid hO
        have HS5 := Lib.hid hS
        have HN := Lib.hid hN
        have hzr5 := hS.size
        have hc5 := (hS.block w.heap.size hXr (fun e => by
          rcases e with e | e
          · omega
          · have := (HIL.out _ e).2; omega)).trans HCR.out
        have x3 : wr.cell? ⟨w.heap.size, 3, none⟩ = some (.slice Au us.length cu) := Lib.cell_of_heap hc5 3
        have hX5 : w.heap.size < wr.heap.size := by omega
        have HSW := Lib.hid (show Save (fun k => k = G ∨ I.ownBlock = some k ∨ U.ownBlock = some k ∨ L.ownBlock = some k) w wr from (HSR.out.mono (T := fun k => k = G ∨ I.ownBlock = some k ∨ U.ownBlock = some k ∨ L.ownBlock = some k) (fun k _ e => e.elim .inl (fun e => .inr (.inr e)))).trans hS (fun k hk e => e.elim .inl (fun e => .inr (.inl e))))
        have hI2G : I2.ownBlock ≠ some G := fun e => by
          rcases hN G e with h | h
          · exact hiG h
          · have := HL.out.lt; omega
        clear hB hO hS hN hc5
        by_cases hlt : j < us.length
        · have hltI5 : (j : Int) < (us.length : Int) := by omega
          have hj0 : (0 : Int) ≤ (j : Int) := by omega
          obtain ⟨y, hy⟩ : ∃ y, us[j]? = some y := ⟨_, List.getElem?_eq_getElem hlt⟩
          have hOr := HCU.out.save HSW.out (fun k e h => HFR.out k (In.cons.2 (.inl e)) h)
          obtain ⟨g, cap, hve, _, hgl, _⟩ := hOr.some_of (by omega)
          cases hve
          have a4 := hOr.unt4 hy
          obtain ⟨Ai, capi, hV⟩ := (HUK.out.at_ y (List.mem_of_getElem? hy)).1.form
          have HCI := Lib.hid (show ci.take (j + 1) = ci.take j ++ [Value.slice Ai y.1.code.length capi] by
            rw [List.take_add_one, ← HU2.out, List.getElem?_map, hy, ← hV]; rfl)
          rw [hV] at a4
          have hcl5 : (ri ++ ci.take j).length ≤ 1099511627776 := by rw [List.length_append, List.length_take]; omega
          obtain ⟨Z, hZ⟩ : ∃ Z, ri ++ ci.take j = Z := ⟨_, rfl⟩
          rw [hZ] at HO hcl5
          have HZ := Lib.hid hZ
          clear hZ
          obtain ⟨b0, b1, b2, b3, b4, b5, bf0, bf1, bf3, bl⟩ := HB.out
          clear hV hy hOr
          go_wp2_with fail
          first
            | go_region_law (
                refine step_appRow rfl (.tmp 57) (.tmp 64) 40 56 Tryz.underlying40 info_rowi rfl 0 _ (Z) rfl (Owns.drew HO.out) (.slice Ai y.1.code.length capi) rfl (by exact rfl) (by omega) (by omega) ?_
                intro v' w14 ho hg
                obtain ⟨qa, qc, rfl⟩ := ho.form
                have SG : Save (fun g => I2.ownBlock = some g) wr w14 := ((Save.refl (fun g => I2.ownBlock = some g) wr).drew).grow hg (fun g hg _ => hg)
                have HB14 := Lib.hid (HB.out.save SG (fun e => hI2G e))
                obtain ⟨m0, m1, m2, m3, m4, m5, n0, n1, n3, ml⟩ := HB14.out
                have HV := Lib.hid ho
                have HGR := Lib.hid hg
                have SGH := Lib.hid SG
                clear ho hg SG)
            | fail
          all_goals
            clear b0 b1 b2 b3 b4 b5 bf0 bf1 bf3
            go_wp2_with fail
            go_roundw
            case rel =>
              have hng : (Value.slice qa (Z.length + 1) qc).ownBlock ≠ some G := fun e => by
                rcases grow_at HGR.out.2 (Nat.le_refl wr.heap.size) G e with h | h
                · exact hI2G h
                · omega
              refine ⟨j + 1, .slice qa (Z.length + 1) qc, by go_num, by omega, HB14.out.set0 _, ?_, ?_, fun k e => ?_⟩
              · have e : ri ++ ci.take (j + 1) = Z ++ [Value.slice Ai y.1.code.length capi] := by rw [HCI.out, ← List.append_assoc, HZ.out]
                rw [e, List.length_append]
                exact HV.out.elsewhere _ hng
              · refine HS5.out.trans ((SGH.out.mono (T := fun k => k = G ∨ I2.ownBlock = some k) (fun _ _ e => .inr e)).set ⟨G, 0, none⟩ _ (fun _ => .inl rfl)) (fun k hk e => ?_)
                rcases e with e | e
                · exact .inl e
                · rcases HN.out k e with h | h
                  · exact .inr h
                  · omega
              · rcases grow_at HGR.out.2 (Nat.le_refl wr.heap.size) k e with h | h
                · exact HN.out k h
                · exact .inr (by omega)
            case measure => simp [RowKit.intOf]; omega
        · have hltI5 : (us.length : Int) ≤ (j : Int) := by omega
          go_wp2_with fail
          go_end0
          have hOI := HO.out
          rw [List.take_of_length_le (by omega)] at hOI
          have hs1w := HS1.out.size
          refine ⟨rfl, I2, U1, L2, HB.out, hOI, ?_, ?_, HSW.out, w2.heap.size, w4.heap.size, w4.heap.size, by omega, by omega, Nat.le_refl _, fun k e => ?_, fun k e => ?_, HN.out⟩
          · rw [List.length_append]
            have hU1 : ∀ k, U1.ownBlock = some k → ¬ (k = G ∨ I.ownBlock = some k ∨ L.ownBlock = some k) := fun k e h => by
              rcases HUN.out k e with h' | h'
              · exact HNE.out.2.1 k h' h
              · rcases h with h | h | h
                · omega
                · have := (HIL.out k h).2; omega
                · have := (HLL.out k h).2; omega
            refine ((HUO2.out.save HS3.out (fun k e h => hU1 k e (h.elim .inl (fun h => .inr (.inr h))))).save HSQ.out (fun k e h => ?_)).save HS5.out (fun k e h => hU1 k e (h.elim .inl (fun h => .inr (.inl h))))
            rcases h with h | h
            · exact hU1 k e (.inl h)
            · rcases HLN.out k h with h | h
              · exact hU1 k e (.inr (.inr h))
              · have := (HUO2.out.lt k e).2; omega
          · refine HL4.out.o.save HS5.out (fun k e h => ?_)
            rcases h with h | h
            · exact HL4.out.ne (h ▸ e)
            · rcases HL2N.out k e with h' | h'
              · exact HNE.out.2.2 k h' (.inr (.inl h))
              · have := (HIL.out k h).2; omega
          · rcases HUN.out k e with h | h
            · exact .inl h
            · exact .inr ⟨by omega, (HUO2.out.lt k e).2⟩
          · rcases HL2N.out k e with h | h
            · exact .inl h
            · exact .inr ⟨h, (HL4.out.o.lt k e).2⟩
end Go.Proofs.YtoklnpoacckbfaaGreatDoor
namespace Go.Proofs.YtoklnpoacckbfaaGreatDoor
open Go Go.RowKit
/-- what awake does -/
def AwakeC : Prop := ∀ w : World, ErrAt w → Calls Tryz.prog 8 #[] w fun e w' => e = .returned (.bool true) ∧ Below w.heap.size w w'
theorem CodAt.wide' {B : Nat} {w w' : World} {c : Pl.Cod} {L U : Value} (h : CodAt B w c L U) (hb : Below B w w') : CodAt w'.heap.size w' c L U :=
  have k := h.keep hb
  ⟨k.l.up k.b, k.u.up k.b, k.s, k.p0, k.p1, Nat.le_refl _⟩
theorem heap_lt' {w : World} {b : Nat} {o : Obj} (h : w.heap[b]? = some o) : b < w.heap.size := by
  rcases Nat.lt_or_ge b w.heap.size with h' | h'
  · exact h'
  · simp [Array.getElem?_eq_none h'] at h
end Go.Proofs.YtoklnpoacckbfaaGreatDoor
namespace Go.Proofs.YtoklnpoacckbfaaGreatDoor
open Go Go.RowKit Go.Lib
def codZ : Pl.Cod := ⟨⟨#[]⟩, 0, [], []⟩
def unpC (o : Option Pl.Cod) : Pl.Cod := o.getD codZ
def unpE (o : Option Pl.Cod) : Int := if o.isSome then 0 else 203
theorem CodAt.zero (w : World) : CodAt w.heap.size w codZ (.slice none 0 0) (.slice none 0 0) := by
  unfold codZ
  exact ⟨.mk none [] 0 (fun _ => .nilFunc) (by simp) ⟨by simp, by unfold maxLen; omega, by simp, by simp, by simp, by simp, by simp⟩ (by simp) (by simp),
    ⟨none, 0, fun _ => .nilFunc, rfl, by simp, ⟨by simp, by unfold maxLen; omega, by simp, by simp, by simp, by simp, by simp⟩, by simp, by simp⟩, by show (⟨#[]⟩ : ByteArray).size ≤ _; simp [ByteArray.size], by show (_ : Int) ≤ 0; omega, by show (0 : Int) ≤ _; omega, Nat.le_refl _⟩
theorem unpC_small {sel b : ByteArray} {lits : List Pl.Lit} (hl : Pl.litsBig lits ≤ 262144) :
    (∀ u ∈ (unpC (Pl.unpackC sel lits b)).units, u.code.length ≤ 262144) ∧ (unpC (Pl.unpackC sel lits b)).units.length ≤ 255 ∧ Pl.litsBig (unpC (Pl.unpackC sel lits b)).lits ≤ 262144 := by
  cases h : Pl.unpackC sel lits b with
  | none => exact ⟨fun u hu => by simp [unpC, codZ] at hu, Nat.zero_le _, Nat.zero_le _⟩
  | some c =>
    obtain ⟨e1, e2, hck, _⟩ := Pl.unpack_some h
    obtain ⟨hf, hs, _⟩ := Pl.check_ok.1 hck
    refine ⟨fun u hu => ?_, hf.nu.2, ?_⟩
    · have := (Pl.untOk_of hf hs u hu).n
      omega
    · show Pl.litsBig c.lits ≤ _
      rw [e2]; exact hl
theorem unpack_uni {B : Nat} {w : World} {sel b : ByteArray} {lits : List Pl.Lit} {L : Value} (hL : LitsAt B w lits L) (hBw : B ≤ w.heap.size) (hsel : sel.size ≤ 140737488355328) (hbs : b.size ≤ 140737488355328) (he : ErrAt w) (hEB : 9 < B) (hbig : Pl.litsBig lits ≤ 262144) :
    Calls Tryz.prog 20 #[.string sel, L, .string b] w fun e w' => ∃ L' U' ri rl, e = .returned (.tuple #[codV (unpC (Pl.unpackC sel lits b)) L' U', .int .i64 (unpE (Pl.unpackC sel lits b))]) ∧ CodOwn w' 37 58 61 (unpC (Pl.unpackC sel lits b)) L' U' ri rl ∧
      (∀ k, In (U' :: (ri ++ rl)) k → w.heap.size ≤ k) ∧ CodAt w'.heap.size w' (unpC (Pl.unpackC sel lits b)) L' U' ∧ Below w.heap.size w w' := by
  refine (unpack_own hL hBw hsel hbs he hEB hbig).mono ?_
  rintro e w' ⟨⟨c, L', U', ri, rl, h1, rfl, h3, h4, h5⟩ | ⟨h1, rfl⟩, hb⟩
  · rw [h1]
    exact ⟨L', U', ri, rl, rfl, h3, h4, h5, hb⟩
  · rw [h1]
    exact ⟨.slice none 0 0, .slice none 0 0, [], [.slice none 0 0], rfl, CodOwn.zero w' _ _ _, fun k hk => (In.nils (n := 2) hk).elim, CodAt.zero w', hb⟩
theorem runpack_uni {B G : Nat} {w : World} {sel b : ByteArray} {lits : List Pl.Lit} {L : Value} (hL : LitsAt B w lits L) (hBG : B ≤ G) (hG : G < w.heap.size) (hsel : sel.size ≤ 140737488355328) (hbs : b.size ≤ 140737488355328) (hbig : Pl.litsBig lits ≤ 262144) :
    Calls Tryz.prog 19 #[.string sel, L, .string b] w fun e w' => ∃ Lw Uw, e = .returned (.tuple #[codV (unpC (Pl.unpackC sel lits b)) Lw Uw, .int .i64 (unpE (Pl.unpackC sel lits b))]) ∧
      (∀ W, Save (fun k => k = G) w' W → CodAt W.heap.size W (unpC (Pl.unpackC sel lits b)) Lw Uw) ∧ Below w.heap.size w w' := by
  refine (runpack_any hL (by omega) hsel hbs hbig).mono ?_
  rintro e w' ⟨⟨c, U', h1, rfl, h3⟩ | ⟨h1, rfl⟩, hb⟩
  · rw [h1]
    refine ⟨L, U', rfl, fun W hW => ?_, hb⟩
    obtain ⟨e1, e2, hck, _⟩ := Pl.unpack_some h1
    obtain ⟨hf, hs, _⟩ := Pl.check_ok.1 hck
    have hz := hb.size
    have hz2 := hW.size
    have hl : LitsAt W.heap.size W lits L := ((hL.keep (hb.mono (by omega))).keep (hW.below (B := B) (by omega) (fun j hj e => by omega))).up (by omega)
    have hp := hf.p
    refine ⟨by show LitsAt _ _ c.lits L; rw [e2]; exact hl, (h3.save hW (fun k _ hk e => by omega)).at, by show c.sel.size ≤ _; rw [e1]; exact hsel, ?_, ?_, Nat.le_refl _⟩
    · show (_ : Int) ≤ c.prim
      unfold Pl.in_ at hp; omega
    · show c.prim ≤ _
      unfold Pl.in_ at hp; omega
  · rw [h1]
    exact ⟨.slice none 0 0, .slice none 0 0, rfl, fun W _ => CodAt.zero W, hb⟩
abbrev BInv (w6 w : World) (G i : Nat) (I U L : Value) (ri ru rl : List Value) : Prop := BookInv w6 w G i 56 23 22 61 58 37 I U L ri ru rl
set_option maxRecDepth 100000 in
set_option maxHeartbeats 8000000 in
theorem unpacks_of (HA : AwakeC) {sel b : ByteArray} {lits : List Pl.Lit} {L : Value} (w : World) (hL : LitsAt w.heap.size w lits L) (hsel : sel.size ≤ 140737488355328) (hb : b.size ≤ 140737488355328) (he : ErrAt w) :
    Calls Tryz.prog 5 #[.string sel, L, .string b] w fun e w' => e = .returned (.bool true) ∧ Below w.heap.size w w' := by
  have HL := Lib.hid hL
  have HE := Lib.hid he
  have HAW := Lib.hid HA
  have FAR := Lib.hid (fun (W : World) (hb : Below w.heap.size w W) => far_any (c := ⟨sel, 0, lits, []⟩) (U := .slice none 0 0) W
    ⟨(hL.keep hb).up hb.size, ⟨none, 0, fun _ => .nilFunc, rfl, by simp, ⟨by simp, by unfold maxLen; omega, by simp, by simp, by simp, by simp, by simp⟩, by simp, by simp⟩, hsel, (show (-9223372036854775808 : Int) ≤ 0 by omega), (show (0 : Int) ≤ 9223372036854775807 by omega), Nat.le_refl _⟩)
  obtain ⟨Al, capl, Vl, rfl, _⟩ := hL.out
  unfold codV at FAR
  clear hL he HA
  go_enter Tryz.func5, Tryz.ntmps5
  go_wp2_with fail
  refine (HAW.out w HE.out).mono ?_
  rintro e w2 ⟨rfl, hb2⟩
  have HB2 := Lib.hid hb2
  have FR := Lib.hid (FAR.out w2 hb2)
  clear hb2
  go_wp2_with fail
  refine FR.out.mono ?_
  rintro e w3 ⟨⟨t, rfl, ht⟩, hb3⟩
  have HB3 := Lib.hid (HB2.out.trans (hb3.mono HB2.out.size))
  clear hb3 FR
  cases t
  rotate_left 1
  · clear ht
    go_wp2_with fail
    go_ret
    exact ⟨rfl, HB3.out⟩
  have hbig : Pl.litsBig lits ≤ 262144 := by have := ht rfl; unfold Pl.codBig at this; simp only at this; omega
  clear ht
  by_cases hbl : 262144 < b.size
  · have hbI : (262144 : Int) < (b.size : Int) := by omega
    go_wp2_with fail
    go_ret
    exact ⟨rfl, HB3.out⟩
  have hbI : (b.size : Int) ≤ 262144 := by omega
  have LE := Lib.hid (show Calls Tryz.prog 18 #[.agg #[.int .u8 10, .int .i64 0, .int .u64 0, .string ⟨#[]⟩, .slice Al lits.length capl]] w3
      (fun e w' => ∃ v', e = .returned (.agg #[.int .u8 10, .int .i64 0, .int .u64 0, .string ⟨#[]⟩, v']) ∧ LentOf (fun k => w3.heap.size ≤ k) w' lits v' ∧ Below w3.heap.size w3 w') from
    lendLit_any HL.out (⟨10, 0, 0, ⟨#[]⟩, lits⟩ : Pl.Lit) w3 rfl HB3.out (Nat.le_refl _) ⟨by show (10 : Nat) < 256; omega, by show (_ : Int) ≤ 0; omega, by show (0 : Int) ≤ _; omega, by show (0 : Nat) < _; omega, by show (⟨#[]⟩ : ByteArray).size ≤ _; simp [ByteArray.size]⟩ (by omega))
  go_wp2_with fail
  refine LE.out.mono ?_
  rintro e w4 ⟨v', rfl, hlent, hb4⟩
  obtain ⟨gl, rfl⟩ := hlent.slice
  have HB4 := Lib.hid (HB3.out.trans (hb4.mono HB3.out.size))
  have HLT := Lib.hid (hlent.mono (Q' := fun k => k < w4.heap.size) (fun k hk _ => hk))
  clear hb4 hlent LE
  go_upto_region 6 with (fail)
  have HD5 := Lib.hid (heap_alloc_new w4 (.cells #[.int .u8 10, .int .i64 0, .int .u64 0, .string ⟨#[]⟩, .slice (some ⟨gl, 0, none⟩) lits.length (lits.length + 1)] 37))
  have HB5 := Lib.hid (HB4.out.alloc HB4.out.size (.cells #[.int .u8 10, .int .i64 0, .int .u64 0, .string ⟨#[]⟩, .slice (some ⟨gl, 0, none⟩) lits.length (lits.length + 1)] 37))
  have HB45 := Lib.hid ((Below.refl w4.heap.size w4).alloc (Nat.le_refl _) (.cells #[.int .u8 10, .int .i64 0, .int .u64 0, .string ⟨#[]⟩, .slice (some ⟨gl, 0, none⟩) lits.length (lits.length + 1)] 37))
  have hz5 : w4.heap.size < (w4.alloc (.cells #[.int .u8 10, .int .i64 0, .int .u64 0, .string ⟨#[]⟩, .slice (some ⟨gl, 0, none⟩) lits.length (lits.length + 1)] 37)).heap.size := by simp
  generalize w4.alloc (.cells #[.int .u8 10, .int .i64 0, .int .u64 0, .string ⟨#[]⟩, .slice (some ⟨gl, 0, none⟩) lits.length (lits.length + 1)] 37) = w5 at HD5 HB5 HB45 hz5 ⊢
  go_upto_region 7 with (fail)
  have HD6 := Lib.hid (heap_alloc_new w5 (.cells #[.slice none 0 0, .slice none 0 0, .slice none 0 0, .slice none 0 0, .slice none 0 0, .slice none 0 0] 49))
  have hz6 : w5.heap.size < (w5.alloc (.cells #[.slice none 0 0, .slice none 0 0, .slice none 0 0, .slice none 0 0, .slice none 0 0, .slice none 0 0] 49)).heap.size := by simp
  have HBOX := Lib.hid (show BookBox (w5.alloc (.cells #[.slice none 0 0, .slice none 0 0, .slice none 0 0, .slice none 0 0, .slice none 0 0, .slice none 0 0] 49)) w5.heap.size (.slice none 0 0) (.slice none 0 0) (.slice none 0 0) from
    ⟨Lib.cell_of_heap HD6.out 0, Lib.cell_of_heap HD6.out 1, Lib.cell_of_heap HD6.out 2, Lib.cell_of_heap HD6.out 3, Lib.cell_of_heap HD6.out 4, Lib.cell_of_heap HD6.out 5, World.frozen?_alloc_new _ _ _ _, World.frozen?_alloc_new _ _ _ _, World.frozen?_alloc_new _ _ _ _, hz6⟩)
  have HB56 := Lib.hid ((Below.refl w5.heap.size w5).alloc (Nat.le_refl _) (.cells #[.slice none 0 0, .slice none 0 0, .slice none 0 0, .slice none 0 0, .slice none 0 0, .slice none 0 0] 49))
  generalize w5.alloc (.cells #[.slice none 0 0, .slice none 0 0, .slice none 0 0, .slice none 0 0, .slice none 0 0, .slice none 0 0] 49) = w6 at HD6 HBOX HB56 hz6 ⊢
  clear HD6
  obtain ⟨G, hG⟩ : ∃ G, w5.heap.size = G := ⟨_, rfl⟩
  have HG := Lib.hid hG
  rw [hG] at hz6 HBOX HB56 ⊢
  have hwG : w.heap.size ≤ G := by rw [← hG]; exact HB5.out.size
  have hw4G : w4.heap.size < G := by rw [← hG]; exact hz5
  clear hG hz5
  have HB6 := Lib.hid (HB5.out.trans (HB56.out.mono hwG))
  have RP := Lib.hid (runpack_uni (G := G) (sel := sel) (b := b) (HL.out.keep HB6.out) hwG hz6 hsel hb hbig)
  obtain ⟨c, hc⟩ : ∃ c, unpC (Pl.unpackC sel lits b) = c := ⟨_, rfl⟩
  obtain ⟨ef, hef⟩ : ∃ x, unpE (Pl.unpackC sel lits b) = x := ⟨_, rfl⟩
  have HSM := Lib.hid (unpC_small (sel := sel) (b := b) hbig)
  have UN := Lib.hid (fun (W : World) (L1 : Value) (B : Nat) (h1 : LitsAt B W lits L1) (h2 : B ≤ W.heap.size) (h3 : ErrAt W) (h4 : 9 < B) => unpack_uni (sel := sel) (b := b) h1 h2 hsel hb h3 h4 hbig)
  rw [hc] at HSM
  rw [hc, hef] at RP UN
  clear hc hef
  go_wp2_with fail
  refine RP.out.mono ?_
  rintro e w7 ⟨Lw, Uw, rfl, hwant, hb7⟩
  have hw0 := hwant w7 (Save.refl _ _)
  obtain ⟨A1, k1, _, rfl, _⟩ := hw0.l.out
  obtain ⟨A2, k2, _, rfl, _⟩ := hw0.u
  have HWANT := Lib.hid hwant
  have HB67 := Lib.hid hb7
  clear hwant hb7 hw0 RP
  unfold codV
  go_upto_region 8 with (fail)
  have HD8 := Lib.hid (heap_alloc_new w7 (.cells #[.string c.sel, .int .i64 c.prim, .slice A1 c.lits.length k1, .slice A2 c.units.length k2] 25))
  have HB78 := Lib.hid ((Below.refl w7.heap.size w7).alloc (Nat.le_refl _) (.cells #[.string c.sel, .int .i64 c.prim, .slice A1 c.lits.length k1, .slice A2 c.units.length k2] 25))
  have hz8 : w7.heap.size < (w7.alloc (.cells #[.string c.sel, .int .i64 c.prim, .slice A1 c.lits.length k1, .slice A2 c.units.length k2] 25)).heap.size := by simp
  generalize w7.alloc (.cells #[.string c.sel, .int .i64 c.prim, .slice A1 c.lits.length k1, .slice A2 c.units.length k2] 25) = w8 at HD8 HB78 hz8 ⊢
  have hz67 := HB67.out.size
  have HBOX8 := Lib.hid ((HBOX.out.save (Save.none_below' HB67.out) (fun f => f)).save (Save.none_below' HB78.out) (fun f => f))
  have HB48 := Lib.hid (show Below w4.heap.size w4 w8 from ((HB45.out.trans (HB56.out.mono (by omega))).trans (HB67.out.mono (by omega))).trans (HB78.out.mono (by omega)))
  have HK := Lib.hid (fun (W : World) (s : Save (fun k => k = G) w8 W) => show
      (W.cell? ⟨w4.heap.size, 0, none⟩ = some (.int .u8 10) ∧ W.cell? ⟨w4.heap.size, 1, none⟩ = some (.int .i64 0) ∧ W.cell? ⟨w4.heap.size, 2, none⟩ = some (.int .u64 0) ∧ W.cell? ⟨w4.heap.size, 3, none⟩ = some (.string ⟨#[]⟩) ∧ W.cell? ⟨w4.heap.size, 4, none⟩ = some (.slice (some ⟨gl, 0, none⟩) lits.length (lits.length + 1))) ∧
      (W.cell? ⟨w7.heap.size, 0, none⟩ = some (.string c.sel) ∧ W.cell? ⟨w7.heap.size, 1, none⟩ = some (.int .i64 c.prim) ∧ W.cell? ⟨w7.heap.size, 2, none⟩ = some (.slice A1 c.lits.length k1) ∧ W.cell? ⟨w7.heap.size, 3, none⟩ = some (.slice A2 c.units.length k2)) ∧
      w4.heap.size < W.heap.size ∧ w7.heap.size < W.heap.size ∧ G < W.heap.size ∧ w8.heap.size ≤ W.heap.size ∧ CodAt W.heap.size W c (.slice A1 c.lits.length k1) (.slice A2 c.units.length k2) ∧ LentOf (fun k => k < w4.heap.size) W lits (.slice (some ⟨gl, 0, none⟩) lits.length (lits.length + 1)) ∧ Below w.heap.size w W from by
    have hs := s.size
    have b4 : Below w4.heap.size w4 W := HB48.out.trans (s.below (by omega) (fun j hj e => by omega))
    have h5 := (((HB56.out.block w4.heap.size (by omega)).trans HD5.out))
    have h8 := ((HB78.out.block w4.heap.size (by omega)).trans (HB67.out.block w4.heap.size (by omega))).trans h5
    have hW4 := (s.block w4.heap.size (by omega) (fun e => by omega)).trans h8
    have hW7 := (s.block w7.heap.size (by omega) (fun e => by omega)).trans HD8.out
    refine ⟨⟨Lib.cell_of_heap hW4 0, Lib.cell_of_heap hW4 1, Lib.cell_of_heap hW4 2, Lib.cell_of_heap hW4 3, Lib.cell_of_heap hW4 4⟩, ⟨Lib.cell_of_heap hW7 0, Lib.cell_of_heap hW7 1, Lib.cell_of_heap hW7 2, Lib.cell_of_heap hW7 3⟩, by omega, by omega, by omega, hs,
      HWANT.out W (((Save.none_below' HB78.out).mono (T := fun k => k = G) (fun _ _ f => f.elim)).trans s (fun _ _ e => e)), HLT.out.keep b4, HB4.out.trans (b4.mono HB4.out.size)⟩)
  have HST := Lib.hid (show BInv w8 w8 G 0 (.slice none 0 0) (.slice none 0 0) (.slice none 0 0) [] [] [] from .start HBOX8.out)
  have hEB : 9 < w4.heap.size := Nat.lt_of_lt_of_le HE.out.1 HB4.out.size
  have hw44 := HB4.out.size
  have hGw8 : G < w8.heap.size := by omega
  clear HBOX HBOX8 HB45 HB56 HB67 HB78 HD5 HD8 HLT HWANT FAR HAW HB2 HB3 HB5 HB6 HB48 hz6 hz67
  go_wp2_with fail
  go_loopw [13] (fun iv wr => ∃ (i : Nat) (I U L : Value) (ri ru rl : List Value), iv = .int .i64 i ∧ i ≤ 2 ∧ BInv w8 wr G i I U L ri ru rl) (fun iv _ => 2 - (RowKit.intOf iv).toNat)
  case atStart => exact ⟨0, _, _, _, _, _, _, rfl, by omega, HST.out⟩
  case round =>
    obtain ⟨i, I, U, L, ri, ru, rl, rfl, hi, hbk⟩ := hrel
    have HBK := Lib.hid hbk
    obtain ⟨⟨a0, a1, a2, a3, a4⟩, ⟨d0, d1, d2, d3⟩, hl4, hl7, hlG, hl8, hwt, hln, hbw⟩ := HK.out wr hbk.s
    have HWT := Lib.hid hwt
    have HLN := Lib.hid hln
    have HBW := Lib.hid hbw
    clear hbk hwt hln hbw
    have hew := HE.out.keep HBW.out HE.out.1
    by_cases hlt : i < 2
    · have hltI : (i : Int) < 2 := by omega
      have U1 := Lib.hid (UN.out wr _ w4.heap.size HLN.out.lits (by omega) hew hEB)
      clear hew
      go_wp2_with fail
      refine U1.out.mono ?_
      rintro e wa ⟨L1, U1, ri1, rl1, rfl, hco, hin, hca, hba⟩
      obtain ⟨A3, k3, _, rfl, _⟩ := hca.l.out
      obtain ⟨A4, k4, _, rfl, _⟩ := hca.u
      have HCO := Lib.hid hco
      have HIN := Lib.hid hin
      have HCA := Lib.hid hca
      have HBA := Lib.hid hba
      clear hco hin hca hba U1 a0 a1 a2 a3 a4 d0 d1 d2 d3
      unfold codV
      go_upto_region 12 with (fail)
      have HDb := Lib.hid (heap_alloc_new wa (.cells #[.string c.sel, .int .i64 c.prim, .slice A3 c.lits.length k3, .slice A4 c.units.length k4] 25))
      have HAB := Lib.hid ((Below.refl wa.heap.size wa).alloc (Nat.le_refl _) (.cells #[.string c.sel, .int .i64 c.prim, .slice A3 c.lits.length k3, .slice A4 c.units.length k4] 25))
      have hzb : wa.heap.size < (wa.alloc (.cells #[.string c.sel, .int .i64 c.prim, .slice A3 c.lits.length k3, .slice A4 c.units.length k4] 25)).heap.size := by simp
      generalize wa.alloc (.cells #[.string c.sel, .int .i64 c.prim, .slice A3 c.lits.length k3, .slice A4 c.units.length k4] 25) = wb at HDb HAB hzb ⊢
      have HRB := Lib.hid (HBA.out.trans (HAB.out.mono HBA.out.size))
      obtain ⟨⟨a0, a1, a2, a3, a4⟩, ⟨d0, d1, d2, d3⟩, hl4b, hl7b, hlGb, hl8b, hwtb, _, _⟩ := HK.out wb (HBK.out.keep HRB.out).s
      have y0 : wb.cell? ⟨wa.heap.size, 0, none⟩ = some (.string c.sel) := Lib.cell_of_heap HDb.out 0
      have y1 : wb.cell? ⟨wa.heap.size, 1, none⟩ = some (.int .i64 c.prim) := Lib.cell_of_heap HDb.out 1
      have y2 : wb.cell? ⟨wa.heap.size, 2, none⟩ = some (.slice A3 c.lits.length k3) := Lib.cell_of_heap HDb.out 2
      have y3 : wb.cell? ⟨wa.heap.size, 3, none⟩ = some (.slice A4 c.units.length k4) := Lib.cell_of_heap HDb.out 3
      have SC := Lib.hid (sameCode_any wb (HCA.out.wide' HAB.out) hwtb)
      rw [show Pl.same c c = true from Pl.same_true rfl] at SC
      unfold codV at SC
      clear hwtb
      go_wp2_with fail
      refine SC.out.mono ?_
      rintro e wc ⟨rfl, hbc⟩
      have HBC := Lib.hid hbc
      have HRC := Lib.hid (HRB.out.trans (hbc.mono HRB.out.size))
      have hzc := hbc.size
      clear hbc a0 a1 a2 a3 a4 d0 d1 d2 d3 y0 y1 y2 y3 hl4b hl7b hlGb hl8b SC
      have HDc := Lib.hid ((HBC.out.block wa.heap.size hzb).trans HDb.out)
      have y0 : wc.cell? ⟨wa.heap.size, 0, none⟩ = some (.string c.sel) := Lib.cell_of_heap HDc.out 0
      have y1 : wc.cell? ⟨wa.heap.size, 1, none⟩ = some (.int .i64 c.prim) := Lib.cell_of_heap HDc.out 1
      have y2 : wc.cell? ⟨wa.heap.size, 2, none⟩ = some (.slice A3 c.lits.length k3) := Lib.cell_of_heap HDc.out 2
      have y3 : wc.cell? ⟨wa.heap.size, 3, none⟩ = some (.slice A4 c.units.length k4) := Lib.cell_of_heap HDc.out 3
      have hzc2 : wa.heap.size < wc.heap.size := by omega
      have HCC := Lib.hid ((HCO.out.save (Save.none_below' HAB.out) (fun _ _ f => f)).save (Save.none_below' HBC.out) (fun _ _ f => f))
      have CC := Lib.hid (show Calls Tryz.prog 21 #[.pointer (some ⟨G, 0, none⟩), .agg #[.string c.sel, .int .i64 c.prim, .slice A3 c.lits.length k3, .slice A4 c.units.length k4]] wc (fun e w' => e = .returned (.tuple #[]) ∧ ∃ I' U' L' ri' ru' rl', BInv w8 w' G (i + 1) I' U' L' ri' ru' rl') from by
        obtain ⟨_, r2, r3⟩ := HCC.out.rlens HSM.out.1 HSM.out.2.1 HSM.out.2.2
        have q1 := HBK.out.li
        have q2 := HBK.out.lu
        have q3 := HBK.out.ll
        have hb' := (HBK.out.keep HRC.out).b
        refine (codesCode_any hb' HCC.out (fun k hk hk2 => ?_) (by omega) (by omega) (by omega)).mono ?_
        · have := HIN.out k hk
          have := HBK.out.b.lt hk2
          omega
        · rintro e w' ⟨he, I', U', L', x1, x2, x3, x4, x5, x6⟩
          exact ⟨he, I', U', L', _, _, _, HBK.out.more HRC.out HCC.out HIN.out HSM.out.1 HSM.out.2.1 HSM.out.2.2 ⟨x1, x2, x3, x4, x5, x6⟩⟩)
      go_wp2_with fail
      refine CC.out.mono ?_
      rintro e wd ⟨rfl, I', U', L', ri', ru', rl', hx⟩
      have HX := Lib.hid hx
      clear hx
      go_wp2_with fail
      go_roundw
      case rel => exact ⟨i + 1, I', U', L', ri', ru', rl', by go_num, by omega, HX.out⟩
      case measure => simp [RowKit.intOf]; omega
    · have hltI : (2 : Int) ≤ (i : Int) := by omega
      have WL := Lib.hid (show Calls Tryz.prog 22 #[.agg #[.int .u8 10, .int .i64 0, .int .u64 0, .string ⟨#[]⟩, .slice (some ⟨gl, 0, none⟩) lits.length (lits.length + 1)], .agg #[.int .u8 10, .int .i64 0, .int .u64 0, .string ⟨#[]⟩, .slice Al lits.length capl]] wr
          (fun e w' => e = .returned (.bool true) ∧ Below wr.heap.size wr w') from
        wholeLit_any (x := (⟨10, 0, 0, ⟨#[]⟩, lits⟩ : Pl.Lit)) (y := (⟨10, 0, 0, ⟨#[]⟩, lits⟩ : Pl.Lit)) (B := w4.heap.size) HLN.out ((HL.out.keep HBW.out).up hw44) (by omega) wr (Below.refl _ _) (Pl.same_true rfl))
      clear hew
      go_wp2_with fail
      refine WL.out.mono ?_
      rintro e wy ⟨rfl, hby⟩
      have HBY := Lib.hid hby
      have OW := Lib.hid (codesOwn_any wy G I U L ri ru rl (HBK.out.keep hby).b (by have := HBK.out.li; omega) (by have := HBK.out.lu; omega) (by have := HBK.out.ll; omega) (fun r hr => by have := HBK.out.sm r hr; omega))
      clear hby
      go_wp2_with fail
      refine OW.out.mono ?_
      rintro e wz ⟨rfl, hsz⟩
      have HSZ := Lib.hid hsz
      clear hsz
      go_wp2_with fail
      first | go_end0 | go_ret
      refine ⟨rfl, (HBW.out.trans (HBY.out.mono HBW.out.size)).trans (HSZ.out.below (Nat.le_trans HBW.out.size HBY.out.size) (fun j hj e => ?_))⟩
      have := HBK.out.n j (In.cons.2 (.inr (In.cons.2 (.inr (In.cons.2 (.inr e))))))
      omega
end Go.Proofs.YtoklnpoacckbfaaGreatDoor
