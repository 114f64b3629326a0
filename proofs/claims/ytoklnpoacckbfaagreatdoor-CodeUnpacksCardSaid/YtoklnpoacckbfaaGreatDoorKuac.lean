/- reader.unit: a unit whose instructions' list is its owner's. (Printed by gen_upo.py out of XUrs.) code.own: literals each of whose lists is their owner's alone. code.Unpack: what comes out is its owner's. (Printed by gen_upo.py out of XUpk.) -/
import Derived.Test.YtoklnpoacckbfaaGreatDoorKabn
import Derived.Test.YtoklnpoacckbfaaGreatDoorKabo
import Derived.Test.YtoklnpoacckbfaaGreatDoorKuab
namespace Go.Proofs.YtoklnpoacckbfaaGreatDoor
open Go Go.RowKit Go.Lib
set_option maxRecDepth 100000 in
set_option maxHeartbeats 4000000 in
theorem unit_six_o {w : World} {P a c o s m n : Nat} {r : List Nat} (N : Nat) (hN : N = m + 256 * n) (h : RS (fun k => k = P) w w P (a :: c :: o :: s :: m :: n :: r)) :
    Calls Tryz.prog 48 #[.pointer (some ⟨P, 0, none⟩)] w fun e w' =>
      (∃ xs r1 v, Pl.rdMany (Pl.rdIns Pl.knownB) N r = some (xs, r1) ∧ e = .returned (.agg #[.int .i64 a, .int .i64 c, .int .i64 o, .int .i64 s, v]) ∧ RS (fun k => k = P) w w' P r1 ∧ Owns w' w.heap.size 61 3 v xs.length (insRow xs) ∧ (∀ x ∈ xs, Pl.InsW x) ∧ xs.length ≤ 65535) ∨
      (Pl.rdMany (Pl.rdIns Pl.knownB) N r = none ∧ e = .panicked shortP ∧ Save (fun k => k = P) w w') := by
  have ha := h.lt a (by simp)
  have hc := h.lt c (by simp)
  have ho := h.lt o (by simp)
  have hs := h.lt s (by simp)
  have hm := h.lt m (by simp)
  have hn := h.lt n (by simp)
  have hPw := h.hP
  have HE := Lib.hid h
  have HS := Lib.hid ((h.alloc (.cells #[.int .i64 0, .int .i64 0, .int .i64 0, .int .i64 0, .slice none 0 0] 58)).self (T := fun k => k = P))
  have HR1 := Lib.hid (UntBox.new w 0 0 0 0 (.slice none 0 0))
  have HW1 := Lib.hid ((Save.refl (fun k => k = P) w).alloc (.cells #[.int .i64 0, .int .i64 0, .int .i64 0, .int .i64 0, .slice none 0 0] 58))
  have HZ := Lib.hid (show (w.alloc (.cells #[.int .i64 0, .int .i64 0, .int .i64 0, .int .i64 0, .slice none 0 0] 58)).heap.size = w.heap.size + 1 by simp)
  clear h
  go_enter Tryz.func48, Tryz.ntmps48
  go_wp2_with (go_at_call 47; refine (nextR (by exact HS.out) (by exact rfl)).mono ?_; rintro e w5 (⟨b, t, hl', rfl, hr, hbt⟩ | ⟨hl', rfl, rfl⟩) <;> cases hl' <;> (have HS := Lib.hid hr; have HZ := Lib.hid (hbt.size.trans HZ.out); clear hr hbt))
  obtain ⟨U, hU⟩ : ∃ U, w5.heap.size = U := ⟨_, rfl⟩
  have hUR : w.heap.size < U := by have := HZ.out; omega
  have HR6 := Lib.hid ((HR1.out.save HS.out.s (show ¬ w.heap.size = P by omega)).save ((Save.refl (fun _ => False) w5).alloc (.cells #[.int .i64 a, .int .i64 c, .int .i64 o, .int .i64 s, .slice none 0 0] 58)) (fun f => f))
  have HW6 := Lib.hid ((HW1.out.trans HS.out.s (fun _ _ h => h)).alloc (.cells #[.int .i64 a, .int .i64 c, .int .i64 o, .int .i64 s, .slice none 0 0] 58))
  have HU6 := Lib.hid (UntBox.new w5 a c o s (.slice none 0 0))
  have HS6 := Lib.hid ((HS.out.alloc (.cells #[.int .i64 a, .int .i64 c, .int .i64 o, .int .i64 s, .slice none 0 0] 58)).self (T := fun k => k = P ∨ k = U))
  have hz6 : U < (w5.alloc (.cells #[.int .i64 a, .int .i64 c, .int .i64 o, .int .i64 s, .slice none 0 0] 58)).heap.size := by simp; omega
  clear HS HR1 HW1 HZ
  rw [hU] at HU6 ⊢
  clear hU
  generalize w5.alloc (.cells #[.int .i64 a, .int .i64 c, .int .i64 o, .int .i64 s, .slice none 0 0] 58) = w6 at HR6 HW6 HU6 HS6 hz6 ⊢
  go_wp2_with (go_at_call 47; refine (nextR (by exact HS6.out) (by exact .inl rfl)).mono ?_; rintro e w8 (⟨b, t, hl', rfl, hr, hbt⟩ | ⟨hl', rfl, rfl⟩) <;> cases hl' <;> (have HS6 := Lib.hid hr; have HU6 := Lib.hid (HU6.out.save hbt.save (show ¬ U = P by omega)); have hz8 := hbt.size; clear hr hbt))
  have hNI : (m : Int) + (n : Int) * 256 = (N : Int) := by omega
  have hN2 : N < 65536 := by omega
  rw [hNI]
  clear hN hNI
  have HO6 := Lib.hid (Owns.nil w8 w6.heap.size 61 3)
  generalize hq0 : Value.slice none 0 0 = q0 at HO6 HU6
  clear hq0
  go_loopw [26] (fun iv wr => ∃ (k : Nat) (xs : List Pl.Ins) (t : List Nat) (q : Value), iv = .int .i64 k ∧ k ≤ N ∧ Pl.rdMany (Pl.rdIns Pl.knownB) N r = Pl.glue xs (Pl.rdMany (Pl.rdIns Pl.knownB) (N - k) t) ∧ xs.length = k ∧ (∀ x ∈ xs, Pl.InsW x) ∧
      RS (fun k => k = P ∨ k = U) w6 wr P t ∧ UntBox wr U a c o s q ∧ Owns wr w6.heap.size 61 3 q xs.length (insRow xs)) (fun iv _ => N - (RowKit.intOf iv).toNat)
  case atStart => exact ⟨0, [], r, q0, rfl, Nat.zero_le _, (Pl.glue_nil _).symm, rfl, by simp, HS6.out, HU6.out, HO6.out⟩
  case round =>
    obtain ⟨k, xs, t, q, rfl, hk, hEq, hxl, hxw, hS, hU, hO⟩ := hrel
    have HEQ := Lib.hid hEq
    have HXW := Lib.hid hxw
    have HS := Lib.hid hS
    have HU := Lib.hid hU
    have HO := Lib.hid hO
    have hz := hS.s.size
    clear hEq hxw hS hU hO HS6 HU6 HO6
    subst hxl
    by_cases hlt : xs.length < N
    · have hltI : (xs.length : Int) < (N : Int) := by omega
      obtain ⟨d, hd⟩ : ∃ d, N - xs.length = d + 1 := ⟨N - xs.length - 1, by omega⟩
      have hd1 : N - (xs.length + 1) = d := by omega
      rw [hd] at HEQ
      rcases t with _ | ⟨op, t⟩
      · go_wp2_with (go_at_call 47; refine (nextR (by exact HS.out) (by exact .inl rfl)).mono ?_; rintro e w9 (⟨b, t', hl', rfl, hr, hbt⟩ | ⟨hl', rfl, rfl⟩) <;> cases hl')
        exact ⟨rfl, .inr ⟨by rw [HEQ.out]; exact Pl.glue_stop (Pl.rdIns_nil _), rfl, HW6.out.trans HS.out.s (fun j hj h => h.elim id (fun e => by omega))⟩⟩
      · have hop := HS.out.lt op (by simp)
        have hopI : (op : Int) < 256 := by omega
        have HT := Lib.hid (fun b (hb : b ∈ t) => HS.out.lt b (List.mem_cons_of_mem _ hb))
        have hxn := HO.out.not_new (b := P)
        by_cases hkn : Pl.knownB op = true
        · have HKN := Lib.hid hkn
          have OF := Lib.hid (of_known op (Pl.knownB_iff.1 hkn))
          have HSH := Lib.hid (show Pl.shFirst op = (Pl.bytesA op : Nat) from by have := Pl.knownB_iff.1 hkn; unfold Pl.known at this; unfold Pl.shFirst; rw [if_neg (by omega)])
          unfold Pl.shapeV at OF
          obtain ⟨wk, hwk⟩ : ∃ z, z = wr := ⟨wr, rfl⟩
          subst hwk
          clear hkn
          go_wp2_with (first
            | (go_at_call 47; refine (nextR (by exact HS.out) (by exact .inl rfl)).mono ?_; rintro e w9 (⟨b, t', hl', rfl, hr, hbt⟩ | ⟨hl', rfl, rfl⟩) <;> cases hl'
               have HS9 := Lib.hid hr
               have HU9 := Lib.hid (HU.out.save hbt.save (show ¬ U = P by omega))
               have HO9 := Lib.hid (HO.out.save hbt.save (fun g hg e => by have := (HO.out.lt g hg).1; omega))
               have hz9 := (show w6.heap.size ≤ w9.heap.size by have := hbt.size; omega)
               clear hr hbt)
            | (go_at_call 35; refine (OF.out _).mono ?_; rintro e w11 ⟨rfl, hb11⟩
               have SB := Save.none_below hb11
               have HS11 := Lib.hid ((HS9.out.alloc (.cells #[.int .u8 op, .int .i64 0, .int .i64 0] 61)).save SB (fun f => f) (fun _ _ f => f.elim))
               have HU11 := Lib.hid ((HU9.out.save (Save.none_alloc w9 (.cells #[.int .u8 op, .int .i64 0, .int .i64 0] 61)) (fun f => f)).save SB (fun f => f))
               have HO11 := Lib.hid ((HO9.out.alloc (.cells #[.int .u8 op, .int .i64 0, .int .i64 0] 61)).save SB (fun _ _ f => f))
               have HX11 := Lib.hid ((InsBox.new w9 op 0 0).save SB (fun f => f))
               have hz11 := (show w9.heap.size < w11.heap.size by have := hb11.size; simp at this; omega)
               clear hb11 SB))
          rw [HSH.out]
          have SA := Save.none_alloc w11 (.cells #[.string (Pl.opName op), .int .i64 (Pl.bytesA op : Nat), .bool (Pl.two op), .int .i64 (Pl.shOff op), .int .i64 (Pl.shLays op)] 69)
          have HSS := Lib.hid ((HS11.out.save SA (fun f => f) (fun _ _ f => f.elim)))
          have HUS := Lib.hid (HU11.out.save SA (fun f => f))
          have HOS := Lib.hid (HO11.out.save SA (fun _ _ f => f))
          have HXS := Lib.hid (HX11.out.save SA (fun f => f))
          have s2 : (w11.alloc (.cells #[.string (Pl.opName op), .int .i64 (Pl.bytesA op : Nat), .bool (Pl.two op), .int .i64 (Pl.shOff op), .int .i64 (Pl.shLays op)] 69)).cell? ⟨w11.heap.size, 2, none⟩ = some (.bool (Pl.two op)) := by simp [go_sem]
          have hzS : w11.heap.size < (w11.alloc (.cells #[.string (Pl.opName op), .int .i64 (Pl.bytesA op : Nat), .bool (Pl.two op), .int .i64 (Pl.shOff op), .int .i64 (Pl.shLays op)] 69)).heap.size := by simp
          have HQX := Lib.hid (show ∀ g, q.ownBlock = some g → g < w9.heap.size from fun g hg => (HO9.out.lt g hg).2)
          clear SA HS11 HU11 HO11 HX11 HS9 HU9 HO9
          generalize w11.alloc (.cells #[.string (Pl.opName op), .int .i64 (Pl.bytesA op : Nat), .bool (Pl.two op), .int .i64 (Pl.shOff op), .int .i64 (Pl.shLays op)] 69) = wS at HSS HUS HOS HXS s2 hzS ⊢
          obtain ⟨Sh, hSh⟩ : ∃ Sh, w11.heap.size = Sh := ⟨_, rfl⟩
          obtain ⟨X, hX⟩ : ∃ X, w9.heap.size = X := ⟨_, rfl⟩
          rw [hSh] at s2 hzS hz11 ⊢
          rw [hX] at HXS hz9 hz11 HQX ⊢
          clear hSh hX
          go_loopw [44] (fun jv wr => ∃ (j : Nat) (av : Int) (t' : List Nat), jv = .int .i64 j ∧ j ≤ Pl.bytesA op ∧ Pl.rdAt j t = some (av, t') ∧ RS (fun k => k = P ∨ k = X) wS wr P t' ∧ InsBox wr X op av 0) (fun jv _ => Pl.bytesA op - (RowKit.intOf jv).toNat)
          case atStart => exact ⟨0, 0, t, rfl, Nat.zero_le _, rfl, HSS.out.self, HXS.out⟩
          case round =>
            obtain ⟨j, av, t', rfl, hj, hat, hS, hX⟩ := hrel
            have HAT := Lib.hid hat
            have HSJ := Lib.hid hS
            have HXJ := Lib.hid hX
            have hzj := hS.s.size
            have hb2 := Pl.bytesA_le op
            obtain ⟨ha0, ha1, hr0, hr1⟩ := rdAt_le (by omega) HT.out hat
            have HR0 := Lib.hid hr0
            have HR1 := Lib.hid hr1
            clear hat hS hX hr0 hr1 HXS
            by_cases hjlt : j < Pl.bytesA op
            · have hjI : (j : Int) < (Pl.bytesA op : Int) := by omega
              obtain ⟨x0, x1, x2, g1, g2, hXl⟩ := HXJ.out
              have hj01 : j = 0 ∨ j = 1 := by omega
              have HDIE := Lib.hid (show t' = [] → Pl.rdMany (Pl.rdIns Pl.knownB) N r = none from fun e => by
                subst e
                rw [HEQ.out]
                refine Pl.glue_stop (Pl.rdIns_a ?_)
                rcases hj01 with rfl | rfl
                · rw [(HR0.out rfl).1]; exact Pl.rdA_none1 (by omega)
                · obtain ⟨b, _, e, _⟩ := HR1.out rfl
                  rw [e]; exact Pl.rdA_none2 (by omega))
              have HPAN := Lib.hid (show Save (fun j => j = P) w wr from HW6.out.trans (HSS.out.s.trans HSJ.out.s (fun j hj h => h.imp id (fun e => by omega))) (fun j hj h => h.elim id (fun e => by omega)))
              rcases hj01 with rfl | rfl
              · rw [show ((0 : Nat) : Int) = 0 from rfl] at hjI ⊢
                have hav := (HR0.out rfl).2
                have htt := (HR0.out rfl).1
                subst hav
                have HT0 := Lib.hid htt
                clear htt
                rcases t' with _ | ⟨b, t2⟩
                · go_wp2_with fail
                  go_region_dies
                  all_goals (refine (nextR (by first | exact HSJ.out | exact HSJ.out.drew) (by exact .inl rfl)).mono ?_; rintro e w13 (⟨b, t2, hl', rfl, hr, hbt⟩ | ⟨hl', rfl, rfl⟩) <;> cases hl'; go_simp; go_loud (exact ⟨rfl, .inr ⟨(by first | exact HDIE.out rfl | exact HDIE.out trivial), rfl, by first | exact HPAN.out | exact HPAN.out.drew⟩⟩))
                · have hb256 := HSJ.out.lt b (by simp)
                  have hb256I : (b : Int) < 256 := by omega
                  have hsh := shl0 b hb256
                  have hXP : ¬ X = P := by omega
                  go_wp2_with fail
                  go_region_with (go_at_call 47; refine (nextR (by first | exact HSJ.out | exact HSJ.out.drew) (by exact .inl rfl)).mono ?_; rintro e w13 (⟨b', t2', hl', rfl, hr, hbt⟩ | ⟨hl', rfl, rfl⟩) <;> cases hl'; have HX13 := Lib.hid (HXJ.out.drew.save hbt.save hXP); have y1 := HX13.out.c1; have y2 := HX13.out.f1; have y3 := HX13.out.lt; have HS13 := Lib.hid hr; clear hr hbt)
                  all_goals
                    go_wp2_with fail
                    go_roundw
                    case rel => exact ⟨0 + 1, _, t2, by go_num, by omega, by rw [HT0.out]; rfl, HS13.out.save ((Save.refl (fun k => k = X) _).set ⟨X, 1, none⟩ _ (fun _ => rfl)) (fun e => hXP e.symm) (fun j hj e => .inr e), HX13.out.setA _⟩
                    case measure => simp [RowKit.intOf]; omega
              · rw [show ((1 : Nat) : Int) = 1 from rfl] at hjI ⊢
                obtain ⟨b0, hb0, htt, hav⟩ := HR1.out rfl
                subst hav
                have HT0 := Lib.hid htt
                clear htt
                rcases t' with _ | ⟨b, t2⟩
                · go_wp2_with fail
                  go_region_dies
                  all_goals (refine (nextR (by first | exact HSJ.out | exact HSJ.out.drew) (by exact .inl rfl)).mono ?_; rintro e w13 (⟨b, t2, hl', rfl, hr, hbt⟩ | ⟨hl', rfl, rfl⟩) <;> cases hl'; go_simp; go_loud (exact ⟨rfl, .inr ⟨(by first | exact HDIE.out rfl | exact HDIE.out trivial), rfl, by first | exact HPAN.out | exact HPAN.out.drew⟩⟩))
                · have hb256 := HSJ.out.lt b (by simp)
                  have hb256I : (b : Int) < 256 := by omega
                  have hsh := shl8 b hb256
                  have hXP : ¬ X = P := by omega
                  go_wp2_with fail
                  go_region_with (go_at_call 47; refine (nextR (by first | exact HSJ.out | exact HSJ.out.drew) (by exact .inl rfl)).mono ?_; rintro e w13 (⟨b', t2', hl', rfl, hr, hbt⟩ | ⟨hl', rfl, rfl⟩) <;> cases hl'; have HX13 := Lib.hid (HXJ.out.drew.save hbt.save hXP); have y1 := HX13.out.c1; have y2 := HX13.out.f1; have y3 := HX13.out.lt; have HS13 := Lib.hid hr; clear hr hbt)
                  all_goals
                    go_wp2_with fail
                    go_roundw
                    case rel => exact ⟨1 + 1, _, t2, by go_num, by omega, by rw [HT0.out]; unfold Pl.rdAt; simp; omega, HS13.out.save ((Save.refl (fun k => k = X) _).set ⟨X, 1, none⟩ _ (fun _ => rfl)) (fun e => hXP e.symm) (fun j hj e => .inr e), HX13.out.setA _⟩
                    case measure => simp [RowKit.intOf]; omega
            · have hjI : (Pl.bytesA op : Int) ≤ (j : Int) := by omega
              have hje : j = Pl.bytesA op := by omega
              rw [hje] at HAT
              have HAT2 := Lib.hid (show Pl.rdA op t = some (av, t') from HAT.out)
              have hXP : ¬ X = P := by omega
              have hXU : ¬ X = U := by omega
              have t2' := (HSJ.out.s.cell 2 hzS (show ¬ (Sh = P ∨ Sh = X) by omega)).trans s2
              have hShl : Sh < wr.heap.size := by omega
              have HS0 := Lib.hid (HSJ.out.lift HSS.out.s (by omega) (fun g hg h => h.imp id (fun e => by omega)))
              have HU0 := Lib.hid (HUS.out.save HSJ.out.s (show ¬ (U = P ∨ U = X) by omega))
              have HO0 := Lib.hid (HOS.out.save HSJ.out.s (fun g hg h => by have h1 := HQX.out g hg; have h2 := (HOS.out.lt g hg).1; omega))
              clear hje HAT HR0 HR1
              cases htw : Pl.two op
              · rw [htw] at t2'
                have HTW := Lib.hid htw
                have HXb := HXJ
                have HUb := HU0
                have HOb := HO0
                have HSb := HS0
                clear htw
                have x0 := HXb.out.c0
                have x1 := HXb.out.c1
                have x2 := HXb.out.c2
                have hXl := HXb.out.lt
                have u4 := HUb.out.c4
                have HAPP := Lib.hid (HOb.out.lt)
                go_wp2_with (at_builtin; go_loud (refine wpList_appI rfl (.tmp 63) (.tmp 65) rfl w6.heap.size _ xs rfl HOb.out ⟨op, av, 0⟩ _ rfl ?hx ?hl ?hb ?_))
                case hx => first | rfl | (show Value.slice (some ⟨_, 0, none⟩) 1 1 = Value.slice (some ⟨(World.setCell _ _ _).heap.size, 0, none⟩) 1 1; simp)
                case hl => omega
                case hb => first | omega | (simp; omega)
                intro q1 w14 hq1 hg1
                have SG := Lib.hid (show Save (fun g => q.ownBlock = some g) _ w14 from (Save.refl _ _).grow hg1 (fun g hg _ => hg))
                have HU14 := Lib.hid (HUb.out.save SG.out (fun e => by have := (HAPP.out _ e).1; omega))
                have HS14 := Lib.hid (HSb.out.save SG.out (fun e => by have := (HAPP.out _ e).1; omega) (fun g hg e => by have := (HAPP.out _ e).1; omega))
                obtain ⟨qa, qc, hqf⟩ := hq1.form
                subst hqf
                have hq1l := hq1.lt
                have HQ1 := Lib.hid hq1
                have v4 := HU14.out.c4
                have vf := HU14.out.f4
                have vl := HU14.out.lt
                have HQL := Lib.hid hq1l
                clear hq1 hg1 x0 x1 x2 u4 hq1l
                go_wp2_with fail
                go_roundw
                case rel =>
                  have SE := (Save.refl (fun g => g = U) w14).set ⟨U, 4, none⟩ (.slice qa (xs.length + 1) qc) (fun _ => rfl)
                  refine ⟨xs.length + 1, xs ++ [⟨op, av, 0⟩], t', .slice qa (xs.length + 1) qc, by go_num, by omega, ?_, by simp, ?_, HS14.out.save SE (fun e => by omega) (fun g _ e => .inr e), HU14.out.set _, ?_⟩
                  · rw [HEQ.out, hd1]; exact Pl.glue_step (Pl.rdIns_ok HKN.out HAT2.out (Pl.rdB_one HTW.out t'))
                  · intro y hy
                    rcases List.mem_append.1 hy with hy | hy
                    · exact HXW.out y hy
                    · simp at hy; subst hy; exact ⟨by simpa using hop, by show _ ≤ av; omega, by show av ≤ _; omega, by show _ ≤ (0 : Int); omega, by show (0 : Int) ≤ _; omega⟩
                  · rw [List.length_append]
                    exact HQ1.out.save SE (fun g hg e => by have := (HQL.out g hg).1; omega)
                case measure => simp [RowKit.intOf]; omega
              · rw [htw] at t2'
                have HTW := Lib.hid htw
                clear htw
                rcases t' with _ | ⟨bv, t2⟩
                · go_wp2_with (go_at_call 47; refine (nextR (by exact HS0.out) (by exact .inl rfl)).mono ?_; rintro e w13 (⟨b, t2, hl', rfl, hr, hbt⟩ | ⟨hl', rfl, rfl⟩) <;> cases hl')
                  exact ⟨rfl, .inr ⟨by rw [HEQ.out]; exact Pl.glue_stop (Pl.rdIns_b HAT2.out (Pl.rdB_two_nil HTW.out)), rfl, HW6.out.trans HS0.out.s (fun j hj h => h.elim id (fun e => by omega))⟩⟩
                have hbv := HS0.out.lt bv (by simp)
                go_wp2_with (first
                  | (go_at_call 47; refine (nextR (by exact HS0.out) (by exact .inl rfl)).mono ?_; rintro e w13 (⟨b, t2', hl', rfl, hr, hbt⟩ | ⟨hl', rfl, rfl⟩) <;> cases hl'
                     have HX13 := Lib.hid (HXJ.out.save hbt.save hXP)
                     have y0 := HX13.out.c0
                     have y1 := HX13.out.c1
                     have y2 := HX13.out.c2
                     have yf := HX13.out.f2
                     have yl := HX13.out.lt
                     have SX := (Save.refl (fun g => g = X) w13).set ⟨X, 2, none⟩ (.int .i64 (bv : Int)) (fun _ => rfl)
                     have HXb := Lib.hid (HX13.out.setB (bv : Int))
                     have HUb := Lib.hid ((HU0.out.save hbt.save (show ¬ U = P by omega)).save SX (fun e => hXU e.symm))
                     have HOb := Lib.hid ((HO0.out.save hbt.save (fun g hg e => by have := (HO0.out.lt g hg).1; omega)).save SX (fun g hg e => by have := HQX.out g hg; omega))
                     have HSb := Lib.hid (RS.save hr SX (fun e => hXP e.symm) (fun g hg e => by omega))
                     have hz13 := hbt.size
                     have u4' := (HU0.out.save hbt.save (show ¬ U = P by omega)).c4
                     have HAPP := Lib.hid (HOb.out.lt)
                     clear hr hbt SX)
                  | (at_builtin; go_loud (refine wpList_appI rfl (.tmp 63) (.tmp 65) rfl w6.heap.size _ xs rfl HOb.out ⟨op, av, (bv : Int)⟩ _ rfl ?hx ?hl ?hb ?_)))
                case hx => first | rfl | (show Value.slice (some ⟨_, 0, none⟩) 1 1 = Value.slice (some ⟨(World.setCell _ _ _).heap.size, 0, none⟩) 1 1; simp)
                case hl => omega
                case hb => first | omega | (simp; omega)
                intro q1 w14 hq1 hg1
                have SG := Lib.hid (show Save (fun g => q.ownBlock = some g) _ w14 from (Save.refl _ _).grow hg1 (fun g hg _ => hg))
                have HU14 := Lib.hid (HUb.out.save SG.out (fun e => by have := (HAPP.out _ e).1; omega))
                have HS14 := Lib.hid (HSb.out.save SG.out (fun e => by have := (HAPP.out _ e).1; omega) (fun g hg e => by have := (HAPP.out _ e).1; omega))
                obtain ⟨qa, qc, hqf⟩ := hq1.form
                subst hqf
                have hq1l := hq1.lt
                have HQ1 := Lib.hid hq1
                have v4 := HU14.out.c4
                have vf := HU14.out.f4
                have vl := HU14.out.lt
                have HQL := Lib.hid hq1l
                clear hq1 hg1 y0 y1 y2 yf u4' hq1l
                go_wp2_with fail
                go_roundw
                case rel =>
                  have SE := (Save.refl (fun g => g = U) w14).set ⟨U, 4, none⟩ (.slice qa (xs.length + 1) qc) (fun _ => rfl)
                  refine ⟨xs.length + 1, xs ++ [⟨op, av, (bv : Int)⟩], t2, .slice qa (xs.length + 1) qc, by go_num, by omega, ?_, by simp, ?_, HS14.out.save SE (fun e => by omega) (fun g _ e => .inr e), HU14.out.set _, ?_⟩
                  · rw [HEQ.out, hd1]; exact Pl.glue_step (Pl.rdIns_ok HKN.out HAT2.out (Pl.rdB_two HTW.out bv t2))
                  · intro y hy
                    rcases List.mem_append.1 hy with hy | hy
                    · exact HXW.out y hy
                    · simp at hy; subst hy; exact ⟨by simpa using hop, by show _ ≤ av; omega, by show av ≤ _; omega, by show _ ≤ (bv : Int); omega, by show (bv : Int) ≤ _; omega⟩
                  · rw [List.length_append]
                    exact HQ1.out.save SE (fun g hg e => by have := (HQL.out g hg).1; omega)
                case measure => simp [RowKit.intOf]; omega
        · have hkb : Pl.knownB op = false := by simpa using hkn
          have HDIE := Lib.hid (show Pl.rdMany (Pl.rdIns Pl.knownB) N r = none by rw [HEQ.out]; exact Pl.glue_stop (Pl.rdIns_bad hkb))
          have OF := Lib.hid (of_none op (fun h => hkn (Pl.knownB_iff.2 h)) hop)
          unfold shapeZ at OF
          obtain ⟨wk, hwk⟩ : ∃ z, z = wr := ⟨wr, rfl⟩
          subst hwk
          clear hkn hkb
          go_wp2_with (first
            | (go_at_call 47; refine (nextR (by exact HS.out) (by exact .inl rfl)).mono ?_; rintro e w9 (⟨b, t', hl', rfl, hr, hbt⟩ | ⟨hl', rfl, rfl⟩) <;> cases hl'
               have HS9 := Lib.hid hr
               clear hr hbt)
            | (go_at_call 35; refine (OF.out _).mono ?_; rintro e w11 ⟨rfl, hb11⟩
               have HS11 := Lib.hid ((HS9.out.alloc (.cells #[.int .u8 op, .int .i64 0, .int .i64 0] 61)).save (Save.none_below hb11) (fun f => f) (fun _ _ f => f.elim))
               clear hb11))
          exact ⟨rfl, .inr ⟨HDIE.out, rfl, (HW6.out.trans HS11.out.s (fun j hj h => h.elim id (fun e => by omega))).alloc _⟩⟩
    · have hltI : (N : Int) ≤ (xs.length : Int) := by omega
      have hke : N - xs.length = 0 := by omega
      rw [hke, Pl.glue_done] at HEQ
      obtain ⟨c0, c1, c2, c3, c4, _, _, _, _, _, _⟩ := HU.out
      obtain ⟨r0, r1, r2, r3, r4, f0, f1, f2, f3, f4, _⟩ := HR6.out.save HS.out.s (show ¬ (w.heap.size = P ∨ w.heap.size = U) by omega)
      obtain ⟨qa, qc, hq⟩ := HO.out.form
      rw [hq] at c4 HU HO
      have hRl : w.heap.size < wr.heap.size := by omega
      clear hke
      go_wp2_with fail
      refine bodyPost_ret (v := .agg #[.int .i64 a, .int .i64 c, .int .i64 o, .int .i64 s, .slice qa xs.length qc]) (by simp [results, Tryz.results48, go_sem, r0, r1, r2, r3, r4]) rfl ?_
      have HE2 := ((((((Save.refl (fun j => j = w.heap.size) wr).set ⟨w.heap.size, 0, none⟩ (.int .i64 a) (fun _ => rfl)).set ⟨w.heap.size, 1, none⟩ (.int .i64 c) (fun _ => rfl)).set ⟨w.heap.size, 2, none⟩ (.int .i64 o) (fun _ => rfl)).set ⟨w.heap.size, 3, none⟩ (.int .i64 s) (fun _ => rfl)).set ⟨w.heap.size, 4, none⟩ (.slice qa xs.length qc) (fun _ => rfl))
      refine .inl ⟨xs, t, .slice qa xs.length qc, HEQ.out, rfl, ?_, ?_⟩
      · exact (HS.out.lift HW6.out hPw (fun j hj h => h.elim id (fun e => by omega))).save (T := fun j => j = w.heap.size) HE2 (show ¬ P = w.heap.size by omega) (fun j hj (e : j = w.heap.size) => by omega)
      · exact ⟨(HO.out.save HE2 (fun j hj e => by have := (HO.out.lt j hj).1; omega)).base_le (by omega), HXW.out, by omega⟩
theorem unit_own {w : World} {P : Nat} {l : List Nat} (h : RS (fun k => k = P) w w P l) :
    Calls Tryz.prog 48 #[.pointer (some ⟨P, 0, none⟩)] w fun e w' =>
      (∃ u r v, Pl.rdUnt Pl.knownB l = some (u, r) ∧ e = .returned (.agg #[.int .i64 u.args, .int .i64 u.copied, .int .i64 u.locals, .int .i64 u.stack, v]) ∧ RS (fun k => k = P) w w' P r ∧ (Owns w' w.heap.size 61 3 v u.code.length (insRow u.code) ∧ (∀ x ∈ u.code, Pl.InsW x) ∧ u.code.length ≤ 65535) ∧ Pl.UntW u) ∨
      (Pl.rdUnt Pl.knownB l = none ∧ e = .panicked shortP ∧ Save (fun k => k = P) w w') := by
  by_cases hl : l.length < 6
  · exact (unit_few h hl).mono fun e w' ⟨h1, h2⟩ => .inr ⟨Pl.rdUnt_few hl, h1, h2⟩
  · obtain ⟨a, c, o, s, m, n, r, rfl⟩ : ∃ a c o s m n r, l = a :: c :: o :: s :: m :: n :: r := by
      rcases l with _ | ⟨a, _ | ⟨c, _ | ⟨o, _ | ⟨s, _ | ⟨m, _ | ⟨n, r⟩⟩⟩⟩⟩⟩
      rotate_left 6
      · exact ⟨a, c, o, s, m, n, r, rfl⟩
      all_goals exact absurd (by simp) hl
    have ha := h.lt a (by simp)
    have hc := h.lt c (by simp)
    have ho := h.lt o (by simp)
    have hs := h.lt s (by simp)
    refine (unit_six_o (m + 256 * n) rfl h).mono ?_
    rintro e w' (⟨xs, r1, v, h1, h2, h3, h4⟩ | ⟨h1, h2, h3⟩)
    · exact .inl ⟨_, r1, v, Pl.rdUnt_some h1, h2, h3, h4, ⟨by show _ ≤ (a : Int); omega, by show (a : Int) ≤ _; omega, by show _ ≤ (c : Int); omega, by show (c : Int) ≤ _; omega, by show _ ≤ (o : Int); omega, by show (o : Int) ≤ _; omega, by show _ ≤ (s : Int); omega, by show (s : Int) ≤ _; omega⟩⟩
    · exact .inr ⟨Pl.rdUnt_none h1, h2, h3⟩
end Go.Proofs.YtoklnpoacckbfaaGreatDoor
namespace Go.Proofs.YtoklnpoacckbfaaGreatDoor
open Go Go.RowKit Go.Lib
set_option maxRecDepth 100000 in
set_option maxHeartbeats 4000000 in
theorem own_tree {B : Nat} {w0 : World} {l : List Pl.Lit} {v : Value} (h : LitsAt B w0 l v) : ∀ w : World, Below B w0 w → B ≤ w0.heap.size → Pl.litsBig l ≤ 1099511627776 →
    Calls Tryz.prog 49 #[v] w fun e w' => ∃ v' rs, e = .returned v' ∧ LitsOwn w' 37 l v' rs ∧ Apart rs ∧ (∀ k, In rs k → w.heap.size ≤ k) ∧ Below w.heap.size w w' := by
  induction h with
  | mk A l cap V hB hrow hw hr ih =>
    intro w hbel hB0 hbig
    have h1 := hrow.le
    have h2 := hrow.len
    have h4 := Pl.lits_len_big l
    have hs0 := hbel.size
    have HW := Lib.hid hw
    clear hw
    go_enter Tryz.func49, Tryz.ntmps49
    go_wp2_with fail
    have HN := Lib.hid (Owns.nil w w.heap.size 37 5)
    generalize Value.slice none 0 0 = q0 at HN ⊢
    go_loopw [3, 8] (fun q iv wr => ∃ (k : Nat) (ps : List (Pl.Lit × Value)) (rss : List (List Value)), iv = .int .i64 k ∧ k ≤ l.length ∧ ps.length = k ∧ ps.map (·.1) = l.take k ∧ Owns wr w.heap.size 37 5 q ps.length (rowOf litCells ps) ∧
        Kids wr 37 ps rss ∧ Apart (q :: rss.flatten) ∧ (∀ k, In rss.flatten k → w.heap.size ≤ k) ∧ Below w.heap.size w wr) (fun _ iv _ => l.length - (RowKit.intOf iv).toNat)
    case atStart => exact ⟨0, [], [], rfl, Nat.zero_le _, rfl, by simp, HN.out, Kids.nil _ _, Apart.cons' Apart.nil (fun k _ h => In.nil h), fun k h => (In.nil h).elim, Below.refl _ _⟩
    case round =>
      obtain ⟨k, ps, rss, rfl, hk, hpl, hpm, hO, hL, hAP, hIN, hb⟩ := hrel
      have HAP := Lib.hid hAP
      have HIN := Lib.hid hIN
      clear hAP hIN
      have HO := Lib.hid hO
      have HL := Lib.hid hL
      have HM := Lib.hid hpm
      have hz := hb.size
      have hB2 : Below B w0 wr := hbel.trans (hb.mono (by omega))
      have HBW := Lib.hid hb
      clear hO hL hpm hb
      by_cases hlt : k < l.length
      · obtain ⟨ba, oa, rfl, hba⟩ := hrow.some_of hlt
        obtain ⟨x, hx⟩ : ∃ x, l[k]? = some x := ⟨_, List.getElem?_eq_getElem hlt⟩
        obtain ⟨a0, a1, a2, a3, a4⟩ := (hrow.keep hB2 hB).lit hx
        have hxb := Pl.lits_get_big hx
        have hxi := Pl.items_big x
        have IH := Lib.hid (fun (W : World) (hbW : Below B w0 W) => ih k x hx W hbW hB0 (by omega))
        have HX := Lib.hid hx
        have hltI : (k : Int) < (l.length : Int) := by omega
        have hk0 : (0 : Int) ≤ (k : Int) := by omega
        obtain ⟨Ay, capy, Vy, hVk, _⟩ := (hr k x hx).out
        rw [hVk] at a4 IH
        clear hVk
        clear hx
        go_wp2_with (first
          | (go_at_call 49
             refine (IH.out _ (hB2.alloc (by omega) _)).mono ?_
             rintro e w2 ⟨v2, rs2, rfl, hl2, ha2, hi2, hb2⟩
             obtain ⟨A2, cap2, rfl⟩ := hl2.slice
             have HA2 := Lib.hid ha2
             have HI2 := Lib.hid hi2
             clear ha2 hi2
             have g0 : w2.cell? ⟨wr.heap.size, 0, none⟩ = some (.int .u8 x.kind) := boxCells (hb2.mono (by simp)) rfl
             have g1 : w2.cell? ⟨wr.heap.size, 1, none⟩ = some (.int .i64 x.n) := boxCells (hb2.mono (by simp)) rfl
             have g2 : w2.cell? ⟨wr.heap.size, 2, none⟩ = some (.int .u64 x.bits) := boxCells (hb2.mono (by simp)) rfl
             have g3 : w2.cell? ⟨wr.heap.size, 3, none⟩ = some (.string x.text) := boxCells (hb2.mono (by simp)) rfl
             have g4 : w2.cell? ⟨wr.heap.size, 4, none⟩ = some (.slice Ay x.items.length capy) := boxCells (hb2.mono (by simp)) rfl
             have gf : w2.frozen? ⟨wr.heap.size, 4, none⟩ = false := (by rw [hb2.frozen (p := ⟨wr.heap.size, 4, none⟩) (by simp)]; simp [go_sem])
             have hz2 : wr.heap.size < w2.heap.size := (by have := hb2.size; simp at this; omega)
             have hz2n : ¬ wr.heap.size = w2.heap.size := by omega
             have HB2 := Lib.hid hb2
             have HL2 := Lib.hid hl2
             clear hb2 hl2)
          | (at_builtin; go_loud (refine wpList_appL rfl (.tmp 16) (.tmp 18) rfl w.heap.size _ ps rfl ?ho1 (x, .slice A2 x.items.length cap2) rfl _ ?hc ?hx ?hl ?hbs ?_)))
        case ho1 => exact (HO.out.below (alloc_then (HB2.out.mono (by simp))) (fun g hg => (HO.out.lt g hg).2)).elsewhere _ (fun e => by have := (HO.out.lt _ e).2; simp at this)
        case hc => rfl
        case hx => show Value.slice (some ⟨w2.heap.size, 0, none⟩) 1 1 = Value.slice (some ⟨(World.setCell _ _ _).heap.size, 0, none⟩) 1 1; simp
        case hl => omega
        case hbs => simp; omega
        intro q1 w3 hq1 hg1
        have HQ1 := Lib.hid hq1
        have HG1 := Lib.hid hg1
        clear hq1 hg1
        have HBA := Lib.hid (show Below wr.heap.size wr w2 from alloc_then (HB2.out.mono (by simp)))
        have HBC := Lib.hid ((HBW.out.trans (HBA.out.mono hz)).setCell (p := ⟨wr.heap.size, 4, none⟩) hz (.slice A2 x.items.length cap2))
        have HB3 := Lib.hid (HG1.out.below2 ((HO.out.below HBA.out (fun g hg => (HO.out.lt g hg).2)).elsewhere _ (fun e => by have := (HO.out.lt _ e).2; simp at this)) HBC.out (by simp; omega) (Nat.le_refl _))
        have HS3 := Lib.hid (show Save (fun g => u3.ownBlock = some g) wr w3 from (((Save.refl _ wr).step HBA.out (Nat.le_refl _)).set ⟨wr.heap.size, 4, none⟩ _ (fun h => absurd h (Nat.lt_irrefl _))).grow HG1.out (fun g hg _ => hg))
        have HS4 := Lib.hid (show Save (fun g => g = wr.heap.size ∨ u3.ownBlock = some g) w2 w3 from ((Save.refl _ w2).set ⟨wr.heap.size, 4, none⟩ _ (fun _ => .inl rfl)).grow HG1.out (fun g hg _ => .inr hg))
        have HNE := Lib.hid (show ∀ g, q1.ownBlock = some g → u3.ownBlock = some g ∨ w2.heap.size ≤ g from fun g hg => by
          rcases HG1.out.2 with e | e
          · exact .inl (e ▸ hg)
          · exact .inr (by simpa using e g hg))
        go_wp2_with fail
        go_roundw
        case rel =>
          have hu3 := HO.out.lt
          have hi2 : ∀ g, In rs2 g → wr.heap.size + 1 ≤ g ∧ g < w2.heap.size := fun g hg => ⟨by simpa using HI2.out g hg, HL2.out.mine.lt g hg⟩
          refine ⟨k + 1, ps ++ [(x, .slice A2 x.items.length cap2)], rss ++ [rs2], by go_num, by omega, by simp; omega, ?_, by rw [List.length_append, hpl]; exact HQ1.out, ?_, ?_, ?_, HB3.out⟩
          · rw [List.map_append, HM.out, List.take_add_one, HX.out]; rfl
          · refine (HL.out.save HS3.out fun g hg e => (HAP.out.of_cons).2 g e hg).push (HL2.out.save HS4.out fun g hg e => ?_)
            rcases e with e | e
            · have := (hi2 g hg).1; omega
            · have := (hu3 g e).2; have := (hi2 g hg).1; omega
          · rw [List.flatten_append, List.flatten_singleton]
            exact HAP.out.push (n := wr.heap.size) (m := w2.heap.size) HA2.out HL.out.lt (fun g hg => (hu3 g hg).2) (fun g hg => ⟨by have := (hi2 g hg).1; omega, (hi2 g hg).2⟩) HNE.out (by omega)
          · intro g hg
            rw [List.flatten_append, List.flatten_singleton] at hg
            rcases In.append.1 hg with hg | hg
            · exact HIN.out g hg
            · have := (hi2 g hg).1; omega
        case measure => simp [RowKit.intOf]; omega
      · have hltI : (l.length : Int) ≤ (k : Int) := by omega
        have hke : k = l.length := by omega
        have hmap : ps.map (·.1) = l := by rw [HM.out, hke, List.take_length]
        clear hke
        go_wp2_with fail
        go_ret
        refine ⟨_, _, rfl, by rw [← hmap]; exact HL.out.lits HO.out (by omega) (by rw [hmap]; exact HW.out), HAP.out, ?_, HBW.out⟩
        intro g hg
        rcases In.cons.1 hg with hg | hg
        · exact (HO.out.lt g hg).1
        · exact HIN.out g hg
end Go.Proofs.YtoklnpoacckbfaaGreatDoor
namespace Go.Proofs.YtoklnpoacckbfaaGreatDoor
open Go Go.RowKit Go.Lib
/-- how Unpack ends: a code each of whose lists is its owner's alone, in new memory, or none -/
def UnpOwn (sel : ByteArray) (lits : List Pl.Lit) (b : ByteArray) (w : World) (e : Ending) (w' : World) : Prop :=
  ((∃ c L' U' ri rl, Pl.unpackC sel lits b = some c ∧ e = .returned (.tuple #[codV c L' U', .int .i64 0]) ∧ CodOwn w' 37 58 61 c L' U' ri rl ∧ (∀ k, In (U' :: (ri ++ rl)) k → w.heap.size ≤ k) ∧ CodAt w'.heap.size w' c L' U') ∨
    (Pl.unpackC sel lits b = none ∧ e = .returned (.tuple #[.agg #[.string ⟨#[]⟩, .int .i64 0, .slice none 0 0, .slice none 0 0], .int .i64 203]))) ∧ Below w.heap.size w w'
set_option maxRecDepth 100000 in
set_option maxHeartbeats 8000000 in
theorem unpack_own {B : Nat} {w : World} {sel b : ByteArray} {lits : List Pl.Lit} {L : Value} (hL : LitsAt B w lits L) (hBw : B ≤ w.heap.size) (hsel : sel.size ≤ 140737488355328) (hbs : b.size ≤ 140737488355328) (he : ErrAt w) (hEB : 9 < B) (hbig : Pl.litsBig lits ≤ 262144) :
    Calls Tryz.prog 20 #[.string sel, L, .string b] w (UnpOwn sel lits b w) := by
  have HL := Lib.hid hL
  have HE := Lib.hid he
  obtain ⟨Al, capl, Vl, rfl, _⟩ := hL.out
  clear hL he
  obtain ⟨l, hl⟩ : ∃ l, Pl.sb b = l := ⟨_, rfl⟩
  have hll : l.length ≤ 140737488355328 := by rw [← hl, Pl.sb_size]; exact hbs
  have hlt : ∀ x ∈ l, x < 256 := by rw [← hl]; exact Pl.sb_lt b
  have hbl : b = Pl.bs l := by rw [← hl, Pl.bs_sb]
  have HNO := Lib.hid (fun (h : Pl.rd l = none) => Pl.unpackC_none (sel := sel) (lits := lits) (b := b) (by rw [hl]; exact h))
  have HBAD := Lib.hid (fun (p : Int) (us : List Pl.Unt) (h : Pl.rd l = some (p, us)) => Pl.unpackC_bad (sel := sel) (lits := lits) (b := b) (by rw [hl]; exact h))
  have HYES := Lib.hid (fun (p : Int) (us : List Pl.Unt) (h : Pl.rd l = some (p, us)) => Pl.unpackC_ok (sel := sel) (lits := lits) (b := b) (by rw [hl]; exact h))
  have hmf : ∀ (fn : Fn) (first cap : Array Value) (w : World), (Instr.makeFunc fn first cap).run Tryz.prog w = .ok (.func fn first cap) w := fun _ _ _ _ => rfl
  have HR3 := Lib.hid (show CodBox (((w.alloc (.cells #[.string ⟨#[]⟩, .int .i64 0, .slice none 0 0, .slice none 0 0] 25)).alloc (.cells #[.int .i64 0] 29)).alloc (.cells #[.string b] 96)) w.heap.size (.string ⟨#[]⟩) (.int .i64 0) (.slice none 0 0) (.slice none 0 0) from ⟨by simp [go_sem], by simp [go_sem], by simp [go_sem], by simp [go_sem], by simp [go_sem], by simp [go_sem], by simp [go_sem], by simp [go_sem], by simp; omega⟩)
  have HE3 := Lib.hid (show (((w.alloc (.cells #[.string ⟨#[]⟩, .int .i64 0, .slice none 0 0, .slice none 0 0] 25)).alloc (.cells #[.int .i64 0] 29)).alloc (.cells #[.string b] 96)).cell? ⟨w.heap.size + 1, 0, none⟩ = some (.int .i64 0) ∧ (((w.alloc (.cells #[.string ⟨#[]⟩, .int .i64 0, .slice none 0 0, .slice none 0 0] 25)).alloc (.cells #[.int .i64 0] 29)).alloc (.cells #[.string b] 96)).frozen? ⟨w.heap.size + 1, 0, none⟩ = false from ⟨by simp [go_sem], by simp [go_sem]⟩)
  have HB3 := Lib.hid (show Below w.heap.size w (((w.alloc (.cells #[.string ⟨#[]⟩, .int .i64 0, .slice none 0 0, .slice none 0 0] 25)).alloc (.cells #[.int .i64 0] 29)).alloc (.cells #[.string b] 96)) from (((Below.refl _ _).alloc (Nat.le_refl _) _).alloc (by simp) _).alloc (by simp; omega) _)
  have HZ3 := Lib.hid (show (((w.alloc (.cells #[.string ⟨#[]⟩, .int .i64 0, .slice none 0 0, .slice none 0 0] 25)).alloc (.cells #[.int .i64 0] 29)).alloc (.cells #[.string b] 96)).heap.size = w.heap.size + 3 by simp)
  have HS3 := Lib.hid (show RS (fun k => k = w.heap.size + 1 + 1 ∨ k = w.heap.size) (((w.alloc (.cells #[.string ⟨#[]⟩, .int .i64 0, .slice none 0 0, .slice none 0 0] 25)).alloc (.cells #[.int .i64 0] 29)).alloc (.cells #[.string b] 96)) (((w.alloc (.cells #[.string ⟨#[]⟩, .int .i64 0, .slice none 0 0, .slice none 0 0] 25)).alloc (.cells #[.int .i64 0] 29)).alloc (.cells #[.string b] 96)) (w.heap.size + 1 + 1) l from ⟨by rw [← hbl]; simp [go_sem], by simp [go_sem], hlt, hll, by simp, Save.refl _ _⟩)
  clear hl hlt hbl
  go_enter_defers Tryz.func20, Tryz.ntmps20
  go_wp2_with fail
  generalize ((w.alloc (.cells #[.string ⟨#[]⟩, .int .i64 0, .slice none 0 0, .slice none 0 0] 25)).alloc (.cells #[.int .i64 0] 29)).alloc (.cells #[.string b] 96) = w3 at HR3 HE3 HB3 HZ3 HS3 ⊢
  have hz3 := HZ3.out
  have hPR : ¬ w.heap.size = w.heap.size + 1 + 1 := by omega
  have hPE : ¬ w.heap.size + 1 = w.heap.size + 1 + 1 := by omega
  have hE3 : w.heap.size + 1 < w3.heap.size := by omega
  have hB3s : w.heap.size ≤ w3.heap.size := by omega
  have HKE := Lib.hid (fun (W : World) (h : Save (fun k => k = w.heap.size + 1 + 1 ∨ k = w.heap.size) w3 W) => show W.cell? ⟨w.heap.size + 1, 0, none⟩ = some (.int .i64 0) ∧ W.frozen? ⟨w.heap.size + 1, 0, none⟩ = false ∧ w.heap.size + 1 < W.heap.size ∧ Below w.heap.size w W ∧ w.heap.size ≤ W.heap.size from
    ⟨(h.cell 0 hE3 (by omega)).trans HE3.out.1, (h.frozen 0 hE3 (by omega)).trans HE3.out.2, Nat.lt_of_lt_of_le hE3 h.size, HB3.out.trans (h.below hB3s (fun j hj => by omega)), Nat.le_trans hB3s h.size⟩)
  rcases l with _ | ⟨p, l⟩
  · refine (nextR HS3.out (by exact .inl rfl)).mono ?_
    rintro e w5 (⟨b', t, hl', rfl, hr, hbt⟩ | ⟨hl', rfl, rfl⟩) <;> cases hl'
    have HNONE := HNO.out (Pl.rd_few (by simp))
    obtain ⟨k0, k1, k2, k3, k4⟩ := HKE.out _ (Save.refl _ w5)
    go_wp2_with fail
    refine leaves_cons (f := 46) (args := #[.pointer (some ⟨w.heap.size, 0, none⟩), .pointer (some ⟨w.heap.size + 1, 0, none⟩)]) (by simp) (by simp [go_sem]) ?_
    refine (ucaught_panicking w.heap.size (w.heap.size + 1) _ _ _ _ 0 _ (by omega) HR3.out k0 k1 k2).mono ?_
    rintro e u' w7 ⟨rfl, rfl, ec, hR7, hs7⟩
    obtain ⟨r0, r1, r2, r3, _, _, _, _, _⟩ := hR7
    have hfin : Below w.heap.size w w7 := k3.trans (hs7.below k4 (fun j hj => by omega))
    simp [Leaves, settle, results, Tryz.results20, go_sem, ec, r0, r1, r2, r3, UnpOwn, HNONE, hfin]

  have hp := HS3.out.lt p (by simp)
  refine (nextR HS3.out (by exact .inl rfl)).mono ?_
  rintro e w5 (⟨b', t, hl', rfl, hr, hbt⟩ | ⟨hl', rfl, rfl⟩) <;> cases hl'
  have HR5 := HR3.out.save hbt.save hPR
  have HR6 := Lib.hid (HR5.put (.string sel) (.int .i64 (p : Int)) (.slice Al lits.length capl) (.slice none 0 0))
  have HS6 := Lib.hid (RS.save hr (CodBox.put_save w5 w.heap.size (.string sel) (.int .i64 (p : Int)) (.slice Al lits.length capl) (.slice none 0 0)) (fun e => hPR e.symm) (fun j _ e => .inr e))
  obtain ⟨r0, r1, r2, r3, f0, f1, f2, f3, hRl⟩ := HR5
  clear hr hbt
  go_wp2_with fail
  clear r0 r1 r2 r3 f0 f1 f2 f3 hRl
  generalize (((w5.setCell ⟨w.heap.size, 0, none⟩ (.string sel)).setCell ⟨w.heap.size, 1, none⟩ (.int .i64 (p : Int))).setCell ⟨w.heap.size, 2, none⟩ (.slice Al lits.length capl)).setCell ⟨w.heap.size, 3, none⟩ (.slice none 0 0) = w6 at HR6 HS6 ⊢
  rcases l with _ | ⟨n, l⟩
  · refine (nextR HS6.out (by exact .inl rfl)).mono ?_
    rintro e w8 (⟨b', t, hl', rfl, hr, hbt⟩ | ⟨hl', rfl, rfl⟩) <;> cases hl'
    have HNONE := HNO.out (Pl.rd_few (by simp))
    obtain ⟨k0, k1, k2, k3, k4⟩ := HKE.out _ HS6.out.s
    go_wp2_with fail
    refine leaves_cons (f := 46) (args := #[.pointer (some ⟨w.heap.size, 0, none⟩), .pointer (some ⟨w.heap.size + 1, 0, none⟩)]) (by simp) (by simp [go_sem]) ?_
    refine (ucaught_panicking w.heap.size (w.heap.size + 1) _ _ _ _ 0 _ (by omega) HR6.out k0 k1 k2).mono ?_
    rintro e u' w7 ⟨rfl, rfl, ec, hR7, hs7⟩
    obtain ⟨r0, r1, r2, r3, _, _, _, _, _⟩ := hR7
    have hfin : Below w.heap.size w w7 := k3.trans (hs7.below k4 (fun j hj => by omega))
    simp [Leaves, settle, results, Tryz.results20, go_sem, ec, r0, r1, r2, r3, UnpOwn, HNONE, hfin]

  have hn := HS6.out.lt n (by simp)
  refine (nextR HS6.out (by exact .inl rfl)).mono ?_
  rintro e w8 (⟨b', t, hl', rfl, hr, hbt⟩ | ⟨hl', rfl, rfl⟩) <;> cases hl'
  have HR8 := Lib.hid (HR6.out.save hbt.save hPR)
  have HS8 := Lib.hid hr
  have HO8 := Lib.hid (Owns.nil w8 w3.heap.size 58 5)
  clear hr hbt
  go_wp2_with fail
  generalize hq0 : Value.slice none 0 0 = q0 at HR8 HO8
  clear hq0
  go_loopw [20] (fun iv wr => ∃ (k : Nat) (ps : List (Pl.Unt × Value)) (t : List Nat) (U : Value), iv = .int .i64 k ∧ k ≤ n ∧ Pl.rdMany (Pl.rdUnt Pl.knownB) n l = Pl.glue (ps.map (·.1)) (Pl.rdMany (Pl.rdUnt Pl.knownB) (n - k) t) ∧ ps.length = k ∧ (∀ x ∈ ps, Pl.UntW x.1) ∧
      RS (fun k => k = w.heap.size + 1 + 1 ∨ k = w.heap.size) w3 wr (w.heap.size + 1 + 1) t ∧ CodBox wr w.heap.size (.string sel) (.int .i64 (p : Int)) (.slice Al lits.length capl) U ∧ Owns wr w3.heap.size 58 5 U ps.length (rowOf untCells ps) ∧
      UKids wr 61 ps ∧ Apart (U :: ps.map (·.2)) ∧ (∀ g, In (ps.map (·.2)) g → w3.heap.size ≤ g)) (fun iv _ => n - (RowKit.intOf iv).toNat)
  case atStart => exact ⟨0, [], l, q0, rfl, Nat.zero_le _, (Pl.glue_nil _).symm, rfl, by simp, HS8.out, HR8.out, HO8.out, UKids.nil _ _, Apart.cons' Apart.nil (fun k _ h => In.nil h), fun k h => (In.nil h).elim⟩
  case round =>
    obtain ⟨k, ps, t, U, rfl, hk, hEq, hpl, hpw, hS, hR, hO, hI, hAP, hIN⟩ := hrel
    have HAP := Lib.hid hAP
    have HIN := Lib.hid hIN
    clear hAP hIN
    have HEQ := Lib.hid hEq
    have HPW := Lib.hid hpw
    have HS := Lib.hid hS
    have HR := Lib.hid hR
    have HO := Lib.hid hO
    have HI := Lib.hid hI
    have hz := hS.s.size
    clear hEq hpw hS hR hO hI HS8 HR8 HO8
    subst hpl
    by_cases hlt : ps.length < n
    · have hltI : (ps.length : Int) < (n : Int) := by omega
      obtain ⟨d, hd⟩ : ∃ d, n - ps.length = d + 1 := ⟨n - ps.length - 1, by omega⟩
      have hd1 : n - (ps.length + 1) = d := by omega
      rw [hd] at HEQ
      obtain ⟨r0, r1, r2, r3, f0, f1, f2, f3, hRl⟩ := HR.out
      obtain ⟨e0, ef, hEl, hBW, hWs⟩ := HKE.out wr HS.out.s
      have HBW := Lib.hid hBW
      have hPl : w.heap.size + 1 + 1 < wr.heap.size := by omega
      clear hBW
      have UN := Lib.hid (unit_own ((HS.out.drew.self (T := fun k => k = w.heap.size + 1 + 1))))
      cases hru : Pl.rdUnt Pl.knownB t with
      | none =>
        have HRU := Lib.hid hru
        have HNONE := HNO.out (Pl.rd_none (p := p) (by rw [HEQ.out]; exact Pl.glue_stop hru))
        clear hru
        go_wp2_with fail
        first | go_region_dies | fail
        all_goals (
          refine UN.out.mono ?_
          rintro e w10 (⟨u, t', v, h1, _⟩ | ⟨h1, rfl, hs⟩)
          · rw [HRU.out] at h1; cases h1
          have HR10 := HR.out.drew'.save hs (show ¬ w.heap.size = w.heap.size + 1 + 1 by omega)
          obtain ⟨k0, k1, k2, k3, k4⟩ := HKE.out w10 (HS.out.drew.s.trans hs (fun j _ e => .inl e))
          go_simp
          refine leaves_cons (f := 46) (args := #[.pointer (some ⟨w.heap.size, 0, none⟩), .pointer (some ⟨w.heap.size + 1, 0, none⟩)]) (by simp) (by simp [go_sem]) ?_
          refine (ucaught_panicking w.heap.size (w.heap.size + 1) _ _ _ _ 0 _ (by omega) HR10 k0 k1 k2).mono ?_
          rintro e u' w7 ⟨rfl, rfl, ec, hR7, hs7⟩
          obtain ⟨r0, r1, r2, r3, _, _, _, _, _⟩ := hR7
          have hfin : Below w.heap.size w w7 := k3.trans (hs7.below k4 (fun j hj => by omega))
          simp [Leaves, settle, results, Tryz.results20, go_sem, ec, r0, r1, r2, r3, UnpOwn, HNONE, hfin]
)
      | some x =>
        obtain ⟨u, t'⟩ := x
        have HRU := Lib.hid hru
        have HNX := Lib.hid (Pl.glue_step (xs := ps.map (·.1)) (n := d) hru)
        clear hru
        have hOb := HO.out.lt
        have HOB := Lib.hid hOb
        clear hOb r0 r1 r2
        go_wp2_with fail
        first
          | go_region_law (first
              | (refine step_appU rfl (.tmp 23) (.tmp 26) rfl w3.heap.size _ ps rfl HO10.out (u, .slice av u.code.length cv) rfl _ rfl rfl (by omega) (by omega) ?_
                 intro v' w14 ho hg
                 obtain ⟨qa, qc, rfl⟩ := ho.form
                 have SG : Save (fun g => U.ownBlock = some g) w10 w14 := (Save.refl _ w10).grow hg (fun g hg _ => hg)
                 have HR14 := Lib.hid (HR10.out.save SG (fun e => by have := (HOB.out _ e).1; omega))
                 have v3 := HR14.out.c3
                 have vf := HR14.out.f3
                 have vl := HR14.out.lt
                 have HV := Lib.hid ho
                 have HG := Lib.hid hg
                 have SGH := Lib.hid SG
                 clear ho hg SG)
              | (go_simp
                 go_at_call 48
                 refine UN.out.mono ?_
                 rintro e w10 (⟨u', t'', v, h1, rfl, hr, hi, huw⟩ | ⟨h1, rfl, hs⟩) <;> rw [HRU.out] at h1 <;> cases h1
                 obtain ⟨av, cv, rfl⟩ := hi.1.form
                 have HR10 := Lib.hid (HR.out.drew'.save hr.s (show ¬ w.heap.size = w.heap.size + 1 + 1 by omega))
                 have HO10 := Lib.hid (HO.out.drew.save hr.s (fun g hg e => by have := (HOB.out g hg).1; omega))
                 have q3 := HR10.out.c3
                 have qf := HR10.out.f3
                 have ql := HR10.out.lt
                 have hz10 : w3.heap.size ≤ w10.heap.size := (by have := hr.s.size; have h2 : wr.drew.heap.size = wr.heap.size := rfl; omega)
                 have hzw : wr.heap.size ≤ w10.heap.size := (by have := hr.s.size; have h2 : wr.drew.heap.size = wr.heap.size := rfl; omega)
                 have qn : ¬ w.heap.size = w10.heap.size := (by omega)
                 have HRR := Lib.hid hr
                 have HII := Lib.hid hi
                 have HUWW := Lib.hid huw
                 clear hr hi huw))
          | fail
        all_goals
          have hnew := HV.out.lt
          have HNEW := Lib.hid hnew
          have HNE := Lib.hid (show ∀ g, (Value.slice qa (ps.length + 1) qc).ownBlock = some g → U.ownBlock = some g ∨ w10.heap.size ≤ g from fun g hg => by
            rcases HG.out.2 with e | e
            · exact .inl (e ▸ hg)
            · exact .inr (e g hg))
          clear hnew
          go_wp2_with fail
          go_roundw
          case rel =>
            have SR := (Save.refl (fun g => g = w.heap.size) w14).set ⟨w.heap.size, 3, none⟩ (.slice qa (ps.length + 1) qc) (fun _ => rfl)
            have SN := (SGH.out.mono (T := fun g => g = w.heap.size ∨ U.ownBlock = some g) (fun g _ e => .inr e)).trans SR (fun g _ e => .inl e)
            have SO := (((Save.refl (fun g => g = w.heap.size + 1 + 1 ∨ g = w.heap.size ∨ U.ownBlock = some g) wr).drew).trans HRR.out.s (fun g _ e => .inl e)).trans SN (fun g _ e => .inr e)
            refine ⟨ps.length + 1, ps ++ [(u, .slice av u.code.length cv)], t', .slice qa (ps.length + 1) qc, by go_num, by omega, ?_, by simp, ?_, ?_, HR14.out.set3 _, ?_, ?_, ?_, ?_⟩
            · rw [HEQ.out, hd1, HNX.out, List.map_append]; rfl
            · intro y hy
              rcases List.mem_append.1 hy with hy | hy
              · exact HPW.out y hy
              · simp at hy; subst hy; exact HUWW.out
            · exact ((HRR.out.lift HS.out.drew.s (by omega) (fun j _ e => .inl e)).save SGH.out (fun e => by have := (HOB.out _ e).1; omega) (fun j hj e => by have := (HOB.out _ e).1; omega)).save SR (fun e => by omega) (fun j _ e => .inr e)
            · rw [List.length_append]
              exact HV.out.save SR (fun g hg e => by have := (HNEW.out g hg).1; omega)
            · refine (HI.out.save SO (fun g hg e => ?_)).push (HII.out.1.save SN (fun g hg e => ?_)) HII.out.2.1 (by have := HII.out.2.2; omega)
              · have h1 := HIN.out g hg
                rcases e with e | e | e
                · omega
                · omega
                · exact (HAP.out.of_cons).2 g e hg
              · have h1 := (HII.out.1.lt g hg).1
                have h2 : wr.drew.heap.size = wr.heap.size := rfl
                rcases e with e | e
                · omega
                · have := (HOB.out g e).2; omega
            · rw [List.map_append]
              refine HAP.out.push (n := wr.heap.size) (m := w10.heap.size) (Apart.cons' Apart.nil (fun k _ h => In.nil h)) HI.out.lt (fun g hg => (HOB.out g hg).2) (fun g hg => ?_) HNE.out (by omega)
              exact HII.out.1.lt g (In.one.1 hg)
            · intro g hg
              rw [List.map_append] at hg
              rcases In.append.1 hg with hg | hg
              · exact HIN.out g hg
              · have h1 := (HII.out.1.lt g (In.one.1 hg)).1
                have h2 : wr.drew.heap.size = wr.heap.size := rfl
                omega
          case measure => simp [RowKit.intOf]; omega
    · have hltI : (n : Int) ≤ (ps.length : Int) := by omega
      have hke : n - ps.length = 0 := by omega
      rw [hke, Pl.glue_done] at HEQ
      clear hke
      obtain ⟨r0, r1, r2, r3, f0, f1, f2, f3, hRl⟩ := HR.out
      obtain ⟨e0, ef, hEl, hBW, hWs⟩ := HKE.out wr HS.out.s
      have HBW := Lib.hid hBW
      have hPl : w.heap.size + 1 + 1 < wr.heap.size := by omega
      obtain ⟨qa, qc, hq⟩ := HO.out.form
      rw [hq] at HO HAP HR r3
      clear hq hBW
      rcases t with _ | ⟨y, t⟩
      · have hc0 : wr.cell? ⟨w.heap.size + 1 + 1, 0, none⟩ = some (.string ⟨#[]⟩) := HS.out.c0
        obtain ⟨us, hus⟩ : ∃ us, ps.map (·.1) = us := ⟨_, rfl⟩
        rw [hus] at HEQ
        have HRD := Lib.hid (Pl.rd_some (p := p) HEQ.out)
        have HUW := Lib.hid (show ∀ x ∈ us, Pl.UntW x by intro x hx; rw [← hus] at hx; obtain ⟨y, hy, rfl⟩ := List.mem_map.1 hx; exact HPW.out y hy)
        have HUS := Lib.hid hus
        have hul : us.length = ps.length := by rw [← hus, List.length_map]
        have HCOD : CodAt wr.heap.size wr ⟨sel, p, lits, us⟩ (.slice Al lits.length capl) (.slice qa ps.length qc) := ⟨(HL.out.keep (HBW.out.mono hBw)).up (by omega), UntsAt.of_owns HO.out hus (by omega) HUW.out HI.out.insof, hsel, by show _ ≤ (p : Int); omega, by show (p : Int) ≤ _; omega, Nat.le_refl _⟩
        have CK := Lib.hid (show Calls Tryz.prog 11 #[.agg #[.string sel, .int .i64 (p : Int), .slice Al lits.length capl, .slice qa ps.length qc]] wr (fun e w' => e = .returned (.int .i64 (Pl.check ⟨sel, p, lits, us⟩ : Nat)) ∧ Below wr.heap.size wr w') from
          check_any (c := ⟨sel, p, lits, us⟩) wr HCOD (HE.out.keep HBW.out HE.out.1) (by omega) hbig)
        clear HCOD hus hul
        by_cases hck : Pl.check ⟨sel, p, lits, us⟩ = 0
        · rw [hck] at CK
          have HC := Lib.hid (HYES.out _ _ HRD.out hck)
          clear hck
          go_wp2_with (first
            | (go_at_call 11; refine CK.out.mono ?_; rintro e w10 ⟨rfl, hb10⟩
               have SN := Save.none_below hb10
               have HR10 := Lib.hid (HR.out.save SN (fun f => f))
               have HK10 := Lib.hid (HKE.out w10 (HS.out.s.trans SN (fun _ _ f => f.elim)))
               obtain ⟨s0, s1, s2, s3, g0, g1, g2, g3, hSl⟩ := HR10.out
               obtain ⟨h0, hf, hEl2, _, _⟩ := HK10.out
               have HB10 := Lib.hid hb10
               clear hb10 SN)
            | (go_at_call 49; refine (own_tree HL.out w10 (HK10.out.2.2.2.1.mono hBw) hBw (by omega)).mono ?_; rintro e w12 ⟨L2, rs2, rfl, hl2, ha2, hi2, hb12⟩
               obtain ⟨A2, cap2, rfl⟩ := hl2.slice
               have HA2 := Lib.hid ha2
               have HI2 := Lib.hid hi2
               clear ha2 hi2
               have SN := Save.none_below hb12
               have HR12 := Lib.hid (HR10.out.save SN (fun f => f))
               have S12 := Lib.hid ((HS.out.s.trans (Save.none_below HB10.out) (fun _ _ f => f.elim)).trans SN (fun _ _ f => f.elim))
               have HK12 := Lib.hid (HKE.out w12 S12.out)
               have SW := Lib.hid ((Save.none_below HB10.out).trans SN (fun _ _ f => f))
               clear s0 s1 s2 s3 g0 g1 g2 g3 hSl h0 hf hEl2
               obtain ⟨s0, s1, s2, s3, g0, g1, g2, g3, hSl⟩ := HR12.out
               obtain ⟨h0, hf, hEl2, _, _⟩ := HK12.out
               have HL2 := Lib.hid hl2
               have hz12 := hb12.size
               clear hl2 hb12 SN))
          have hz10 : w.heap.size + 1 < w10.heap.size := HK10.out.2.2.1
          have HRs := Lib.hid (HR12.out.set2 (.slice A2 lits.length cap2))
          have hes : (w12.setCell ⟨w.heap.size, 2, none⟩ (.slice A2 lits.length cap2)).cell? ⟨w.heap.size + 1, 0, none⟩ = some (.int .i64 0) := by rw [World.cell?_setCell_other _ _ _ _ (by simp)]; exact h0
          have hBs : Below w.heap.size w (w12.setCell ⟨w.heap.size, 2, none⟩ (.slice A2 lits.length cap2)) := HK12.out.2.2.2.1.setCell (p := ⟨w.heap.size, 2, none⟩) (Nat.le_refl _) _
          have hEs : w.heap.size + 1 < (w12.setCell ⟨w.heap.size, 2, none⟩ (.slice A2 lits.length cap2)).heap.size := by simpa using hEl2
          clear s0 s1 s2 s3 g0 g1 g2 g3 hSl
          have HRz := Lib.hid (HRs.out.put (.string sel) (.int .i64 (p : Int)) (.slice A2 lits.length cap2) (.slice qa ps.length qc))
          have hez : (((((w12.setCell ⟨w.heap.size, 2, none⟩ (.slice A2 lits.length cap2)).setCell ⟨w.heap.size, 0, none⟩ (.string sel)).setCell ⟨w.heap.size, 1, none⟩ (.int .i64 (p : Int))).setCell ⟨w.heap.size, 2, none⟩ (.slice A2 lits.length cap2)).setCell ⟨w.heap.size, 3, none⟩ (.slice qa ps.length qc)).cell? ⟨w.heap.size + 1, 0, none⟩ = some (.int .i64 0) := ((CodBox.put_save (w12.setCell ⟨w.heap.size, 2, none⟩ (.slice A2 lits.length cap2)) w.heap.size (.string sel) (.int .i64 (p : Int)) (.slice A2 lits.length cap2) (.slice qa ps.length qc)).cell 0 hEs (by omega)).trans hes
          have SZ := Lib.hid (CodBox.put_save (w12.setCell ⟨w.heap.size, 2, none⟩ (.slice A2 lits.length cap2)) w.heap.size (.string sel) (.int .i64 (p : Int)) (.slice A2 lits.length cap2) (.slice qa ps.length qc))
          generalize ((((w12.setCell ⟨w.heap.size, 2, none⟩ (.slice A2 lits.length cap2)).setCell ⟨w.heap.size, 0, none⟩ (.string sel)).setCell ⟨w.heap.size, 1, none⟩ (.int .i64 (p : Int))).setCell ⟨w.heap.size, 2, none⟩ (.slice A2 lits.length cap2)).setCell ⟨w.heap.size, 3, none⟩ (.slice qa ps.length qc) = w13 at HRz hez SZ ⊢
          have S14 := Lib.hid (((SZ.out.mono (T := fun g => g = w.heap.size ∨ g = w.heap.size + 1) (fun g _ h => .inl h))).set ⟨w.heap.size + 1, 0, none⟩ (.int .i64 0) (fun _ => .inr rfl))
          refine leaves_cons (f := 46) (args := #[.pointer (some ⟨w.heap.size, 0, none⟩), .pointer (some ⟨w.heap.size + 1, 0, none⟩)]) (by simp) (by simp [go_sem]) ?_
          refine (ucaught_idle w.heap.size (w.heap.size + 1) _).mono ?_
          rintro e u' w7 ⟨rfl, rfl, hb7⟩
          have S7 := S14.out.step hb7 (S14.out.size)
          have hE13 : w.heap.size + 1 < w13.heap.size := by have := World.block_lt_of_cell? _ _ hez; simpa using this
          have ec : w7.cell? ⟨w.heap.size + 1, 0, none⟩ = some (.int .i64 0) := (hb7.cell (p := ⟨w.heap.size + 1, 0, none⟩) (by simpa using hE13)).trans (World.cell?_setCell_same' _ _ _ (by rw [hez]; rfl))
          have HR7 := (HRz.out.save ((Save.refl (fun g => g = w.heap.size + 1) w13).set ⟨w.heap.size + 1, 0, none⟩ (.int .i64 0) (fun _ => rfl)) (by omega)).save (Save.none_below hb7) (fun f => f)
          obtain ⟨q0', q1', q2', q3', _, _, _, _, _⟩ := HR7
          have hfin : Below w.heap.size w w7 := hBs.trans (S7.below (by omega) (fun j hj => by omega))
          have SALL := (SW.out.mono (T := fun g => g = w.heap.size ∨ g = w.heap.size + 1) (fun _ _ f => f.elim)).trans ((((Save.refl (fun g => g = w.heap.size ∨ g = w.heap.size + 1) w12).set ⟨w.heap.size, 2, none⟩ (.slice A2 lits.length cap2) (fun _ => .inl rfl))).trans S7 (fun g _ h => h)) (fun g _ h => h)
          have S127 := ((Save.refl (fun g => g = w.heap.size ∨ g = w.heap.size + 1) w12).set ⟨w.heap.size, 2, none⟩ (.slice A2 lits.length cap2) (fun _ => .inl rfl)).trans S7 (fun g _ h => h)
          have hl7 := HL2.out.save S127 (fun g hg e => by have := HI2.out g hg; omega)
          have hk7 := HI.out.save SALL (fun g hg e => by have := HIN.out g hg; omega)
          have ho7 := HO.out.save SALL (fun g hg e => by have := (HO.out.lt g hg).1; omega)
          have hu7 := UntsAt.of_owns ho7 HUS.out (by omega) HUW.out hk7.insof
          have hap : Apart (Value.slice qa ps.length qc :: (ps.map (·.2) ++ rs2)) := HAP.out.push (n := wr.heap.size) (m := w12.heap.size) HA2.out HI.out.lt (fun g hg => (HO.out.lt g hg).2) (fun g hg => ⟨by have := HI2.out g hg; have := HB10.out.size; omega, HL2.out.mine.lt g hg⟩) (fun g hg => .inl hg) (by have := HB10.out.size; omega)
          have hge : ∀ g, In (Value.slice qa ps.length qc :: (ps.map (·.2) ++ rs2)) g → w.heap.size ≤ g := fun g hg => by
            rcases In.cons.1 hg with hg | hg
            · have := (HO.out.lt g hg).1; omega
            · rcases In.append.1 hg with hg | hg
              · have := HIN.out g hg; omega
              · have := HI2.out g hg; have := HB10.out.size; omega
          have HFIN : UnpOwn sel lits b w (.returned (.tuple #[.agg #[.string sel, .int .i64 (p : Int), .slice A2 lits.length cap2, .slice qa ps.length qc], .int .i64 0])) w7 :=
            ⟨.inl ⟨_, _, _, _, _, HC.out, rfl, ⟨hl7, ⟨ps, HUS.out, rfl, ho7.base_le (Nat.zero_le _), hk7⟩, hap⟩, hge, ⟨hl7.at, hu7, hsel, by show _ ≤ (p : Int); omega, by show (p : Int) ≤ _; omega, Nat.le_refl _⟩⟩, hfin⟩
          simp [Leaves, settle, results, Tryz.results20, go_sem, ec, q0', q1', q2', q3', HFIN]
        · have hck' : ((Pl.check ⟨sel, p, lits, us⟩ : Nat) : Int) ≠ 0 := by omega
          have HC := HBAD.out _ _ HRD.out hck
          clear hck
          generalize Pl.check ⟨sel, p, lits, us⟩ = ec at CK hck'
          go_wp2_with (first
            | (go_at_call 11; refine CK.out.mono ?_; rintro e w10 ⟨rfl, hb10⟩
               have SN := Save.none_below hb10
               have HR10 := Lib.hid (HR.out.save SN (fun f => f))
               have HK10 := Lib.hid (HKE.out w10 (HS.out.s.trans SN (fun _ _ f => f.elim)))
               obtain ⟨s0, s1, s2, s3, g0, g1, g2, g3, hSl⟩ := HR10.out
               obtain ⟨h0, hf, hEl2, _, _⟩ := HK10.out
               have HB10 := Lib.hid hb10
               clear hb10 SN))
          clear s0 s1 s2 s3 g0 g1 g2 g3 hSl
          have HRz := Lib.hid (HR10.out.put (.string ⟨#[]⟩) (.int .i64 0) (.slice none 0 0) (.slice none 0 0))
          have hez : ((((w10.setCell ⟨w.heap.size, 0, none⟩ (.string ⟨#[]⟩)).setCell ⟨w.heap.size, 1, none⟩ (.int .i64 0)).setCell ⟨w.heap.size, 2, none⟩ (.slice none 0 0)).setCell ⟨w.heap.size, 3, none⟩ (.slice none 0 0)).cell? ⟨w.heap.size + 1, 0, none⟩ = some (.int .i64 0) := ((CodBox.put_save w10 w.heap.size (.string ⟨#[]⟩) (.int .i64 0) (.slice none 0 0) (.slice none 0 0)).cell 0 hEl2 (by omega)).trans h0
          have SZ := Lib.hid (CodBox.put_save w10 w.heap.size (.string ⟨#[]⟩) (.int .i64 0) (.slice none 0 0) (.slice none 0 0))
          generalize (((w10.setCell ⟨w.heap.size, 0, none⟩ (.string ⟨#[]⟩)).setCell ⟨w.heap.size, 1, none⟩ (.int .i64 0)).setCell ⟨w.heap.size, 2, none⟩ (.slice none 0 0)).setCell ⟨w.heap.size, 3, none⟩ (.slice none 0 0) = w13 at HRz hez SZ ⊢
          have S14 := Lib.hid (((SZ.out.mono (T := fun g => g = w.heap.size ∨ g = w.heap.size + 1) (fun g _ h => .inl h))).set ⟨w.heap.size + 1, 0, none⟩ (.int .i64 203) (fun _ => .inr rfl))
          refine leaves_cons (f := 46) (args := #[.pointer (some ⟨w.heap.size, 0, none⟩), .pointer (some ⟨w.heap.size + 1, 0, none⟩)]) (by simp) (by simp [go_sem]) ?_
          refine (ucaught_idle w.heap.size (w.heap.size + 1) _).mono ?_
          rintro e u' w7 ⟨rfl, rfl, hb7⟩
          have S7 := S14.out.step hb7 (S14.out.size)
          have hE13 : w.heap.size + 1 < w13.heap.size := by have := World.block_lt_of_cell? _ _ hez; simpa using this
          have ec : w7.cell? ⟨w.heap.size + 1, 0, none⟩ = some (.int .i64 203) := (hb7.cell (p := ⟨w.heap.size + 1, 0, none⟩) (by simpa using hE13)).trans (World.cell?_setCell_same' _ _ _ (by rw [hez]; rfl))
          have HR7 := (HRz.out.save ((Save.refl (fun g => g = w.heap.size + 1) w13).set ⟨w.heap.size + 1, 0, none⟩ (.int .i64 203) (fun _ => rfl)) (by omega)).save (Save.none_below hb7) (fun f => f)
          obtain ⟨q0', q1', q2', q3', _, _, _, _, _⟩ := HR7
          have hfin : Below w.heap.size w w7 := HK10.out.2.2.2.1.trans (S7.below (by omega) (fun j hj => by omega))
          simp [Leaves, settle, results, Tryz.results20, go_sem, ec, q0', q1', q2', q3', UnpOwn, HC, hfin]
      · have hne : 0 < (Pl.bs (y :: t)).size := Pl.bs_cons_size y t
        have hemp : (Pl.bs (y :: t)).toList.isEmpty = false := notempty _ hne
        have hemp2 : ((Pl.bs (y :: t)).toList == []) = false := by cases h : (Pl.bs (y :: t)).toList <;> simp [h] at hemp ⊢
        have hc0 := HS.out.c0
        have HC := HNO.out (Pl.rd_more (p := p) HEQ.out (by simp))
        generalize Pl.bs (y :: t) = sz at hne hemp hemp2 hc0
        go_wp2_with fail
        clear r0 r1 r2 r3 f0 f1 f2 f3 hRl
        have HRz := Lib.hid (HR.out.put (.string ⟨#[]⟩) (.int .i64 0) (.slice none 0 0) (.slice none 0 0))
        have hez : ((((wr.setCell ⟨w.heap.size, 0, none⟩ (.string ⟨#[]⟩)).setCell ⟨w.heap.size, 1, none⟩ (.int .i64 0)).setCell ⟨w.heap.size, 2, none⟩ (.slice none 0 0)).setCell ⟨w.heap.size, 3, none⟩ (.slice none 0 0)).cell? ⟨w.heap.size + 1, 0, none⟩ = some (.int .i64 0) := ((CodBox.put_save wr w.heap.size (.string ⟨#[]⟩) (.int .i64 0) (.slice none 0 0) (.slice none 0 0)).cell 0 hEl (by omega)).trans e0
        have SZ := Lib.hid (CodBox.put_save wr w.heap.size (.string ⟨#[]⟩) (.int .i64 0) (.slice none 0 0) (.slice none 0 0))
        generalize (((wr.setCell ⟨w.heap.size, 0, none⟩ (.string ⟨#[]⟩)).setCell ⟨w.heap.size, 1, none⟩ (.int .i64 0)).setCell ⟨w.heap.size, 2, none⟩ (.slice none 0 0)).setCell ⟨w.heap.size, 3, none⟩ (.slice none 0 0) = w13 at HRz hez SZ ⊢
        have S14 := Lib.hid (((SZ.out.mono (T := fun g => g = w.heap.size ∨ g = w.heap.size + 1) (fun g _ h => .inl h))).set ⟨w.heap.size + 1, 0, none⟩ (.int .i64 203) (fun _ => .inr rfl))
        refine leaves_cons (f := 46) (args := #[.pointer (some ⟨w.heap.size, 0, none⟩), .pointer (some ⟨w.heap.size + 1, 0, none⟩)]) (by simp) (by simp [go_sem]) ?_
        refine (ucaught_idle w.heap.size (w.heap.size + 1) _).mono ?_
        rintro e u' w7 ⟨rfl, rfl, hb7⟩
        have S7 := S14.out.step hb7 (S14.out.size)
        have hE13 : w.heap.size + 1 < w13.heap.size := by have := World.block_lt_of_cell? _ _ hez; simpa using this
        have ec : w7.cell? ⟨w.heap.size + 1, 0, none⟩ = some (.int .i64 203) := (hb7.cell (p := ⟨w.heap.size + 1, 0, none⟩) (by simpa using hE13)).trans (World.cell?_setCell_same' _ _ _ (by rw [hez]; rfl))
        have HR7 := (HRz.out.save ((Save.refl (fun g => g = w.heap.size + 1) w13).set ⟨w.heap.size + 1, 0, none⟩ (.int .i64 203) (fun _ => rfl)) (by omega)).save (Save.none_below hb7) (fun f => f)
        obtain ⟨q0', q1', q2', q3', _, _, _, _, _⟩ := HR7
        have hfin : Below w.heap.size w w7 := HBW.out.trans (S7.below (by omega) (fun j hj => by omega))
        simp [Leaves, settle, results, Tryz.results20, go_sem, ec, q0', q1', q2', q3', UnpOwn, HC, hfin]
theorem unpack_any2 {B : Nat} {w : World} {sel b : ByteArray} {lits : List Pl.Lit} {L : Value} (hL : LitsAt B w lits L) (hBw : B ≤ w.heap.size) (hsel : sel.size ≤ 140737488355328) (hbs : b.size ≤ 140737488355328) (he : ErrAt w) (hEB : 9 < B) (hbig : Pl.litsBig lits ≤ 262144) :
    Calls Tryz.prog 20 #[.string sel, L, .string b] w (UnpEnd sel lits b w) := by
  refine (unpack_own hL hBw hsel hbs he hEB hbig).mono ?_
  rintro e w' ⟨⟨c, L', U', ri, rl, h1, rfl, h3, h4, h5⟩ | ⟨h1, rfl⟩, hb⟩
  · refine ⟨.inl ⟨c, L', U', h1, rfl, ?_, h5⟩, hb⟩
    have := (Pl.unpack_some h1).2.1
    rw [← this]
    exact h3.l.of (fun k hk => h4 k (In.cons.2 (.inr (In.append.2 (.inr hk)))))
  · exact ⟨.inr ⟨h1, rfl⟩, hb⟩
end Go.Proofs.YtoklnpoacckbfaaGreatDoor
