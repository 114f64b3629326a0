/- What two strings are together: the walk of PrimsStrings (printed by gen_psw.py). -/
import Derived.Test.YtagoadnjahbjdaaGreatDoorPaam
namespace Go.Proofs.YtagoadnjahbjdaaGreatDoor
open Go Go.RowKit Go.Lib
/-- what 61 answers of a place -/
theorem do61_at (C : ByteArray) (at' : Int) (hs : C.size ≤ 65536) (h1 : -9223372036854775808 ≤ at') (h2 : at' ≤ 9223372036854775807) :
    ∃ K N is, (∀ av W, TRow W av [tst C, tsm at'] → Calls Tryz.prog 12 #[.int .i64 61, av] W (Came W (Just K N ⟨#[]⟩ is))) ∧
      ((is = true ∧ ∃ (k : Nat) (hk : k < C.size), at' = (k : Int) + 1 ∧ N = (C[k]'hk).toNat) ∨ (is = false ∧ (at' < 1 ∨ (C.size : Int) < at'))) := by
  by_cases hin : 1 ≤ at' ∧ at' ≤ C.size
  · obtain ⟨k, hk⟩ : ∃ k : Nat, at' = (k : Int) + 1 := ⟨(at' - 1).toNat, by omega⟩
    have hkl : k < C.size := by omega
    refine ⟨7, (C[k]'hkl).toNat, true, fun av W h => do61 C at' k (C[k]'hkl) av W hs ?_ hk (by unfold FitsI; omega) h, .inl ⟨rfl, k, hkl, hk, rfl⟩⟩
    rw [Array.getElem?_toList]
    exact Array.getElem?_eq_getElem (xs := C.data) hkl
  · have ho : at' < 1 ∨ (C.size : Int) < at' := by omega
    by_cases hf : FitsI at'
    · exact ⟨0, 0, false, fun av W h => do61_out C at' av W hs ho hf h, .inr ⟨rfl, ho⟩⟩
    · exact ⟨0, 0, false, fun av W h => do61_bad C at' av W hs h1 h2 hf h, .inr ⟨rfl, ho⟩⟩
theorem Just.out {k0 n0 k n b : Int} {t0 t : ByteArray} {is0 is : Bool} (h : Just k0 n0 t0 is0 k n b t is) : k0 = k ∧ n0 = n ∧ 0 = b ∧ t0 = t ∧ is0 = is := ⟨h.1.symm, h.2.1.symm, h.2.2.1.symm, h.2.2.2.1.symm, h.2.2.2.2.symm⟩
theorem Pl.app_left (a b : ByteArray) : (a ++ b).extract 0 a.size = a := by
  apply ByteArray.ext
  apply Array.toList_inj.1
  have : a.size = a.data.toList.length := by simp
  rw [ByteArray.data_extract, Array.toList_extract, ByteArray.data_append, Array.toList_append, this]
  simp [List.extract]
theorem Pl.app_right (a b : ByteArray) : (a ++ b).extract a.size (a.size + b.size) = b := by
  apply ByteArray.ext
  apply Array.toList_inj.1
  have h1 : a.size = a.data.toList.length := by simp
  have h2 : b.size = b.data.toList.length := by simp
  rw [ByteArray.data_extract, Array.toList_extract, ByteArray.data_append, Array.toList_append, h1, h2]
  simp only [List.extract, List.drop_append, List.drop_length, Nat.sub_self, List.drop_zero, List.nil_append]
  rw [List.take_of_length_le (by omega)]
set_option maxRecDepth 4000 in
set_option maxHeartbeats 8000000 in
theorem primsStrings_any (a b : ByteArray) (at' : Int) (w : World) (ha : a.size ≤ 140737488355328) (hb : b.size ≤ 140737488355328) (h1 : -9223372036854775808 ≤ at') (h2 : at' ≤ 9223372036854775807) :
    Calls Tryz.prog 5 #[.string a, .string b, .int .i64 at'] w fun e w' => e = .returned (.bool true) ∧ Below w.heap.size w w' := by
  have HAW := Lib.hid (law21_awake w)
  by_cases hs : a.size + b.size ≤ 65536
  case neg =>
    have d0 : decide ((65536 : Int) < (a.size : Int) + (b.size : Int)) = true := decide_eq_true (by omega)
    go_enter Tryz.func5, Tryz.ntmps5
    go_wp2_with fail
    refine HAW.out.mono ?_
    rintro e w1 ⟨rfl, hb1⟩
    have HB1 := Lib.hid hb1
    clear hb1
    go_wp2_with fail
    go_ret
    exact ⟨rfl, HB1.out⟩
  have d0 : decide ((65536 : Int) < (a.size : Int) + (b.size : Int)) = false := decide_eq_false (by omega)
  obtain ⟨C, hC⟩ : ∃ C, a ++ b = C := ⟨_, rfl⟩
  have hCs : C.size = a.size + b.size := by rw [← hC, ByteArray.size_append]
  have HCA : Hid (C.extract 0 a.size = a) := Lib.hid (by rw [← hC]; exact Pl.app_left a b)
  have HCB : Hid (C.extract a.size (a.size + b.size) = b) := Lib.hid (by rw [← hC]; exact Pl.app_right a b)
  obtain ⟨K, N, isk, hK, hwh⟩ := do61_at C at' (by omega) h1 h2
  have HK := Lib.hid hK
  clear hK
  have HD63 : Hid (∀ av W, TRow W av [tst a, tst b] → Calls Tryz.prog 12 #[.int .i64 63, av] W (Came W (Just 8 0 C true))) := Lib.hid (fun av W h => by rw [← hC]; exact do63 a b av W hs h)
  have HL63 := Lib.hid (fun W => ldo_any 63 (tst a) (tst b) none none 0 0 0 0 _ W rfl rfl (fun W av h => HD63.out av W h))
  have HL61 := Lib.hid (fun W => ldo_any 61 (tst C) (tsm at') none none 0 0 0 0 _ W rfl rfl (fun W av h => HK.out av W h))
  unfold PT.lit litv tst at HL63
  unfold PT.lit litv tst tsm at HL61
  simp only at HL63 HL61
  have HLT := Lib.hid (fun s W => ltx_any s W)
  have HSM := Lib.hid (fun n W => lsm_any n W)
  unfold litv at HLT HSM
  go_enter Tryz.func5, Tryz.ntmps5
  go_wp2_with fail
  refine HAW.out.mono ?_
  rintro e w1 ⟨rfl, hb1⟩
  have HW := Lib.hid hb1
  clear hb1
  go_wp2_with (go_at_call 11; refine (HLT.out _ _).mono ?_)
  rintro e w2 ⟨rfl, hb1⟩
  replace HW := Lib.hid (HW.out.trans (hb1.mono HW.out.size))
  clear hb1
  go_wp2_with (go_at_call 11; refine (HLT.out _ _).mono ?_)
  rintro e w3 ⟨rfl, hb1⟩
  replace HW := Lib.hid (HW.out.trans (hb1.mono HW.out.size))
  clear hb1
  go_wp2_with (go_at_call 9; refine (HL63.out _).mono ?_)
  rintro e w4 ⟨k3, n3, b3, t3, is3, hP, rfl, hb1⟩
  obtain ⟨rfl, rfl, rfl, rfl, rfl⟩ := hP.out
  replace HW := Lib.hid (HW.out.trans (hb1.mono HW.out.size))
  clear hb1
  unfold litv
  go_upto_region 5 with fail
  obtain ⟨v4, hv⟩ : ∃ W, w4.alloc (.cells #[.int .u8 8, .int .i64 0, .int .u64 0, .string C, .slice none 0 0] 26) = W := ⟨_, rfl⟩
  have HW3 : Hid (Below w.heap.size w v4) := Lib.hid (by rw [← hv]; exact HW.out.alloc HW.out.size _)
  obtain ⟨kc, hkc⟩ : ∃ k, w4.heap.size = k := ⟨_, rfl⟩
  have HC : Hid (P5 v4 kc (.int .u8 8) (.int .i64 0) (.int .u64 0) (.string C) (.slice none 0 0)) := Lib.hid (by rw [← hv, ← hkc]; exact P5.new _ _ _ _ _ _)
  rw [hv, hkc]
  clear hv HW hkc
  have HW := HW3
  clear HW3
  go_cut [10, 11] from 42 to 178 (fun s7 s8 wx => ∃ k, s7 = .pointer (some ⟨k, 0, none⟩) ∧ s8 = .bool true ∧ P5 wx k (.int .u8 8) (.int .i64 0) (.int .u64 0) (.string a) (.slice none 0 0) ∧ Below v4.heap.size v4 wx)
  case first =>
    have BD := Lib.hid (show Below v4.heap.size v4 v4.drew from (Below.refl _ v4).drew)
    have BA := Lib.hid (show ∀ o, Below v4.heap.size v4 (v4.alloc o).drew from fun o => ((Below.refl _ v4).alloc (Nat.le_refl _) o).drew)
    obtain ⟨a0, a1, a2, a3, a4, _, _, _, _, _⟩ := HC.out.cells
    have HS : Hid (∀ W, Below v4.heap.size v4 W → W.cell? ⟨kc, 0, none⟩ = some (.int .u8 8) ∧ W.cell? ⟨kc, 1, none⟩ = some (.int .i64 0) ∧ W.cell? ⟨kc, 2, none⟩ = some (.int .u64 0) ∧ W.cell? ⟨kc, 3, none⟩ = some (.string C) ∧ W.cell? ⟨kc, 4, none⟩ = some (.slice none 0 0)) := Lib.hid (fun W hb => by obtain ⟨a0, a1, a2, a3, a4, _, _, _, _, _⟩ := (HC.out.below hb).cells; exact ⟨a0, a1, a2, a3, a4⟩)
    have HD2 : Hid (∀ av W, TRow W av [tst C, tsm 1, tsm (a.size : Int)] → Calls Tryz.prog 12 #[.int .i64 68, av] W (Came W (Just 8 0 a true))) := Lib.hid (fun av W h => by have := do68 C 1 (a.size : Int) 0 a.size av W (by omega) rfl rfl (Nat.zero_le _) (by omega) h; rwa [HCA.out] at this)
    go_region_held3 (fun W => W.cell? ⟨kc, 0, none⟩ = some (.int .u8 8) ∧ W.cell? ⟨kc, 1, none⟩ = some (.int .i64 0) ∧ W.cell? ⟨kc, 2, none⟩ = some (.int .u64 0) ∧ W.cell? ⟨kc, 3, none⟩ = some (.string C) ∧ W.cell? ⟨kc, 4, none⟩ = some (.slice none 0 0)) (first | with_reducible exact ⟨a0, a1, a2, a3, a4⟩ | with_reducible exact HS.out _ BD.out | with_reducible exact HS.out _ (BA.out _) | with_reducible exact HS.out _ hb3 | with_reducible exact HS.out _ (hb3.alloc hb3.size _) | with_reducible exact HS.out _ ((hb3.alloc hb3.size _).alloc (Nat.le_trans hb3.size (by simp)) _) | with_reducible exact HS.out _ hb4 | with_reducible exact HS.out _ (hb4.alloc hb4.size _) | with_reducible exact HS.out _ ((hb4.alloc hb4.size _).alloc (Nat.le_trans hb4.size (by simp)) _) | with_reducible exact HS.out _ hb6 | with_reducible exact HS.out _ (hb6.alloc hb6.size _) | with_reducible exact HS.out _ ((hb6.alloc hb6.size _).alloc (Nat.le_trans hb6.size (by simp)) _) | with_reducible exact HS.out _ (below_set5 hb6 (by omega) _ _ _ _ _)) (first
      | (go_at_call 13; (have hg := hb3); (with_reducible refine (HSM.out _ _).mono ?_); rintro e w40 ⟨rfl, hb4d⟩; (first | (have hb4 : Below v4.heap.size v4 w40 := (hb3.alloc hb3.size _).trans (hb4d.mono (Nat.le_trans hb3.size (by simp))); have LA4 : P5 w40 w39.heap.size (.int .u8 0) (.int .i64 0) (.int .u64 0) (.string ⟨#[]⟩) (.slice none 0 0) := (P5.new w39 _ _ _ _ _).below hb4d) | (have hb4 : Below v4.heap.size v4 w40 := hb3.trans (hb4d.mono hb3.size); (first | (have LA4 : P5 w40 v4.heap.size (.int .u8 0) (.int .i64 0) (.int .u64 0) (.string ⟨#[]⟩) (.slice none 0 0) := LA3.below hb4d) | skip))); have hs4 := hb4.size; have HTa := trow_new w40 [tst C, tsm 1, tsm (a.size : Int)] #[.int .u8 8, .int .i64 0, .int .u64 0, .string C, .slice none 0 0, .int .u8 4, .int .i64 1, .int .u64 0, .string ⟨#[]⟩, .slice none 0 0, .int .u8 4, .int .i64 (a.size : Int), .int .u64 0, .string ⟨#[]⟩, .slice none 0 0] 26 rfl 3 rfl; have HTb := HTa.alloc (.cells #[.int .u8 0, .int .i64 0, .int .u64 0, .string ⟨#[]⟩, .slice none 0 0] 26); have HTc := trow_c w40 (.cells #[.int .u8 0, .int .i64 0, .int .u64 0, .string ⟨#[]⟩, .slice none 0 0] 26) [tst C, tsm 1, tsm (a.size : Int)] #[.int .u8 8, .int .i64 0, .int .u64 0, .string C, .slice none 0 0, .int .u8 4, .int .i64 1, .int .u64 0, .string ⟨#[]⟩, .slice none 0 0, .int .u8 4, .int .i64 (a.size : Int), .int .u64 0, .string ⟨#[]⟩, .slice none 0 0] 26 rfl 3 rfl; clear hb4d hg)
      | (go_at_call 13; (with_reducible refine (HSM.out _ _).mono ?_); rintro e w39 ⟨rfl, hb3d⟩; (first | (have hb3 : Below v4.heap.size v4 w39 := BD.out.trans hb3d) | (have hb3 : Below v4.heap.size v4 w39 := (BA.out _).trans (hb3d.mono (by simp)); have LA3 : P5 w39 v4.heap.size (.int .u8 0) (.int .i64 0) (.int .u64 0) (.string ⟨#[]⟩) (.slice none 0 0) := (P5.new v4 _ _ _ _ _).drew.below hb3d)); have hs3 := hb3.size; clear hb3d)
      | (go_at_call 12; (first
        | ((with_reducible refine (HD2.out _ _ HTa).mono ?_); rintro e w41 ⟨k3, n3, b3, t3, is3, hP, rfl, hb5⟩; (have hb6 : Below v4.heap.size v4 w41 := (hb4.alloc hs4 _).trans (hb5.mono (by simp; omega))); (first | (have LA5 := (LA4.alloc _).below hb5; obtain ⟨z0, z1, z2, z3, z4, y0, y1, y2, y3, y4⟩ := LA5.cells; have hla := LA4.lt) | skip))
        | ((with_reducible refine (HD2.out _ _ HTc).mono ?_); rintro e w41 ⟨k3, n3, b3, t3, is3, hP, rfl, hb5⟩; (have hb6 : Below v4.heap.size v4 w41 := ((hb4.alloc hs4 _).alloc (Nat.le_trans hs4 (by simp)) _).trans (hb5.mono (by simp; omega))); have LA5 : P5 w41 w40.heap.size (.int .u8 0) (.int .i64 0) (.int .u64 0) (.string ⟨#[]⟩) (.slice none 0 0) := ((P5.new w40 _ _ _ _ _).alloc _).below hb5; obtain ⟨z0, z1, z2, z3, z4, y0, y1, y2, y3, y4⟩ := LA5.cells)
        | ((with_reducible refine (HD2.out _ _ HTb).mono ?_); rintro e w41 ⟨k3, n3, b3, t3, is3, hP, rfl, hb5⟩; (have hb6 : Below v4.heap.size v4 w41 := ((hb4.alloc hs4 _).alloc (Nat.le_trans hs4 (by simp)) _).trans (hb5.mono (by simp; omega))); have LA5 : P5 w41 (w40.heap.size + 1) (.int .u8 0) (.int .i64 0) (.int .u64 0) (.string ⟨#[]⟩) (.slice none 0 0) := (P5.new1 w40 (.cells #[.int .u8 8, .int .i64 0, .int .u64 0, .string C, .slice none 0 0, .int .u8 4, .int .i64 1, .int .u64 0, .string ⟨#[]⟩, .slice none 0 0, .int .u8 4, .int .i64 (a.size : Int), .int .u64 0, .string ⟨#[]⟩, .slice none 0 0] 26) (.int .u8 0) (.int .i64 0) (.int .u64 0) (.string ⟨#[]⟩) (.slice none 0 0)).below hb5; obtain ⟨z0, z1, z2, z3, z4, y0, y1, y2, y3, y4⟩ := LA5.cells)); obtain ⟨rfl, rfl, rfl, rfl, rfl⟩ := hP.out; unfold litv))
    all_goals
      go_wp2_with fail
      go_meet
      case rel => first | exact ⟨_, rfl, rfl, LA5.set _ _ _ _ _, below_set5 hb6 (by omega) _ _ _ _ _⟩ | exact ⟨_, rfl, rfl, P5.new w41 _ _ _ _ _, hb6.alloc hb6.size _⟩
  case rest =>
    obtain ⟨kxX, rfl, rfl, hX, hb1⟩ := hcut
    have HX := Lib.hid hX
    replace HC := Lib.hid (HC.out.below hb1)
    replace HW := Lib.hid (HW.out.trans (hb1.mono HW.out.size))
    clear hb1 hX
    obtain ⟨v5, hvn⟩ : ∃ x, x = wc := ⟨wc, rfl⟩
    subst hvn
    have wr1 : IntKind.i64.wrap ((a.size : Int) + 1) = (a.size : Int) + 1 := IntWalk.i64_in _ (by omega)
    have wr2 : IntKind.i64.wrap ((a.size : Int) + (b.size : Int)) = (a.size : Int) + (b.size : Int) := IntWalk.i64_in _ (by omega)
    go_upto_region 6 with fail
    go_cut [12, 13] from 52 to 178 (fun s7 s8 wx => ∃ k, s7 = .pointer (some ⟨k, 0, none⟩) ∧ s8 = .bool true ∧ P5 wx k (.int .u8 8) (.int .i64 0) (.int .u64 0) (.string b) (.slice none 0 0) ∧ Below v5.heap.size v5 wx)
    case first =>
      have BD := Lib.hid (show Below v5.heap.size v5 v5.drew from (Below.refl _ v5).drew)
      have BA := Lib.hid (show ∀ o, Below v5.heap.size v5 (v5.alloc o).drew from fun o => ((Below.refl _ v5).alloc (Nat.le_refl _) o).drew)
      obtain ⟨a0, a1, a2, a3, a4, _, _, _, _, _⟩ := HC.out.cells
      have HS : Hid (∀ W, Below v5.heap.size v5 W → W.cell? ⟨kc, 0, none⟩ = some (.int .u8 8) ∧ W.cell? ⟨kc, 1, none⟩ = some (.int .i64 0) ∧ W.cell? ⟨kc, 2, none⟩ = some (.int .u64 0) ∧ W.cell? ⟨kc, 3, none⟩ = some (.string C) ∧ W.cell? ⟨kc, 4, none⟩ = some (.slice none 0 0)) := Lib.hid (fun W hb => by obtain ⟨a0, a1, a2, a3, a4, _, _, _, _, _⟩ := (HC.out.below hb).cells; exact ⟨a0, a1, a2, a3, a4⟩)
      have HD2 : Hid (∀ av W, TRow W av [tst C, tsm ((a.size : Int) + 1), tsm ((a.size : Int) + (b.size : Int))] → Calls Tryz.prog 12 #[.int .i64 68, av] W (Came W (Just 8 0 b true))) := Lib.hid (fun av W h => by have := do68 C ((a.size : Int) + 1) ((a.size : Int) + (b.size : Int)) a.size (a.size + b.size) av W (by omega) rfl (by omega) (by omega) (by omega) h; rwa [HCB.out] at this)
      go_region_held3 (fun W => W.cell? ⟨kc, 0, none⟩ = some (.int .u8 8) ∧ W.cell? ⟨kc, 1, none⟩ = some (.int .i64 0) ∧ W.cell? ⟨kc, 2, none⟩ = some (.int .u64 0) ∧ W.cell? ⟨kc, 3, none⟩ = some (.string C) ∧ W.cell? ⟨kc, 4, none⟩ = some (.slice none 0 0)) (first | with_reducible exact ⟨a0, a1, a2, a3, a4⟩ | with_reducible exact HS.out _ BD.out | with_reducible exact HS.out _ (BA.out _) | with_reducible exact HS.out _ hb3 | with_reducible exact HS.out _ (hb3.alloc hb3.size _) | with_reducible exact HS.out _ ((hb3.alloc hb3.size _).alloc (Nat.le_trans hb3.size (by simp)) _) | with_reducible exact HS.out _ hb4 | with_reducible exact HS.out _ (hb4.alloc hb4.size _) | with_reducible exact HS.out _ ((hb4.alloc hb4.size _).alloc (Nat.le_trans hb4.size (by simp)) _) | with_reducible exact HS.out _ hb6 | with_reducible exact HS.out _ (hb6.alloc hb6.size _) | with_reducible exact HS.out _ ((hb6.alloc hb6.size _).alloc (Nat.le_trans hb6.size (by simp)) _) | with_reducible exact HS.out _ (below_set5 hb6 (by omega) _ _ _ _ _)) (first
        | (go_at_call 13; (have hg := hb3); (with_reducible refine (HSM.out _ _).mono ?_); rintro e w40 ⟨rfl, hb4d⟩; (first | (have hb4 : Below v5.heap.size v5 w40 := (hb3.alloc hb3.size _).trans (hb4d.mono (Nat.le_trans hb3.size (by simp))); have LA4 : P5 w40 w39.heap.size (.int .u8 0) (.int .i64 0) (.int .u64 0) (.string ⟨#[]⟩) (.slice none 0 0) := (P5.new w39 _ _ _ _ _).below hb4d) | (have hb4 : Below v5.heap.size v5 w40 := hb3.trans (hb4d.mono hb3.size); (first | (have LA4 : P5 w40 v5.heap.size (.int .u8 0) (.int .i64 0) (.int .u64 0) (.string ⟨#[]⟩) (.slice none 0 0) := LA3.below hb4d) | skip))); have hs4 := hb4.size; have HTa := trow_new w40 [tst C, tsm ((a.size : Int) + 1), tsm ((a.size : Int) + (b.size : Int))] #[.int .u8 8, .int .i64 0, .int .u64 0, .string C, .slice none 0 0, .int .u8 4, .int .i64 ((a.size : Int) + 1), .int .u64 0, .string ⟨#[]⟩, .slice none 0 0, .int .u8 4, .int .i64 ((a.size : Int) + (b.size : Int)), .int .u64 0, .string ⟨#[]⟩, .slice none 0 0] 26 rfl 3 rfl; have HTb := HTa.alloc (.cells #[.int .u8 0, .int .i64 0, .int .u64 0, .string ⟨#[]⟩, .slice none 0 0] 26); have HTc := trow_c w40 (.cells #[.int .u8 0, .int .i64 0, .int .u64 0, .string ⟨#[]⟩, .slice none 0 0] 26) [tst C, tsm ((a.size : Int) + 1), tsm ((a.size : Int) + (b.size : Int))] #[.int .u8 8, .int .i64 0, .int .u64 0, .string C, .slice none 0 0, .int .u8 4, .int .i64 ((a.size : Int) + 1), .int .u64 0, .string ⟨#[]⟩, .slice none 0 0, .int .u8 4, .int .i64 ((a.size : Int) + (b.size : Int)), .int .u64 0, .string ⟨#[]⟩, .slice none 0 0] 26 rfl 3 rfl; clear hb4d hg)
        | (go_at_call 13; (with_reducible refine (HSM.out _ _).mono ?_); rintro e w39 ⟨rfl, hb3d⟩; (first | (have hb3 : Below v5.heap.size v5 w39 := BD.out.trans hb3d) | (have hb3 : Below v5.heap.size v5 w39 := (BA.out _).trans (hb3d.mono (by simp)); have LA3 : P5 w39 v5.heap.size (.int .u8 0) (.int .i64 0) (.int .u64 0) (.string ⟨#[]⟩) (.slice none 0 0) := (P5.new v5 _ _ _ _ _).drew.below hb3d)); have hs3 := hb3.size; clear hb3d)
        | (go_at_call 12; (first
          | ((with_reducible refine (HD2.out _ _ HTa).mono ?_); rintro e w41 ⟨k3, n3, b3, t3, is3, hP, rfl, hb5⟩; (have hb6 : Below v5.heap.size v5 w41 := (hb4.alloc hs4 _).trans (hb5.mono (by simp; omega))); (first | (have LA5 := (LA4.alloc _).below hb5; obtain ⟨z0, z1, z2, z3, z4, y0, y1, y2, y3, y4⟩ := LA5.cells; have hla := LA4.lt) | skip))
          | ((with_reducible refine (HD2.out _ _ HTc).mono ?_); rintro e w41 ⟨k3, n3, b3, t3, is3, hP, rfl, hb5⟩; (have hb6 : Below v5.heap.size v5 w41 := ((hb4.alloc hs4 _).alloc (Nat.le_trans hs4 (by simp)) _).trans (hb5.mono (by simp; omega))); have LA5 : P5 w41 w40.heap.size (.int .u8 0) (.int .i64 0) (.int .u64 0) (.string ⟨#[]⟩) (.slice none 0 0) := ((P5.new w40 _ _ _ _ _).alloc _).below hb5; obtain ⟨z0, z1, z2, z3, z4, y0, y1, y2, y3, y4⟩ := LA5.cells)
          | ((with_reducible refine (HD2.out _ _ HTb).mono ?_); rintro e w41 ⟨k3, n3, b3, t3, is3, hP, rfl, hb5⟩; (have hb6 : Below v5.heap.size v5 w41 := ((hb4.alloc hs4 _).alloc (Nat.le_trans hs4 (by simp)) _).trans (hb5.mono (by simp; omega))); have LA5 : P5 w41 (w40.heap.size + 1) (.int .u8 0) (.int .i64 0) (.int .u64 0) (.string ⟨#[]⟩) (.slice none 0 0) := (P5.new1 w40 (.cells #[.int .u8 8, .int .i64 0, .int .u64 0, .string C, .slice none 0 0, .int .u8 4, .int .i64 ((a.size : Int) + 1), .int .u64 0, .string ⟨#[]⟩, .slice none 0 0, .int .u8 4, .int .i64 ((a.size : Int) + (b.size : Int)), .int .u64 0, .string ⟨#[]⟩, .slice none 0 0] 26) (.int .u8 0) (.int .i64 0) (.int .u64 0) (.string ⟨#[]⟩) (.slice none 0 0)).below hb5; obtain ⟨z0, z1, z2, z3, z4, y0, y1, y2, y3, y4⟩ := LA5.cells)); obtain ⟨rfl, rfl, rfl, rfl, rfl⟩ := hP.out; unfold litv))
      all_goals
        go_wp2_with fail
        go_meet
        case rel => first | exact ⟨_, rfl, rfl, LA5.set _ _ _ _ _, below_set5 hb6 (by omega) _ _ _ _ _⟩ | exact ⟨_, rfl, rfl, P5.new w41 _ _ _ _ _, hb6.alloc hb6.size _⟩
    case rest =>
      obtain ⟨kxY, rfl, rfl, hX, hb1⟩ := hcut
      have HY := Lib.hid hX
      replace HC := Lib.hid (HC.out.below hb1)
      replace HX := Lib.hid (HX.out.below hb1)
      replace HW := Lib.hid (HW.out.trans (hb1.mono HW.out.size))
      clear hb1 hX
      obtain ⟨v6, hvn⟩ : ∃ x, x = wc := ⟨wc, rfl⟩
      subst hvn
      obtain ⟨x0, x1, x2, x3, x4, _, _, _, _, _⟩ := HX.out.cells
      obtain ⟨y0, y1, y2, y3, y4, _, _, _, _, _⟩ := HY.out.cells
      obtain ⟨a0, a1, a2, a3, a4, _, _, _, _, _⟩ := HC.out.cells
      have e0 : (!(a.toList == a.toList)) = false := by rw [beq_self_eq_true]; rfl
      have e1 : (!(b.toList == b.toList)) = false := by rw [beq_self_eq_true]; rfl
      go_wp2_with fail
      refine (do62 C _ _ (by omega) (trow_new _ _ _ _ rfl _ rfl)).mono ?_
      rintro e w7 ⟨k3, n3, b3, t3, is3, hP, rfl, hb1⟩
      obtain ⟨rfl, rfl, rfl, rfl, rfl⟩ := hP.out
      clear x0 x1 x2 x3 x4 y0 y1 y2 y3 y4 a0 a1 a2 a3 a4 HX HY
      replace HC := Lib.hid ((HC.out.alloc _).below hb1)
      replace HW := Lib.hid ((HW.out.alloc HW.out.size _).trans (hb1.mono (by have := HW.out.size; simp; omega)))
      clear hb1
      unfold litv
      go_upto_region 10 with fail
      obtain ⟨v7, hv⟩ : ∃ W, w7.alloc (.cells #[.int .u8 4, .int .i64 ((a.size : Int) + (b.size : Int)), .int .u64 0, .string ⟨#[]⟩, .slice none 0 0] 26) = W := ⟨_, rfl⟩
      have HW3 : Hid (Below w.heap.size w v7) := Lib.hid (by rw [← hv]; exact HW.out.alloc HW.out.size _)
      obtain ⟨kxN, hkc⟩ : ∃ k, w7.heap.size = k := ⟨_, rfl⟩
      have HN : Hid (P5 v7 kxN (.int .u8 4) (.int .i64 ((a.size : Int) + (b.size : Int))) (.int .u64 0) (.string ⟨#[]⟩) (.slice none 0 0)) := Lib.hid (by rw [← hv, ← hkc]; exact P5.new _ _ _ _ _ _)
      have HC3 := Lib.hid (HC.out.alloc (.cells #[.int .u8 4, .int .i64 ((a.size : Int) + (b.size : Int)), .int .u64 0, .string ⟨#[]⟩, .slice none 0 0] 26))
      rw [hv] at HC3 ⊢
      rw [hkc]
      clear hv HW hkc HC
      have HW := HW3
      have HC := HC3
      clear HW3 HC3
      go_cut [16, 17] from 96 to 178 (fun s7 s8 wx => ∃ k, s7 = .pointer (some ⟨k, 0, none⟩) ∧ s8 = .bool isk ∧ P5 wx k (.int .u8 K) (.int .i64 N) (.int .u64 0) (.string ⟨#[]⟩) (.slice none 0 0) ∧ Below v7.heap.size v7 wx)
      case first =>
        have BD := Lib.hid (show Below v7.heap.size v7 v7.drew from (Below.refl _ v7).drew)
        have BA := Lib.hid (show ∀ o, Below v7.heap.size v7 (v7.alloc o).drew from fun o => ((Below.refl _ v7).alloc (Nat.le_refl _) o).drew)
        obtain ⟨a0, a1, a2, a3, a4, _, _, _, _, _⟩ := HC.out.cells
        have HS : Hid (∀ W, Below v7.heap.size v7 W → W.cell? ⟨kc, 0, none⟩ = some (.int .u8 8) ∧ W.cell? ⟨kc, 1, none⟩ = some (.int .i64 0) ∧ W.cell? ⟨kc, 2, none⟩ = some (.int .u64 0) ∧ W.cell? ⟨kc, 3, none⟩ = some (.string C) ∧ W.cell? ⟨kc, 4, none⟩ = some (.slice none 0 0)) := Lib.hid (fun W hb => by obtain ⟨a0, a1, a2, a3, a4, _, _, _, _, _⟩ := (HC.out.below hb).cells; exact ⟨a0, a1, a2, a3, a4⟩)
        go_region_held3 (fun W => W.cell? ⟨kc, 0, none⟩ = some (.int .u8 8) ∧ W.cell? ⟨kc, 1, none⟩ = some (.int .i64 0) ∧ W.cell? ⟨kc, 2, none⟩ = some (.int .u64 0) ∧ W.cell? ⟨kc, 3, none⟩ = some (.string C) ∧ W.cell? ⟨kc, 4, none⟩ = some (.slice none 0 0)) (first | with_reducible exact ⟨a0, a1, a2, a3, a4⟩ | with_reducible exact HS.out _ BD.out | with_reducible exact HS.out _ (BA.out _) | with_reducible exact HS.out _ hb4 | with_reducible exact HS.out _ (hb4.alloc hb4.size _) | with_reducible exact HS.out _ ((hb4.alloc hb4.size _).alloc (Nat.le_trans hb4.size (by simp)) _) | with_reducible exact HS.out _ hb6 | with_reducible exact HS.out _ (hb6.alloc hb6.size _) | with_reducible exact HS.out _ ((hb6.alloc hb6.size _).alloc (Nat.le_trans hb6.size (by simp)) _) | with_reducible exact HS.out _ (below_set5 hb6 (by omega) _ _ _ _ _)) (first
          | (go_at_call 13; (with_reducible refine (HSM.out _ _).mono ?_); rintro e w40 ⟨rfl, hb4d⟩; (first | (have hb4 : Below v7.heap.size v7 w40 := BD.out.trans hb4d) | (have hb4 : Below v7.heap.size v7 w40 := (BA.out _).trans (hb4d.mono (by simp)); have LA4 : P5 w40 v7.heap.size (.int .u8 0) (.int .i64 0) (.int .u64 0) (.string ⟨#[]⟩) (.slice none 0 0) := (P5.new v7 _ _ _ _ _).drew.below hb4d)); have hs4 := hb4.size; clear hb4d)
          | (go_at_call 9; (with_reducible refine (HL61.out _).mono ?_); rintro e w41 ⟨k3, n3, b3, t3, is3, hP, rfl, hb5⟩; (first
            | (have hb6 : Below v7.heap.size v7 w41 := hb4.trans (hb5.mono (by omega)); (first | (have LA5 := LA4.below hb5; have hla := LA4.lt; obtain ⟨z0, z1, z2, z3, z4, y0, y1, y2, y3, y4⟩ := LA5.cells) | skip))
            | (have hb6 : Below v7.heap.size v7 w41 := (hb4.alloc hs4 _).trans (hb5.mono (by simp; omega)); have LA5 : P5 w41 w40.heap.size (.int .u8 0) (.int .i64 0) (.int .u64 0) (.string ⟨#[]⟩) (.slice none 0 0) := (P5.new w40 _ _ _ _ _).below hb5; obtain ⟨z0, z1, z2, z3, z4, y0, y1, y2, y3, y4⟩ := LA5.cells)); obtain ⟨rfl, rfl, rfl, rfl, rfl⟩ := hP.out; unfold litv))
        all_goals
          go_wp2_with fail
          go_meet
          case rel => first | exact ⟨_, rfl, rfl, LA5.set _ _ _ _ _, below_set5 hb6 (by omega) _ _ _ _ _⟩ | exact ⟨_, rfl, rfl, P5.new w41 _ _ _ _ _, hb6.alloc hb6.size _⟩
      case rest =>
        obtain ⟨kxQ, rfl, rfl, hX, hb1⟩ := hcut
        have HQ := Lib.hid hX
        replace HC := Lib.hid (HC.out.below hb1)
        replace HN := Lib.hid (HN.out.below hb1)
        replace HW := Lib.hid (HW.out.trans (hb1.mono HW.out.size))
        clear hb1 hX
        obtain ⟨v8, hvn⟩ : ∃ x, x = wc := ⟨wc, rfl⟩
        subst hvn
        obtain ⟨inb, hinb⟩ : ∃ q, decide (1 ≤ at' ∧ at' ≤ (C.size : Int)) = q := ⟨_, rfl⟩
        have HI : Hid (isk = inb) := Lib.hid (by
          rw [← hinb]
          rcases hwh with ⟨rfl, k, hk, e, _⟩ | ⟨rfl, h⟩
          · exact (decide_eq_true (by omega)).symm
          · exact (decide_eq_false (by omega)).symm)
        have hcase : (isk = true ∧ decide (1 ≤ at') = true ∧ decide (at' ≤ (a.size : Int) + (b.size : Int)) = true ∧ ∃ (k : Nat) (hk : k < C.size), at' = (k : Int) + 1 ∧ N = (C[k]'hk).toNat) ∨ (isk = false ∧ decide (1 ≤ at') = false) ∨ (isk = false ∧ decide (1 ≤ at') = true ∧ decide (at' ≤ (a.size : Int) + (b.size : Int)) = false) := by
          rcases hwh with ⟨rfl, k, hk, e, e2⟩ | ⟨rfl, h⟩
          · exact .inl ⟨rfl, decide_eq_true (by omega), decide_eq_true (by omega), k, hk, e, e2⟩
          · by_cases h1 : 1 ≤ at'
            · exact .inr (.inr ⟨rfl, decide_eq_true h1, decide_eq_false (by omega)⟩)
            · exact .inr (.inl ⟨rfl, decide_eq_false h1⟩)
        have HCASE := Lib.hid hcase
        clear hwh hinb HI inb hcase HK HL61 HL63 HD63
        have W66 := Lib.hid (fun W av (h : TRow W av [tst C]) => do66 C av W (by omega) h)
        have W67 := Lib.hid (fun W av (h : TRow W av [tsy C]) => do67 C av W (by omega) h)
        obtain ⟨a0, a1, a2, a3, a4, _, _, _, _, _⟩ := HC.out.cells
        have HSL := Lib.hid (fun W => slf_any 8 0 0 8 0 0 C C none none 0 0 W)
        rw [decide_eq_true (show (8 : Int) = 8 ∧ (0 : Int) = 0 ∧ (0 : Int) = 0 ∧ C = C from ⟨rfl, rfl, rfl, rfl⟩)] at HSL
        unfold litv at HSL
        go_upto_region 11 with fail
        rcases HCASE.out with ⟨hi, q1, q2, k, hk, he, hN⟩ | ⟨hi, q1⟩ | ⟨hi, q1, q2⟩
        case' inl =>
          have hw1 : IntKind.i64.wrap (at' - 1) = (k : Int) := by rw [he, Int.add_sub_cancel]; exact IntWalk.i64_in _ (by omega)
          obtain ⟨c, hkc⟩ : ∃ c, C[k]'hk = c := ⟨_, rfl⟩
          rw [hkc] at hN
          have hwc : IntKind.i64.wrap (c.toNat : Int) = (c.toNat : Int) := IntWalk.i64_in _ (by have := c.toNat_lt; omega)
          clear he
          subst hN
        all_goals
          subst hi
          clear HCASE
          go_wp2_with fail
          refine (W66.out _ _ (trow_new _ _ _ _ rfl _ rfl)).mono ?_
          rintro e w9 ⟨k3, n3, b3, t3, is3, hP, rfl, hb1⟩
          obtain ⟨rfl, rfl, rfl, rfl, rfl⟩ := hP.out
          clear a0 a1 a2 a3 a4
          replace HC := Lib.hid ((HC.out.alloc _).below hb1)
          replace HN := Lib.hid ((HN.out.alloc _).below hb1)
          replace HQ := Lib.hid ((HQ.out.alloc _).below hb1)
          replace HW := Lib.hid ((HW.out.alloc HW.out.size _).trans (hb1.mono (by have := HW.out.size; simp; omega)))
          clear hb1
          unfold litv
          go_wp2_with fail
          refine (W67.out _ _ (trow_c _ _ _ _ _ rfl _ rfl)).mono ?_
          rintro e w10 ⟨k3, n3, b3, t3, is3, hP, rfl, hb1⟩
          obtain ⟨rfl, rfl, rfl, rfl, rfl⟩ := hP.out
          replace HC := Lib.hid (((HC.out.alloc _).alloc _).below hb1)
          replace HN := Lib.hid (((HN.out.alloc _).alloc _).below hb1)
          replace HQ := Lib.hid (((HQ.out.alloc _).alloc _).below hb1)
          replace HW := Lib.hid (((HW.out.alloc HW.out.size _).alloc (by have := HW.out.size; simp; omega) _).trans (hb1.mono (by have := HW.out.size; simp; omega)))
          clear hb1
          unfold litv
          go_upto_region 14 with fail
          obtain ⟨v11, hv⟩ : ∃ W, w10.alloc (.cells #[.int .u8 8, .int .i64 0, .int .u64 0, .string C, .slice none 0 0] 26) = W := ⟨_, rfl⟩
          have HW3 : Hid (Below w.heap.size w v11) := Lib.hid (by rw [← hv]; exact HW.out.alloc HW.out.size _)
          obtain ⟨kxB, hkc⟩ : ∃ k, w10.heap.size = k := ⟨_, rfl⟩
          have HB : Hid (P5 v11 kxB (.int .u8 8) (.int .i64 0) (.int .u64 0) (.string C) (.slice none 0 0)) := Lib.hid (by rw [← hv, ← hkc]; exact P5.new _ _ _ _ _ _)
          have HC3 := Lib.hid (HC.out.alloc (.cells #[.int .u8 8, .int .i64 0, .int .u64 0, .string C, .slice none 0 0] 26))
          have HN3 := Lib.hid (HN.out.alloc (.cells #[.int .u8 8, .int .i64 0, .int .u64 0, .string C, .slice none 0 0] 26))
          have HQ3 := Lib.hid (HQ.out.alloc (.cells #[.int .u8 8, .int .i64 0, .int .u64 0, .string C, .slice none 0 0] 26))
          rw [hv] at HC3 HN3 HQ3 ⊢
          rw [hkc]
          clear hv HW hkc HC HN HQ
          have HW := HW3
          have HC := HC3
          have HN := HN3
          have HQ := HQ3
          clear HW3 HC3 HN3 HQ3
          obtain ⟨c0, c1, c2, c3, c4, _, _, _, _, _⟩ := HC.out.cells
          obtain ⟨b0, b1, b2, b3, b4, _, _, _, _, _⟩ := HB.out.cells
          obtain ⟨_, n1, _, _, _, _, _, _, _, _⟩ := HN.out.cells
          go_wp2_with fail
          refine (HSL.out _).mono ?_
          rintro e w12 ⟨rfl, hb1⟩
          replace HW := Lib.hid (HW.out.trans (hb1.mono HW.out.size))
          replace HQ := Lib.hid (HQ.out.below hb1)
          obtain ⟨_, k1, _, _, _, _, _, _, _, _⟩ := HQ.out.cells
          clear hb1 b0 b1 b2 b3 b4 c0 c1 c2 c3 c4 n1
          go_wp2_with fail
          go_region
          go_wp2_with fail
          go_ret
          exact ⟨rfl, HW.out.drew⟩
end Go.Proofs.YtagoadnjahbjdaaGreatDoor
