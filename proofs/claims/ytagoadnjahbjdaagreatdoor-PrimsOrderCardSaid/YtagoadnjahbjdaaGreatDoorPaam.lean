/- Whether two literals without items are the same. The law's examples: awake. -/
import Derived.Test.YtagoadnjahbjdaaGreatDoorPaal
import Derived.Deep.CutRange
namespace Go.Proofs.YtagoadnjahbjdaaGreatDoor
open Go Go.RowKit Go.Lib
theorem Pl.ba_eq {a b : ByteArray} : (a.toList == b.toList) = true ↔ a = b := by
  rw [beq_iff_eq, ByteArray.toList_eq, ByteArray.toList_eq]
  cases a; cases b; simp
set_option maxRecDepth 4000 in
set_option maxHeartbeats 2000000 in
theorem slf_any (k n b k' n' b' : Int) (t t' : ByteArray) (a a' : Option Addr) (c c' : Nat) (w : World) :
    Calls Tryz.prog 10 #[litv k n b t (.slice a 0 c), litv k' n' b' t' (.slice a' 0 c')] w fun e w' => e = .returned (.bool (decide (k = k' ∧ n = n' ∧ b = b' ∧ t = t'))) ∧ Below w.heap.size w w' := by
  unfold litv
  go_enter Tryz.func10, Tryz.ntmps10
  go_wp2_with fail
  any_goals
    go_ret
    refine ⟨congrArg (fun z => Ending.returned (.bool z)) (Eq.symm ?_), ((Below.refl _ _).alloc (Nat.le_refl _) _).alloc (by simp) _⟩
    rw [decide_eq_false_iff_not]
    rintro ⟨h1, h2, h3, h4⟩
    have h5 : t.toList = t'.toList := by rw [h4]
    contradiction
  rename_i e1 e2 e3 e4 K1 K2
  have HE := Lib.hid (show decide (k = k' ∧ n = n' ∧ b = b' ∧ t = t') = true from decide_eq_true ⟨e1, e2, e3, Pl.ba_eq.1 (by rw [e4]; exact beq_self_eq_true _)⟩)
  clear e1 e2 e3 e4
  obtain ⟨W0, hW0⟩ : ∃ W0, (w.alloc (.cells #[.int .u8 k', .int .i64 n', .int .u64 b', .string t, .slice a 0 c] 26)).alloc (.cells #[.int .u8 k', .int .i64 n', .int .u64 b', .string t', .slice a' 0 c'] 26) = W0 := ⟨_, rfl⟩
  have HB0 : Hid (Below w.heap.size w W0) := Lib.hid (by rw [← hW0]; exact ((Below.refl _ _).alloc (Nat.le_refl _) _).alloc (by simp) _)
  have c0 : W0.cell? ⟨w.heap.size, 4, none⟩ = some (.slice a 0 c) := by rw [← hW0]; simp [go_sem]
  have c1 : W0.cell? ⟨w.heap.size + 1, 4, none⟩ = some (.slice a' 0 c') := by rw [← hW0]; simp [go_sem]
  rw [hW0]
  clear hW0
  go_loopw [5] (fun iv wr => iv = .int .i64 0 ∧ wr = W0) (fun _ _ => 0)
  case atStart => exact ⟨rfl, rfl⟩
  case round =>
    obtain ⟨rfl, rfl⟩ := hrel
    go_wp2_with fail
    go_ret
    exact ⟨congrArg (fun z => Ending.returned (.bool z)) HE.out.symm, HB0.out⟩
end Go.Proofs.YtagoadnjahbjdaaGreatDoor
namespace Go.Proofs.YtagoadnjahbjdaaGreatDoor
open Go Go.RowKit Go.Lib
theorem TRow.alloc {w : World} {v : Value} {l : List PT} (h : TRow w v l) (o : Obj) : TRow (w.alloc o) v l := by
  obtain ⟨g, cap, h1, h2, h3⟩ := h
  have hb : Below w.heap.size w (w.alloc o) := (Below.refl _ _).alloc (Nat.le_refl _) _
  exact ⟨g, cap, h1, Nat.lt_of_lt_of_le h2 hb.size, fun i x hx j u hu => by rw [hb.cell (p := ⟨g, i * 5 + j, none⟩) h2]; exact h3 i x hx j u hu⟩
theorem trow_c (W : World) (o : Obj) (l : List PT) (cs : Array Value) (T : TypeId) (h : cs.toList = l.flatMap PT.cells) (m : Nat) (hm : m = l.length) : TRow ((W.alloc o).alloc (.cells cs T)) (.slice (some ⟨W.heap.size + 1, 0, none⟩) m m) l := by
  have := trow_new (W.alloc o) l cs T h m hm
  rwa [show (W.alloc o).heap.size = W.heap.size + 1 by simp] at this
theorem P5.new1 (w : World) (o : Obj) (a b c d e : Value) : P5 ((w.alloc o).alloc (.cells #[a, b, c, d, e] 26)) (w.heap.size + 1) a b c d e := by
  have := P5.new (w.alloc o) a b c d e
  rwa [show (w.alloc o).heap.size = w.heap.size + 1 by simp] at this
def maxT : List UInt8 := [49, 49, 53, 50, 57, 50, 49, 53, 48, 52, 54, 48, 54, 56, 52, 54, 57, 55, 54]
theorem Pl.intT_max1 : Pl.IntT 10 maxT (1152921504606846975 + 1) := by
  unfold Pl.IntT
  rw [if_neg (by omega)]
  exact ⟨by decide, by decide, by decide, by decide⟩
theorem int_max1 {k n b : Int} {t : ByteArray} {is : Bool} (h : IntP (1152921504606846975 + 1) k n b t is) : k = 5 ∧ n = 0 ∧ b = 0 ∧ t = ⟨#[49, 49, 53, 50, 57, 50, 49, 53, 48, 52, 54, 48, 54, 56, 52, 54, 57, 55, 54]⟩ ∧ is = true := by
  obtain ⟨s, h, rfl, rfl, rfl⟩ := h
  rcases h with ⟨h, _⟩ | ⟨_, rfl, rfl, h, _⟩
  · unfold FitsI at h; omega
  · exact ⟨rfl, rfl, rfl, by rw [Pl.intT_inj (by omega) (by omega) h Pl.intT_max1]; rfl, rfl⟩
theorem int_max {k n b : Int} {t : ByteArray} {is : Bool} (h : IntP (1152921504606846975 + 1 - 1) k n b t is) : k = 4 ∧ n = 1152921504606846975 ∧ b = 0 ∧ t = ⟨#[]⟩ ∧ is = true := by
  obtain ⟨s, h, rfl, rfl, rfl⟩ := h
  rcases h with ⟨_, rfl, rfl, rfl⟩ | ⟨h, _⟩
  · exact ⟨rfl, by omega, rfl, rfl, rfl⟩
  · exact absurd (show FitsI _ by unfold FitsI; omega) h
theorem arg_max1 : ArgI (tlg maxT) (vlg maxT (1152921504606846975 + 1)) (1152921504606846975 + 1) := arg_large (by decide) (small_big (by omega) (by omega)) Pl.intT_max1 (by unfold FitsI; omega)
theorem arg_small' (n : Int) (h : FitsI n) : ArgI (tsm n) (vsm n) n := arg_small h
set_option maxRecDepth 4000 in
set_option maxHeartbeats 8000000 in
theorem law21_awake (w : World) : Calls Tryz.prog 6 #[] w fun e w' => e = .returned (.bool true) ∧ Below w.heap.size w w' := by
  have HSM := Lib.hid (fun n W => lsm_any n W)
  have HW := Lib.hid (Below.refl w.heap.size w)
  go_enter Tryz.func6, Tryz.ntmps6
  go_wp2_with (go_at_call 13; refine (HSM.out _ _).mono ?_)
  rintro e w1 ⟨rfl, hb⟩
  replace HW := Lib.hid (HW.out.trans (hb.mono HW.out.size))
  clear hb
  unfold litv
  go_wp2_with (go_at_call 13; refine (HSM.out _ _).mono ?_)
  rintro e w2 ⟨rfl, hb⟩
  replace HW := Lib.hid (HW.out.trans (hb.mono HW.out.size))
  clear hb
  unfold litv
  go_wp2_with fail
  refine (do1 (tsm 1152921504606846975) (tsm 1) (vsm 1152921504606846975) (vsm 1) 1152921504606846975 1 _ _ (arg_small (by unfold FitsI; omega)) (arg_small (by unfold FitsI; omega)) (small_big (by omega) (by omega)) (trow_new _ _ _ _ rfl _ rfl)).mono ?_
  rintro e w3 ⟨k3, n3, b3, t3, is3, hP, rfl, hb⟩
  obtain ⟨rfl, rfl, rfl, rfl, rfl⟩ := int_max1 hP
  clear hP
  replace HW := Lib.hid ((HW.out.alloc HW.out.size _).trans (hb.mono (by have := HW.out.size; simp; omega)))
  clear hb
  unfold litv
  go_wp2_with (go_at_call 13; refine (HSM.out _ _).mono ?_)
  obtain ⟨v3, hv⟩ : ∃ W, w3.alloc (.cells #[.int .u8 5, .int .i64 0, .int .u64 0, .string ⟨#[49, 49, 53, 50, 57, 50, 49, 53, 48, 52, 54, 48, 54, 56, 52, 54, 57, 55, 54]⟩, .slice none 0 0] 26) = W := ⟨_, rfl⟩
  have HW3 : Hid (Below w.heap.size w v3) := Lib.hid (by rw [← hv]; exact HW.out.alloc HW.out.size _)
  have HA : Hid (P5 v3 w3.heap.size (.int .u8 5) (.int .i64 0) (.int .u64 0) (.string ⟨#[49, 49, 53, 50, 57, 50, 49, 53, 48, 52, 54, 48, 54, 56, 52, 54, 57, 55, 54]⟩) (.slice none 0 0)) := Lib.hid (by rw [← hv]; exact P5.new _ _ _ _ _ _)
  rw [hv]
  clear hv HW
  have HW := HW3
  clear HW3
  rintro e w4 ⟨rfl, hb⟩
  replace HA := Lib.hid (HA.out.below hb)
  replace HW := Lib.hid (HW.out.trans (hb.mono HW.out.size))
  clear hb
  unfold litv
  go_wp2_with (go_at_call 13; refine (HSM.out _ _).mono ?_)
  rintro e w5 ⟨rfl, hb⟩
  replace HA := Lib.hid (HA.out.below hb)
  replace HW := Lib.hid (HW.out.trans (hb.mono HW.out.size))
  clear hb
  unfold litv
  go_wp2_with fail
  refine (do10_72 _ _ (trow_new _ _ _ _ rfl _ rfl)).mono ?_
  rintro e w6 ⟨k3, n3, b3, t3, is3, ⟨rfl, rfl, rfl, rfl, rfl⟩, rfl, hb⟩
  replace HA := Lib.hid ((HA.out.alloc _).below hb)
  replace HW := Lib.hid ((HW.out.alloc HW.out.size _).trans (hb.mono (by have := HW.out.size; simp; omega)))
  clear hb
  unfold litv
  go_wp2_with (go_at_call 11; refine (ltx_any _ _).mono ?_)
  obtain ⟨v6, hv⟩ : ∃ W, w6.alloc (.cells #[.int .u8 0, .int .i64 0, .int .u64 0, .string ⟨#[]⟩, .slice none 0 0] 26) = W := ⟨_, rfl⟩
  have HW3 : Hid (Below w.heap.size w v6) := Lib.hid (by rw [← hv]; exact HW.out.alloc HW.out.size _)
  have HA3 : Hid (P5 v6 w3.heap.size (.int .u8 5) (.int .i64 0) (.int .u64 0) (.string ⟨#[49, 49, 53, 50, 57, 50, 49, 53, 48, 52, 54, 48, 54, 56, 52, 54, 57, 55, 54]⟩) (.slice none 0 0)) := Lib.hid (by rw [← hv]; exact HA.out.alloc _)
  rw [hv]
  clear hv HW HA
  have HW := HW3
  have HA := HA3
  clear HW3 HA3
  rintro e w7 ⟨rfl, hb⟩
  replace HA := Lib.hid (HA.out.below hb)
  replace HW := Lib.hid (HW.out.trans (hb.mono HW.out.size))
  clear hb
  unfold litv
  go_wp2_with (go_at_call 13; refine (HSM.out _ _).mono ?_)
  rintro e w8 ⟨rfl, hb⟩
  replace HA := Lib.hid (HA.out.below hb)
  replace HW := Lib.hid (HW.out.trans (hb.mono HW.out.size))
  clear hb
  unfold litv
  go_wp2_with (go_at_call 13; refine (HSM.out _ _).mono ?_)
  rintro e w9 ⟨rfl, hb⟩
  replace HA := Lib.hid (HA.out.below hb)
  replace HW := Lib.hid (HW.out.trans (hb.mono HW.out.size))
  clear hb
  unfold litv
  go_wp2_with fail
  refine (do68 ⟨#[97, 98, 99]⟩ 2 3 1 3 _ _ (by decide) (by omega) (by omega) (by omega) (by decide) (trow_new _ _ _ _ rfl _ rfl)).mono ?_
  rintro e w10 ⟨k3, n3, b3, t3, is3, ⟨rfl, rfl, rfl, rfl, rfl⟩, rfl, hb⟩
  rw [show (⟨#[97, 98, 99]⟩ : ByteArray).extract 1 3 = ⟨#[98, 99]⟩ from by decide]
  replace HA := Lib.hid ((HA.out.alloc _).below hb)
  replace HW := Lib.hid ((HW.out.alloc HW.out.size _).trans (hb.mono (by have := HW.out.size; simp; omega)))
  clear hb
  unfold litv
  go_upto_region 4 with fail
  obtain ⟨v10, hv⟩ : ∃ W, w10.alloc (.cells #[.int .u8 8, .int .i64 0, .int .u64 0, .string ⟨#[98, 99]⟩, .slice none 0 0] 26) = W := ⟨_, rfl⟩
  have HW3 : Hid (Below w.heap.size w v10) := Lib.hid (by rw [← hv]; exact HW.out.alloc HW.out.size _)
  have HA3 : Hid (P5 v10 w3.heap.size (.int .u8 5) (.int .i64 0) (.int .u64 0) (.string ⟨#[49, 49, 53, 50, 57, 50, 49, 53, 48, 52, 54, 48, 54, 56, 52, 54, 57, 55, 54]⟩) (.slice none 0 0)) := Lib.hid (by rw [← hv]; exact HA.out.alloc _)
  have HB : Hid (P5 v10 w10.heap.size (.int .u8 8) (.int .i64 0) (.int .u64 0) (.string ⟨#[98, 99]⟩) (.slice none 0 0)) := Lib.hid (by rw [← hv]; exact P5.new _ _ _ _ _ _)
  rw [hv]
  clear hv HW HA
  have HW := HW3
  have HA := HA3
  clear HW3 HA3
  obtain ⟨a0, a1, a2, a3, a4, _, _, _, _, _⟩ := HA.out.cells
  have HS : Hid (∀ W, Below v10.heap.size v10 W → W.cell? ⟨w3.heap.size, 0, none⟩ = some (.int .u8 5) ∧ W.cell? ⟨w3.heap.size, 1, none⟩ = some (.int .i64 0) ∧ W.cell? ⟨w3.heap.size, 2, none⟩ = some (.int .u64 0) ∧ W.cell? ⟨w3.heap.size, 3, none⟩ = some (.string ⟨#[49, 49, 53, 50, 57, 50, 49, 53, 48, 52, 54, 48, 54, 56, 52, 54, 57, 55, 54]⟩) ∧ W.cell? ⟨w3.heap.size, 4, none⟩ = some (.slice none 0 0)) := Lib.hid (fun W hb => by obtain ⟨a0, a1, a2, a3, a4, _, _, _, _, _⟩ := (HA.out.below hb).cells; exact ⟨a0, a1, a2, a3, a4⟩)
  have BD := Lib.hid (show Below v10.heap.size v10 v10.drew from (Below.refl _ v10).drew)
  have BA := Lib.hid (show ∀ o, Below v10.heap.size v10 (v10.alloc o).drew from fun o => ((Below.refl _ v10).alloc (Nat.le_refl _) o).drew)
  have HD2 : Hid (∀ av W, TRow W av [tlg maxT, tsm 1] → Calls Tryz.prog 12 #[.int .i64 2, av] W (Came W (IntP (1152921504606846975 + 1 - 1)))) := Lib.hid (fun av W h => do2 (tlg maxT) (tsm 1) (vlg maxT (1152921504606846975 + 1)) (vsm 1) (1152921504606846975 + 1) 1 av W arg_max1 (arg_small (by unfold FitsI; omega)) (small_big (by omega) (by omega)) h)
  go_cut [7, 8] from 35 to 93 (fun s7 s8 wx => ∃ k, s7 = .pointer (some ⟨k, 0, none⟩) ∧ s8 = .bool true ∧ P5 wx k (.int .u8 4) (.int .i64 1152921504606846975) (.int .u64 0) (.string ⟨#[]⟩) (.slice none 0 0) ∧ Below v10.heap.size v10 wx)
  case first =>
    go_region_held3 (fun W => W.cell? ⟨w3.heap.size, 0, none⟩ = some (.int .u8 5) ∧ W.cell? ⟨w3.heap.size, 1, none⟩ = some (.int .i64 0) ∧ W.cell? ⟨w3.heap.size, 2, none⟩ = some (.int .u64 0) ∧ W.cell? ⟨w3.heap.size, 3, none⟩ = some (.string ⟨#[49, 49, 53, 50, 57, 50, 49, 53, 48, 52, 54, 48, 54, 56, 52, 54, 57, 55, 54]⟩) ∧ W.cell? ⟨w3.heap.size, 4, none⟩ = some (.slice none 0 0)) (first | with_reducible exact ⟨a0, a1, a2, a3, a4⟩ | with_reducible exact HS.out _ BD.out | with_reducible exact HS.out _ (BA.out _) | with_reducible exact HS.out _ hb4 | with_reducible exact HS.out _ (hb4.alloc hb4.size _) | with_reducible exact HS.out _ ((hb4.alloc hb4.size _).alloc (Nat.le_trans hb4.size (by simp)) _) | with_reducible exact HS.out _ hb6 | with_reducible exact HS.out _ (hb6.alloc hb6.size _) | with_reducible exact HS.out _ (below_set5 hb6 (by omega) _ _ _ _ _)) (first
      | (go_at_call 13; (with_reducible refine (HSM.out _ _).mono ?_); rintro e w40 ⟨rfl, hb4d⟩; (first | (have hb4 : Below v10.heap.size v10 w40 := BD.out.trans hb4d) | (have hb4 : Below v10.heap.size v10 w40 := (BA.out _).trans (hb4d.mono (by simp)); have LA4 : P5 w40 v10.heap.size (.int .u8 0) (.int .i64 0) (.int .u64 0) (.string ⟨#[]⟩) (.slice none 0 0) := (P5.new v10 _ _ _ _ _).drew.below hb4d)); have hs4 := hb4.size; have HTa := trow_new w40 [tlg maxT, tsm 1] #[.int .u8 5, .int .i64 0, .int .u64 0, .string ⟨#[49, 49, 53, 50, 57, 50, 49, 53, 48, 52, 54, 48, 54, 56, 52, 54, 57, 55, 54]⟩, .slice none 0 0, .int .u8 4, .int .i64 1, .int .u64 0, .string ⟨#[]⟩, .slice none 0 0] 26 rfl 2 rfl; have HTb := HTa.alloc (.cells #[.int .u8 0, .int .i64 0, .int .u64 0, .string ⟨#[]⟩, .slice none 0 0] 26); have HTc := trow_c w40 (.cells #[.int .u8 0, .int .i64 0, .int .u64 0, .string ⟨#[]⟩, .slice none 0 0] 26) [tlg maxT, tsm 1] #[.int .u8 5, .int .i64 0, .int .u64 0, .string ⟨#[49, 49, 53, 50, 57, 50, 49, 53, 48, 52, 54, 48, 54, 56, 52, 54, 57, 55, 54]⟩, .slice none 0 0, .int .u8 4, .int .i64 1, .int .u64 0, .string ⟨#[]⟩, .slice none 0 0] 26 rfl 2 rfl; clear hb4d; unfold litv)
      | (go_at_call 12; (first
        | ((with_reducible refine (HD2.out _ _ HTa).mono ?_); rintro e w41 ⟨k3, n3, b3, t3, is3, hP, rfl, hb5⟩; (have hb6 : Below v10.heap.size v10 w41 := (hb4.alloc hs4 _).trans (hb5.mono (by simp; omega))); (first | (have LA5 : P5 w41 v10.heap.size (.int .u8 0) (.int .i64 0) (.int .u64 0) (.string ⟨#[]⟩) (.slice none 0 0) := (LA4.alloc _).below hb5; obtain ⟨z0, z1, z2, z3, z4, y0, y1, y2, y3, y4⟩ := LA5.cells) | skip))
        | ((with_reducible refine (HD2.out _ _ HTc).mono ?_); rintro e w41 ⟨k3, n3, b3, t3, is3, hP, rfl, hb5⟩; (have hb6 : Below v10.heap.size v10 w41 := ((hb4.alloc hs4 _).alloc (Nat.le_trans hs4 (by simp)) _).trans (hb5.mono (by simp; omega))); have LA5 : P5 w41 w40.heap.size (.int .u8 0) (.int .i64 0) (.int .u64 0) (.string ⟨#[]⟩) (.slice none 0 0) := ((P5.new w40 _ _ _ _ _).alloc _).below hb5; obtain ⟨z0, z1, z2, z3, z4, y0, y1, y2, y3, y4⟩ := LA5.cells)
        | ((with_reducible refine (HD2.out _ _ HTb).mono ?_); rintro e w41 ⟨k3, n3, b3, t3, is3, hP, rfl, hb5⟩; (have hb6 : Below v10.heap.size v10 w41 := ((hb4.alloc hs4 _).alloc (Nat.le_trans hs4 (by simp)) _).trans (hb5.mono (by simp; omega))); have LA5 : P5 w41 (w40.heap.size + 1) (.int .u8 0) (.int .i64 0) (.int .u64 0) (.string ⟨#[]⟩) (.slice none 0 0) := (P5.new1 w40 (.cells #[.int .u8 5, .int .i64 0, .int .u64 0, .string ⟨#[49, 49, 53, 50, 57, 50, 49, 53, 48, 52, 54, 48, 54, 56, 52, 54, 57, 55, 54]⟩, .slice none 0 0, .int .u8 4, .int .i64 1, .int .u64 0, .string ⟨#[]⟩, .slice none 0 0] 26) (.int .u8 0) (.int .i64 0) (.int .u64 0) (.string ⟨#[]⟩) (.slice none 0 0)).below hb5; obtain ⟨z0, z1, z2, z3, z4, y0, y1, y2, y3, y4⟩ := LA5.cells)); obtain ⟨rfl, rfl, rfl, rfl, rfl⟩ := int_max hP; clear hP; unfold litv))
    all_goals
      go_wp2_with fail
      go_meet
      case rel => first | exact ⟨_, rfl, rfl, LA5.set _ _ _ _ _, below_set5 hb6 (by omega) _ _ _ _ _⟩ | exact ⟨_, rfl, rfl, P5.new w41 _ _ _ _ _, hb6.alloc hb6.size _⟩
  case rest =>
    obtain ⟨kc, rfl, rfl, hC, hb⟩ := hcut
    have HC := Lib.hid hC
    replace HA := Lib.hid (HA.out.below hb)
    replace HB := Lib.hid (HB.out.below hb)
    replace HW := Lib.hid (HW.out.trans (hb.mono HW.out.size))
    clear hb hC HS BD BA HD2 a0 a1 a2 a3 a4

    go_wp2_with (go_at_call 13; refine (HSM.out _ _).mono ?_)
    rintro e w11 ⟨rfl, hb⟩
    replace HA := Lib.hid (HA.out.below hb)
    replace HB := Lib.hid (HB.out.below hb)
    replace HC := Lib.hid (HC.out.below hb)
    replace HW := Lib.hid (HW.out.trans (hb.mono HW.out.size))
    clear hb
    unfold litv
    go_wp2_with fail
    refine (do1_bad _ _ (trow_new _ _ _ _ rfl _ rfl)).mono ?_
    rintro e w12 ⟨k3, n3, b3, t3, is3, ⟨rfl, rfl, rfl, rfl, rfl⟩, rfl, hb⟩
    replace HA := Lib.hid ((HA.out.alloc _).below hb)
    replace HB := Lib.hid ((HB.out.alloc _).below hb)
    replace HC := Lib.hid ((HC.out.alloc _).below hb)
    replace HW := Lib.hid ((HW.out.alloc HW.out.size _).trans (hb.mono (by have := HW.out.size; simp; omega)))
    clear hb
    unfold litv
    go_wp2_with (go_at_call 14; refine (arity68 _).mono ?_)
    obtain ⟨v12, hv⟩ : ∃ W, w12.alloc (.cells #[.int .u8 0, .int .i64 0, .int .u64 0, .string ⟨#[]⟩, .slice none 0 0] 26) = W := ⟨_, rfl⟩
    have HW3 : Hid (Below w.heap.size w v12) := Lib.hid (by rw [← hv]; exact HW.out.alloc HW.out.size _)
    have HA3 : Hid (P5 v12 w3.heap.size (.int .u8 5) (.int .i64 0) (.int .u64 0) (.string ⟨#[49, 49, 53, 50, 57, 50, 49, 53, 48, 52, 54, 48, 54, 56, 52, 54, 57, 55, 54]⟩) (.slice none 0 0)) := Lib.hid (by rw [← hv]; exact HA.out.alloc _)
    have HB3 : Hid (P5 v12 w10.heap.size (.int .u8 8) (.int .i64 0) (.int .u64 0) (.string ⟨#[98, 99]⟩) (.slice none 0 0)) := Lib.hid (by rw [← hv]; exact HB.out.alloc _)
    have HC3 : Hid (P5 v12 kc (.int .u8 4) (.int .i64 1152921504606846975) (.int .u64 0) (.string ⟨#[]⟩) (.slice none 0 0)) := Lib.hid (by rw [← hv]; exact HC.out.alloc _)
    rw [hv]
    clear hv HW HA HB HC
    have HW := HW3
    have HA := HA3
    have HB := HB3
    have HC := HC3
    clear HW3 HA3 HB3 HC3
    rintro e w20 ⟨rfl, hb⟩
    replace HA := Lib.hid (HA.out.below hb)
    replace HB := Lib.hid (HB.out.below hb)
    replace HC := Lib.hid (HC.out.below hb)
    replace HW := Lib.hid (HW.out.trans (hb.mono HW.out.size))
    clear hb
    go_wp2_with (go_at_call 14; refine (arity0 _).mono ?_)
    rintro e w21 ⟨rfl, hb⟩
    replace HA := Lib.hid (HA.out.below hb)
    replace HB := Lib.hid (HB.out.below hb)
    replace HC := Lib.hid (HC.out.below hb)
    replace HW := Lib.hid (HW.out.trans (hb.mono HW.out.size))
    clear hb
    obtain ⟨a0, a1, a2, a3, a4, _, _, _, _, _⟩ := HA.out.cells
    obtain ⟨b0, b1, b2, b3, b4, _, _, _, _, _⟩ := HB.out.cells
    obtain ⟨c0, c1, c2, c3, c4, _, _, _, _, _⟩ := HC.out.cells
    go_wp2_with fail
    go_ret
    exact ⟨rfl, HW.out⟩
end Go.Proofs.YtagoadnjahbjdaaGreatDoor
