/- The law's examples: awake. Plain: what comes out of comparisons; two literals in a row; literals that are whole numbers. A whole number's literal, made, is one of the document's. What PrimsTexts asks of the primitives. -/
import Derived.Test.YtlodbibagmblkaaGreatDoorTaas
import Derived.Test.YtlodbibagmblkaaGreatDoorTabm
import Derived.Deep.CutRange
import Derived.Test.YtlodbibagmblkaaGreatDoorTabk
import Derived.Test.YtlodbibagmblkaaGreatDoorTaan
import Derived.Test.YtlodbibagmblkaaGreatDoorTabb
namespace Go.Proofs.YtlodbibagmblkaaGreatDoor
open Go Go.RowKit Go.Lib
theorem TRow.alloc {w : World} {v : Value} {l : List PT} (h : TRow w v l) (o : Obj) : TRow (w.alloc o) v l := by
  obtain ⟨g, cap, h1, h2, h3⟩ := h
  have hb : Below w.heap.size w (w.alloc o) := (Below.refl _ _).alloc (Nat.le_refl _) _
  exact ⟨g, cap, h1, Nat.lt_of_lt_of_le h2 hb.size, fun i x hx j u hu => by rw [hb.cell (p := ⟨g, i * 5 + j, none⟩) h2]; exact h3 i x hx j u hu⟩
theorem trow_c (W : World) (o : Obj) (l : List PT) (cs : Array Value) (T : TypeId) (h : cs.toList = l.flatMap PT.cells) (m : Nat) (hm : m = l.length) : TRow ((W.alloc o).alloc (.cells cs T)) (.slice (some ⟨W.heap.size + 1, 0, none⟩) m m) l := by
  have := trow_new (W.alloc o) l cs T h m hm
  rwa [show (W.alloc o).heap.size = W.heap.size + 1 by simp] at this
theorem P5.new1 (w : World) (o : Obj) (a b c d e : Value) : P5 ((w.alloc o).alloc (.cells #[a, b, c, d, e] 26)) (w.heap.size + 1) a b c d e := by
  have := P5.new (w.alloc o) a b c d e
  rwa [show (w.alloc o).heap.size = w.heap.size + 1 by simp] at this
def maxT : List UInt8 := [49, 49, 53, 50, 57, 50, 49, 53, 48, 52, 54, 48, 54, 56, 52, 54, 57, 55, 54]
theorem Pl.intT_max1 : Pl.IntT 10 maxT (1152921504606846975 + 1) := by
  unfold Pl.IntT
  rw [if_neg (by omega)]
  exact ⟨by decide, by decide, by decide, by decide⟩
theorem int_max1 {k n b : Int} {t : ByteArray} {is : Bool} (h : IntP (1152921504606846975 + 1) k n b t is) : k = 5 ∧ n = 0 ∧ b = 0 ∧ t = ⟨#[49, 49, 53, 50, 57, 50, 49, 53, 48, 52, 54, 48, 54, 56, 52, 54, 57, 55, 54]⟩ ∧ is = true := by
  obtain ⟨s, h, rfl, rfl, rfl⟩ := h
  rcases h with ⟨h, _⟩ | ⟨_, rfl, rfl, h, _⟩
  · unfold FitsI at h; omega
  · exact ⟨rfl, rfl, rfl, by rw [Pl.intT_inj (by omega) (by omega) h Pl.intT_max1]; rfl, rfl⟩
theorem int_max {k n b : Int} {t : ByteArray} {is : Bool} (h : IntP (1152921504606846975 + 1 - 1) k n b t is) : k = 4 ∧ n = 1152921504606846975 ∧ b = 0 ∧ t = ⟨#[]⟩ ∧ is = true := by
  obtain ⟨s, h, rfl, rfl, rfl⟩ := h
  rcases h with ⟨_, rfl, rfl, rfl⟩ | ⟨h, _⟩
  · exact ⟨rfl, by omega, rfl, rfl, rfl⟩
  · exact absurd (show FitsI _ by unfold FitsI; omega) h
theorem arg_max1 : ArgI (tlg maxT) (vlg maxT (1152921504606846975 + 1)) (1152921504606846975 + 1) := arg_large (by decide) (small_big (by omega) (by omega)) Pl.intT_max1 (by unfold FitsI; omega)
set_option maxRecDepth 4000 in
set_option maxHeartbeats 8000000 in
theorem law21_awake (w : World) : Calls Tryz.prog 6 #[] w fun e w' => e = .returned (.bool true) ∧ Below w.heap.size w w' := by
  have HSM := Lib.hid (fun n W => lsm_any n W)
  have HW := Lib.hid (Below.refl w.heap.size w)
  go_enter Tryz.func6, Tryz.ntmps6
  go_wp2_with (go_at_call 12; refine (HSM.out _ _).mono ?_)
  rintro e w1 ⟨rfl, hb⟩
  replace HW := Lib.hid (HW.out.trans (hb.mono HW.out.size))
  clear hb
  unfold litv
  go_wp2_with (go_at_call 12; refine (HSM.out _ _).mono ?_)
  rintro e w2 ⟨rfl, hb⟩
  replace HW := Lib.hid (HW.out.trans (hb.mono HW.out.size))
  clear hb
  unfold litv
  go_wp2_with fail
  refine (do1 (tsm 1152921504606846975) (tsm 1) (vsm 1152921504606846975) (vsm 1) 1152921504606846975 1 _ _ (arg_small (by unfold FitsI; omega)) (arg_small (by unfold FitsI; omega)) (small_big (by omega) (by omega)) (trow_new _ _ _ _ rfl _ rfl)).mono ?_
  rintro e w3 ⟨k3, n3, b3, t3, is3, hP, rfl, hb⟩
  obtain ⟨rfl, rfl, rfl, rfl, rfl⟩ := int_max1 hP
  clear hP
  replace HW := Lib.hid ((HW.out.alloc HW.out.size _).trans (hb.mono (by have := HW.out.size; simp; omega)))
  clear hb
  unfold litv
  go_wp2_with (go_at_call 12; refine (HSM.out _ _).mono ?_)
  obtain ⟨v3, hv⟩ : ∃ W, w3.alloc (.cells #[.int .u8 5, .int .i64 0, .int .u64 0, .string ⟨#[49, 49, 53, 50, 57, 50, 49, 53, 48, 52, 54, 48, 54, 56, 52, 54, 57, 55, 54]⟩, .slice none 0 0] 26) = W := ⟨_, rfl⟩
  have HW3 : Hid (Below w.heap.size w v3) := Lib.hid (by rw [← hv]; exact HW.out.alloc HW.out.size _)
  have HA : Hid (P5 v3 w3.heap.size (.int .u8 5) (.int .i64 0) (.int .u64 0) (.string ⟨#[49, 49, 53, 50, 57, 50, 49, 53, 48, 52, 54, 48, 54, 56, 52, 54, 57, 55, 54]⟩) (.slice none 0 0)) := Lib.hid (by rw [← hv]; exact P5.new _ _ _ _ _ _)
  rw [hv]
  clear hv HW
  have HW := HW3
  clear HW3
  rintro e w4 ⟨rfl, hb⟩
  replace HA := Lib.hid (HA.out.below hb)
  replace HW := Lib.hid (HW.out.trans (hb.mono HW.out.size))
  clear hb
  unfold litv
  go_wp2_with (go_at_call 12; refine (HSM.out _ _).mono ?_)
  rintro e w5 ⟨rfl, hb⟩
  replace HA := Lib.hid (HA.out.below hb)
  replace HW := Lib.hid (HW.out.trans (hb.mono HW.out.size))
  clear hb
  unfold litv
  go_wp2_with fail
  refine (do10_72 _ _ (trow_new _ _ _ _ rfl _ rfl)).mono ?_
  rintro e w6 ⟨k3, n3, b3, t3, is3, ⟨rfl, rfl, rfl, rfl, rfl⟩, rfl, hb⟩
  replace HA := Lib.hid ((HA.out.alloc _).below hb)
  replace HW := Lib.hid ((HW.out.alloc HW.out.size _).trans (hb.mono (by have := HW.out.size; simp; omega)))
  clear hb
  unfold litv
  go_wp2_with (go_at_call 15; refine (ltx_any _ _).mono ?_)
  obtain ⟨v6, hv⟩ : ∃ W, w6.alloc (.cells #[.int .u8 0, .int .i64 0, .int .u64 0, .string ⟨#[]⟩, .slice none 0 0] 26) = W := ⟨_, rfl⟩
  have HW3 : Hid (Below w.heap.size w v6) := Lib.hid (by rw [← hv]; exact HW.out.alloc HW.out.size _)
  have HA3 : Hid (P5 v6 w3.heap.size (.int .u8 5) (.int .i64 0) (.int .u64 0) (.string ⟨#[49, 49, 53, 50, 57, 50, 49, 53, 48, 52, 54, 48, 54, 56, 52, 54, 57, 55, 54]⟩) (.slice none 0 0)) := Lib.hid (by rw [← hv]; exact HA.out.alloc _)
  rw [hv]
  clear hv HW HA
  have HW := HW3
  have HA := HA3
  clear HW3 HA3
  rintro e w7 ⟨rfl, hb⟩
  replace HA := Lib.hid (HA.out.below hb)
  replace HW := Lib.hid (HW.out.trans (hb.mono HW.out.size))
  clear hb
  unfold litv
  go_wp2_with (go_at_call 12; refine (HSM.out _ _).mono ?_)
  rintro e w8 ⟨rfl, hb⟩
  replace HA := Lib.hid (HA.out.below hb)
  replace HW := Lib.hid (HW.out.trans (hb.mono HW.out.size))
  clear hb
  unfold litv
  go_wp2_with (go_at_call 12; refine (HSM.out _ _).mono ?_)
  rintro e w9 ⟨rfl, hb⟩
  replace HA := Lib.hid (HA.out.below hb)
  replace HW := Lib.hid (HW.out.trans (hb.mono HW.out.size))
  clear hb
  unfold litv
  go_wp2_with fail
  refine (do68 ⟨#[97, 98, 99]⟩ 2 3 1 3 _ _ (by decide) (by omega) (by omega) (by omega) (by decide) (trow_new _ _ _ _ rfl _ rfl)).mono ?_
  rintro e w10 ⟨k3, n3, b3, t3, is3, ⟨rfl, rfl, rfl, rfl, rfl⟩, rfl, hb⟩
  rw [show (⟨#[97, 98, 99]⟩ : ByteArray).extract 1 3 = ⟨#[98, 99]⟩ from by decide]
  replace HA := Lib.hid ((HA.out.alloc _).below hb)
  replace HW := Lib.hid ((HW.out.alloc HW.out.size _).trans (hb.mono (by have := HW.out.size; simp; omega)))
  clear hb
  unfold litv
  go_upto_region 4 with fail
  obtain ⟨v10, hv⟩ : ∃ W, w10.alloc (.cells #[.int .u8 8, .int .i64 0, .int .u64 0, .string ⟨#[98, 99]⟩, .slice none 0 0] 26) = W := ⟨_, rfl⟩
  have HW3 : Hid (Below w.heap.size w v10) := Lib.hid (by rw [← hv]; exact HW.out.alloc HW.out.size _)
  have HA3 : Hid (P5 v10 w3.heap.size (.int .u8 5) (.int .i64 0) (.int .u64 0) (.string ⟨#[49, 49, 53, 50, 57, 50, 49, 53, 48, 52, 54, 48, 54, 56, 52, 54, 57, 55, 54]⟩) (.slice none 0 0)) := Lib.hid (by rw [← hv]; exact HA.out.alloc _)
  have HB : Hid (P5 v10 w10.heap.size (.int .u8 8) (.int .i64 0) (.int .u64 0) (.string ⟨#[98, 99]⟩) (.slice none 0 0)) := Lib.hid (by rw [← hv]; exact P5.new _ _ _ _ _ _)
  rw [hv]
  clear hv HW HA
  have HW := HW3
  have HA := HA3
  clear HW3 HA3
  obtain ⟨a0, a1, a2, a3, a4, _, _, _, _, _⟩ := HA.out.cells
  have HS : Hid (∀ W, Below v10.heap.size v10 W → W.cell? ⟨w3.heap.size, 0, none⟩ = some (.int .u8 5) ∧ W.cell? ⟨w3.heap.size, 1, none⟩ = some (.int .i64 0) ∧ W.cell? ⟨w3.heap.size, 2, none⟩ = some (.int .u64 0) ∧ W.cell? ⟨w3.heap.size, 3, none⟩ = some (.string ⟨#[49, 49, 53, 50, 57, 50, 49, 53, 48, 52, 54, 48, 54, 56, 52, 54, 57, 55, 54]⟩) ∧ W.cell? ⟨w3.heap.size, 4, none⟩ = some (.slice none 0 0)) := Lib.hid (fun W hb => by obtain ⟨a0, a1, a2, a3, a4, _, _, _, _, _⟩ := (HA.out.below hb).cells; exact ⟨a0, a1, a2, a3, a4⟩)
  have BD := Lib.hid (show Below v10.heap.size v10 v10.drew from (Below.refl _ v10).drew)
  have BA := Lib.hid (show ∀ o, Below v10.heap.size v10 (v10.alloc o).drew from fun o => ((Below.refl _ v10).alloc (Nat.le_refl _) o).drew)
  have HD2 : Hid (∀ av W, TRow W av [tlg maxT, tsm 1] → Calls Tryz.prog 11 #[.int .i64 2, av] W (Came W (IntP (1152921504606846975 + 1 - 1)))) := Lib.hid (fun av W h => do2 (tlg maxT) (tsm 1) (vlg maxT (1152921504606846975 + 1)) (vsm 1) (1152921504606846975 + 1) 1 av W arg_max1 (arg_small (by unfold FitsI; omega)) (small_big (by omega) (by omega)) h)
  go_cut [7, 8] from 35 to 93 (fun s7 s8 wx => ∃ k, s7 = .pointer (some ⟨k, 0, none⟩) ∧ s8 = .bool true ∧ P5 wx k (.int .u8 4) (.int .i64 1152921504606846975) (.int .u64 0) (.string ⟨#[]⟩) (.slice none 0 0) ∧ Below v10.heap.size v10 wx)
  case first =>
    go_region_held3 (fun W => W.cell? ⟨w3.heap.size, 0, none⟩ = some (.int .u8 5) ∧ W.cell? ⟨w3.heap.size, 1, none⟩ = some (.int .i64 0) ∧ W.cell? ⟨w3.heap.size, 2, none⟩ = some (.int .u64 0) ∧ W.cell? ⟨w3.heap.size, 3, none⟩ = some (.string ⟨#[49, 49, 53, 50, 57, 50, 49, 53, 48, 52, 54, 48, 54, 56, 52, 54, 57, 55, 54]⟩) ∧ W.cell? ⟨w3.heap.size, 4, none⟩ = some (.slice none 0 0)) (first | with_reducible exact ⟨a0, a1, a2, a3, a4⟩ | with_reducible exact HS.out _ BD.out | with_reducible exact HS.out _ (BA.out _) | with_reducible exact HS.out _ hb4 | with_reducible exact HS.out _ (hb4.alloc hb4.size _) | with_reducible exact HS.out _ ((hb4.alloc hb4.size _).alloc (Nat.le_trans hb4.size (by simp)) _) | with_reducible exact HS.out _ hb6 | with_reducible exact HS.out _ (hb6.alloc hb6.size _) | with_reducible exact HS.out _ (below_set5 hb6 (by omega) _ _ _ _ _)) (first
      | (go_at_call 12; (with_reducible refine (HSM.out _ _).mono ?_); rintro e w40 ⟨rfl, hb4d⟩; (first | (have hb4 : Below v10.heap.size v10 w40 := BD.out.trans hb4d) | (have hb4 : Below v10.heap.size v10 w40 := (BA.out _).trans (hb4d.mono (by simp)); have LA4 : P5 w40 v10.heap.size (.int .u8 0) (.int .i64 0) (.int .u64 0) (.string ⟨#[]⟩) (.slice none 0 0) := (P5.new v10 _ _ _ _ _).drew.below hb4d)); have hs4 := hb4.size; have HTa := trow_new w40 [tlg maxT, tsm 1] #[.int .u8 5, .int .i64 0, .int .u64 0, .string ⟨#[49, 49, 53, 50, 57, 50, 49, 53, 48, 52, 54, 48, 54, 56, 52, 54, 57, 55, 54]⟩, .slice none 0 0, .int .u8 4, .int .i64 1, .int .u64 0, .string ⟨#[]⟩, .slice none 0 0] 26 rfl 2 rfl; have HTb := HTa.alloc (.cells #[.int .u8 0, .int .i64 0, .int .u64 0, .string ⟨#[]⟩, .slice none 0 0] 26); have HTc := trow_c w40 (.cells #[.int .u8 0, .int .i64 0, .int .u64 0, .string ⟨#[]⟩, .slice none 0 0] 26) [tlg maxT, tsm 1] #[.int .u8 5, .int .i64 0, .int .u64 0, .string ⟨#[49, 49, 53, 50, 57, 50, 49, 53, 48, 52, 54, 48, 54, 56, 52, 54, 57, 55, 54]⟩, .slice none 0 0, .int .u8 4, .int .i64 1, .int .u64 0, .string ⟨#[]⟩, .slice none 0 0] 26 rfl 2 rfl; clear hb4d; unfold litv)
      | (go_at_call 11; (first
        | ((with_reducible refine (HD2.out _ _ HTa).mono ?_); rintro e w41 ⟨k3, n3, b3, t3, is3, hP, rfl, hb5⟩; (have hb6 : Below v10.heap.size v10 w41 := (hb4.alloc hs4 _).trans (hb5.mono (by simp; omega))); (first | (have LA5 : P5 w41 v10.heap.size (.int .u8 0) (.int .i64 0) (.int .u64 0) (.string ⟨#[]⟩) (.slice none 0 0) := (LA4.alloc _).below hb5; obtain ⟨z0, z1, z2, z3, z4, y0, y1, y2, y3, y4⟩ := LA5.cells) | skip))
        | ((with_reducible refine (HD2.out _ _ HTc).mono ?_); rintro e w41 ⟨k3, n3, b3, t3, is3, hP, rfl, hb5⟩; (have hb6 : Below v10.heap.size v10 w41 := ((hb4.alloc hs4 _).alloc (Nat.le_trans hs4 (by simp)) _).trans (hb5.mono (by simp; omega))); have LA5 : P5 w41 w40.heap.size (.int .u8 0) (.int .i64 0) (.int .u64 0) (.string ⟨#[]⟩) (.slice none 0 0) := ((P5.new w40 _ _ _ _ _).alloc _).below hb5; obtain ⟨z0, z1, z2, z3, z4, y0, y1, y2, y3, y4⟩ := LA5.cells)
        | ((with_reducible refine (HD2.out _ _ HTb).mono ?_); rintro e w41 ⟨k3, n3, b3, t3, is3, hP, rfl, hb5⟩; (have hb6 : Below v10.heap.size v10 w41 := ((hb4.alloc hs4 _).alloc (Nat.le_trans hs4 (by simp)) _).trans (hb5.mono (by simp; omega))); have LA5 : P5 w41 (w40.heap.size + 1) (.int .u8 0) (.int .i64 0) (.int .u64 0) (.string ⟨#[]⟩) (.slice none 0 0) := (P5.new1 w40 (.cells #[.int .u8 5, .int .i64 0, .int .u64 0, .string ⟨#[49, 49, 53, 50, 57, 50, 49, 53, 48, 52, 54, 48, 54, 56, 52, 54, 57, 55, 54]⟩, .slice none 0 0, .int .u8 4, .int .i64 1, .int .u64 0, .string ⟨#[]⟩, .slice none 0 0] 26) (.int .u8 0) (.int .i64 0) (.int .u64 0) (.string ⟨#[]⟩) (.slice none 0 0)).below hb5; obtain ⟨z0, z1, z2, z3, z4, y0, y1, y2, y3, y4⟩ := LA5.cells)); obtain ⟨rfl, rfl, rfl, rfl, rfl⟩ := int_max hP; clear hP; unfold litv))
    all_goals
      go_wp2_with fail
      go_meet
      case rel => first | exact ⟨_, rfl, rfl, LA5.set _ _ _ _ _, below_set5 hb6 (by omega) _ _ _ _ _⟩ | exact ⟨_, rfl, rfl, P5.new w41 _ _ _ _ _, hb6.alloc hb6.size _⟩
  case rest =>
    obtain ⟨kc, rfl, rfl, hC, hb⟩ := hcut
    have HC := Lib.hid hC
    replace HA := Lib.hid (HA.out.below hb)
    replace HB := Lib.hid (HB.out.below hb)
    replace HW := Lib.hid (HW.out.trans (hb.mono HW.out.size))
    clear hb hC HS BD BA HD2 a0 a1 a2 a3 a4

    go_wp2_with (go_at_call 12; refine (HSM.out _ _).mono ?_)
    rintro e w11 ⟨rfl, hb⟩
    replace HA := Lib.hid (HA.out.below hb)
    replace HB := Lib.hid (HB.out.below hb)
    replace HC := Lib.hid (HC.out.below hb)
    replace HW := Lib.hid (HW.out.trans (hb.mono HW.out.size))
    clear hb
    unfold litv
    go_wp2_with fail
    refine (do1_bad _ _ (trow_new _ _ _ _ rfl _ rfl)).mono ?_
    rintro e w12 ⟨k3, n3, b3, t3, is3, ⟨rfl, rfl, rfl, rfl, rfl⟩, rfl, hb⟩
    replace HA := Lib.hid ((HA.out.alloc _).below hb)
    replace HB := Lib.hid ((HB.out.alloc _).below hb)
    replace HC := Lib.hid ((HC.out.alloc _).below hb)
    replace HW := Lib.hid ((HW.out.alloc HW.out.size _).trans (hb.mono (by have := HW.out.size; simp; omega)))
    clear hb
    unfold litv
    go_wp2_with (go_at_call 13; refine (arity68 _).mono ?_)
    obtain ⟨v12, hv⟩ : ∃ W, w12.alloc (.cells #[.int .u8 0, .int .i64 0, .int .u64 0, .string ⟨#[]⟩, .slice none 0 0] 26) = W := ⟨_, rfl⟩
    have HW3 : Hid (Below w.heap.size w v12) := Lib.hid (by rw [← hv]; exact HW.out.alloc HW.out.size _)
    have HA3 : Hid (P5 v12 w3.heap.size (.int .u8 5) (.int .i64 0) (.int .u64 0) (.string ⟨#[49, 49, 53, 50, 57, 50, 49, 53, 48, 52, 54, 48, 54, 56, 52, 54, 57, 55, 54]⟩) (.slice none 0 0)) := Lib.hid (by rw [← hv]; exact HA.out.alloc _)
    have HB3 : Hid (P5 v12 w10.heap.size (.int .u8 8) (.int .i64 0) (.int .u64 0) (.string ⟨#[98, 99]⟩) (.slice none 0 0)) := Lib.hid (by rw [← hv]; exact HB.out.alloc _)
    have HC3 : Hid (P5 v12 kc (.int .u8 4) (.int .i64 1152921504606846975) (.int .u64 0) (.string ⟨#[]⟩) (.slice none 0 0)) := Lib.hid (by rw [← hv]; exact HC.out.alloc _)
    rw [hv]
    clear hv HW HA HB HC
    have HW := HW3
    have HA := HA3
    have HB := HB3
    have HC := HC3
    clear HW3 HA3 HB3 HC3
    rintro e w20 ⟨rfl, hb⟩
    replace HA := Lib.hid (HA.out.below hb)
    replace HB := Lib.hid (HB.out.below hb)
    replace HC := Lib.hid (HC.out.below hb)
    replace HW := Lib.hid (HW.out.trans (hb.mono HW.out.size))
    clear hb
    go_wp2_with (go_at_call 13; refine (arity0 _).mono ?_)
    rintro e w21 ⟨rfl, hb⟩
    replace HA := Lib.hid (HA.out.below hb)
    replace HB := Lib.hid (HB.out.below hb)
    replace HC := Lib.hid (HC.out.below hb)
    replace HW := Lib.hid (HW.out.trans (hb.mono HW.out.size))
    clear hb
    obtain ⟨a0, a1, a2, a3, a4, _, _, _, _, _⟩ := HA.out.cells
    obtain ⟨b0, b1, b2, b3, b4, _, _, _, _, _⟩ := HB.out.cells
    obtain ⟨c0, c1, c2, c3, c4, _, _, _, _, _⟩ := HC.out.cells
    go_wp2_with fail
    go_ret
    exact ⟨rfl, HW.out⟩
end Go.Proofs.YtlodbibagmblkaaGreatDoor
namespace Go.Proofs.YtlodbibagmblkaaGreatDoor
open Go Go.RowKit Go.Lib
/-- a literal that is a whole number is an argument -/
theorem argI_of {k n b : Int} {l : List UInt8} {A : Int} {ia : Option Addr} {ic : Nat} (h : IsI k n b l 0 A) (hl : l.length ≤ 300000) : ∃ y, ArgI ⟨k, n, b, bs l, .slice ia 0 ic⟩ y A := by
  obtain ⟨_, rfl, h⟩ := h
  rcases h with ⟨rfl, rfl, rfl, hf⟩ | ⟨rfl, rfl, hA, hB, hf⟩
  · refine ⟨⟨4, n, 0, ⟨#[]⟩, .slice ia 0 ic, decide (n < 0), bs (Pl.dgs n.natAbs)⟩, fun W => ?_, rfl, small_big (by unfold FitsI at hf; omega) (by unfold FitsI at hf; omega), ⟨_, _, _, rfl⟩, ⟨_, _, _, rfl⟩⟩
    have := of_small n 73 ia ic W (by unfold FitsI at hf; omega) (by unfold FitsI at hf; omega) (.inl rfl)
    rwa [decide_eq_true hf] at this
  · refine ⟨⟨5, 0, 0, bs l, .slice ia 0 ic, decide (A < 0), bs (Pl.dgs A.natAbs)⟩, fun W => ?_, rfl, hB, ⟨_, _, _, rfl⟩, ⟨_, _, _, rfl⟩⟩
    have := of_large l A ia ic W hl hB hA
    rwa [decide_eq_false hf] at this
/-- whole numbers are the same as literals where they are the same -/
theorem isI_same {k n b k' n' b' : Int} {l l' : List UInt8} {A B : Int} (h : IsI k n b l 0 A) (h' : IsI k' n' b' l' 0 B) : (k = k' ∧ n = n' ∧ b = b' ∧ bs l = bs l') ↔ A = B := by
  have hbs : bs l = bs l' ↔ l = l' := by
    constructor
    · intro h
      have := congrArg (fun s : ByteArray => s.data.toList) h
      simpa using this
    · rintro rfl; rfl
  rw [hbs]
  obtain ⟨_, rfl, h⟩ := h
  obtain ⟨_, rfl, h'⟩ := h'
  rcases h with ⟨rfl, rfl, rfl, hf⟩ | ⟨rfl, rfl, hA, hB, hf⟩
  · rcases h' with ⟨rfl, rfl, rfl, hf'⟩ | ⟨rfl, rfl, hA', hB', hf'⟩
    · exact ⟨fun h => h.2.1, fun h => ⟨rfl, h, rfl, rfl⟩⟩
    · exact ⟨fun h => by omega, fun h => absurd (h ▸ hf) hf'⟩
  · rcases h' with ⟨rfl, rfl, rfl, hf'⟩ | ⟨rfl, rfl, hA', hB', hf'⟩
    · exact ⟨fun h => by omega, fun h => absurd (h ▸ hf') hf⟩
    · refine ⟨fun h => ?_, fun h => ⟨rfl, rfl, rfl, ?_⟩⟩
      · obtain ⟨_, _, _, rfl⟩ := h
        exact Pl.intT_val (by decide) hA hA'
      · subst h
        exact Pl.intT_inj (by decide) (by decide) hA hA'
theorem RowAt.two {w : World} {x y : Pl.Lit} {vx vy : Value} (T : TypeId) : RowAt 5 litCells (w.alloc (.cells #[.int .u8 x.kind, .int .i64 x.n, .int .u64 x.bits, .string x.text, vx, .int .u8 y.kind, .int .i64 y.n, .int .u64 y.bits, .string y.text, vy] T)) [x, y] (some ⟨w.heap.size, 0, none⟩) 2 (fun i => if i = 0 then vx else vy) := by
  refine ⟨by simp, by unfold maxLen; decide, by simp, fun _ => ⟨_, _, rfl⟩, fun h => (by cases h), fun _ a ha => by injection ha with ha; rw [← ha]; simp, ?_⟩
  intro b o e i z hz j u hu
  injection e with e
  injection e with e1 e2
  subst e1 e2
  rw [Nat.zero_add, World.cell?_alloc_new]
  have hi : i < 2 := by have := (List.getElem?_eq_some_iff.1 hz).1; simpa using this
  obtain rfl | rfl : i = 0 ∨ i = 1 := by omega
  · obtain rfl : x = z := by simpa using hz
    simp only [litCells, if_true] at hu
    have hj : j < 5 := by have := (List.getElem?_eq_some_iff.1 hu).1; simpa using this
    obtain rfl | rfl | rfl | rfl | rfl : j = 0 ∨ j = 1 ∨ j = 2 ∨ j = 3 ∨ j = 4 := by omega
    all_goals simpa using hu
  · obtain rfl : y = z := by simpa using hz
    simp only [litCells, Nat.one_ne_zero, if_false] at hu
    have hj : j < 5 := by have := (List.getElem?_eq_some_iff.1 hu).1; simpa using this
    obtain rfl | rfl | rfl | rfl | rfl : j = 0 ∨ j = 1 ∨ j = 2 ∨ j = 3 ∨ j = 4 := by omega
    all_goals simpa using hu
/-- two literals in a row -/
theorem LitsAt.two {B : Nat} {w : World} {x y : Pl.Lit} {vx vy : Value} (hx : LitsAt B w x.items vx) (hy : LitsAt B w y.items vy) (hxw : Pl.LitW x) (hyw : Pl.LitW y) (hB : B ≤ w.heap.size) (T : TypeId) :
    LitsAt (w.heap.size + 1) (w.alloc (.cells #[.int .u8 x.kind, .int .i64 x.n, .int .u64 x.bits, .string x.text, vx, .int .u8 y.kind, .int .i64 y.n, .int .u64 y.bits, .string y.text, vy] T)) [x, y] (.slice (some ⟨w.heap.size, 0, none⟩) 2 2) := by
  have hb : ∀ o, Below w.heap.size w (w.alloc o) := fun o => (Below.refl _ _).alloc (Nat.le_refl _) _
  refine LitsAt.mk _ [x, y] 2 (fun i => if i = 0 then vx else vy) (fun _ a ha => by injection ha with ha; rw [← ha]; exact Nat.lt_succ_self _) (RowAt.two T) ?_ ?_
  · intro z hz
    simp only [List.mem_cons, List.not_mem_nil, or_false] at hz
    rcases hz with rfl | rfl
    · exact hxw
    · exact hyw
  · intro i z hz
    have hi : i < 2 := by have := (List.getElem?_eq_some_iff.1 hz).1; simpa using this
    obtain rfl | rfl : i = 0 ∨ i = 1 := by omega
    · obtain rfl : x = z := by simpa using hz
      exact (hx.keep ((hb _).mono hB)).up (by omega)
    · obtain rfl : y = z := by simpa using hz
      exact (hy.keep ((hb _).mono hB)).up (by omega)
end Go.Proofs.YtlodbibagmblkaaGreatDoor
namespace Go.Proofs.YtlodbibagmblkaaGreatDoor
open Go Go.RowKit Go.Lib
/-- what comes out is a whole number again -/
theorem isI_lit {R k n : Int} {s : List UInt8} (h : IntLit R k n s) (hR : Pl.Big R) : IsI k n 0 s 0 R ∧ s.length ≤ 300000 := by
  rcases h with ⟨h1, rfl, rfl, rfl⟩ | ⟨h1, rfl, rfl, h2, h3⟩
  · exact ⟨⟨rfl, rfl, .inl ⟨rfl, rfl, rfl, h1⟩⟩, by simp⟩
  · exact ⟨⟨rfl, rfl, .inr ⟨rfl, rfl, h2, hR, h1⟩⟩, by omega⟩
end Go.Proofs.YtlodbibagmblkaaGreatDoor
namespace Go.Proofs.YtlodbibagmblkaaGreatDoor
open Go Go.RowKit Go.Lib
theorem RowAt.one {w : World} {x : Pl.Lit} {vx : Value} (T : TypeId) : RowAt 5 litCells (w.alloc (.cells #[.int .u8 x.kind, .int .i64 x.n, .int .u64 x.bits, .string x.text, vx] T)) [x] (some ⟨w.heap.size, 0, none⟩) 1 (fun _ => vx) := by
  refine ⟨by simp, by unfold maxLen; decide, by simp, fun _ => ⟨_, _, rfl⟩, fun h => (by cases h), fun _ a ha => by injection ha with ha; rw [← ha]; simp, ?_⟩
  intro b o e i z hz j u hu
  injection e with e
  injection e with e1 e2
  subst e1 e2
  rw [Nat.zero_add, World.cell?_alloc_new]
  have hi : i < 1 := by have := (List.getElem?_eq_some_iff.1 hz).1; simpa using this
  obtain rfl : i = 0 := by omega
  obtain rfl : x = z := by simpa using hz
  simp only [litCells] at hu
  have hj : j < 5 := by have := (List.getElem?_eq_some_iff.1 hu).1; simpa using this
  obtain rfl | rfl | rfl | rfl | rfl : j = 0 ∨ j = 1 ∨ j = 2 ∨ j = 3 ∨ j = 4 := by omega
  all_goals simpa using hu
/-- a literal in a row of its own -/
theorem LitsAt.one {B : Nat} {w : World} {x : Pl.Lit} {vx : Value} (hx : LitsAt B w x.items vx) (hxw : Pl.LitW x) (hB : B ≤ w.heap.size) (T : TypeId) :
    LitsAt (w.heap.size + 1) (w.alloc (.cells #[.int .u8 x.kind, .int .i64 x.n, .int .u64 x.bits, .string x.text, vx] T)) [x] (.slice (some ⟨w.heap.size, 0, none⟩) 1 1) := by
  have hb : ∀ o, Below w.heap.size w (w.alloc o) := fun o => (Below.refl _ _).alloc (Nat.le_refl _) _
  refine LitsAt.mk _ [x] 1 (fun _ => vx) (fun _ a ha => by injection ha with ha; rw [← ha]; exact Nat.lt_succ_self _) (RowAt.one T) ?_ ?_
  · intro z hz
    simp only [List.mem_cons, List.not_mem_nil, or_false] at hz
    rcases hz with rfl
    exact hxw
  · intro i z hz
    have hi : i < 1 := by have := (List.getElem?_eq_some_iff.1 hz).1; simpa using this
    obtain rfl : i = 0 := by omega
    obtain rfl : x = z := by simpa using hz
    exact (hx.keep ((hb _).mono hB)).up (by omega)
/-- a float is shown, and read if it is a number -/
theorem float_texts {a : Nat} (ha : a < 18446744073709551616) : ∃ (s : ByteArray) (num : Bool) (k6 b6 : Int), num = decide (a % 9223372036854775808 < 9218868437227405312) ∧ (num = true → k6 = 6 ∧ b6 = (a : Int)) ∧ s.size ≤ 65536 ∧
    (∀ W, Env W → ∀ av, TRow W av [tfl a] → Calls Tryz.prog 11 #[.int .i64 56, av] W (Came W (Just 8 0 s true))) ∧
    (∀ W, Env W → ∀ av, TRow W av [tst s] → Calls Tryz.prog 11 #[.int .i64 71, av] W (Came W fun k n b t is => k6 = k ∧ n = 0 ∧ b6 = b ∧ t = ⟨#[]⟩ ∧ num = is)) := by
  by_cases h : a % 9223372036854775808 < 9218868437227405312
  · obtain ⟨s, h1, h2, h3⟩ := show_read (a := a) ⟨ha, h⟩
    refine ⟨s, true, 6, a, (decide_eq_true h).symm, fun _ => ⟨rfl, rfl⟩, by omega, fun W he av ht => do56 a s av W (by omega) (fun W2 hb => h2 W2 (he.below hb)) ht, fun W he av ht => ?_⟩
    refine (do71 s a 0 av W (by omega) (fun W2 hb => h3 W2 (he.below hb)) ht).mono fun e w' h => ?_
    obtain ⟨a, b, c, d, f, ⟨r1, r2, r3, r4, r5⟩, h2, h3⟩ := justf_ok h rfl
    exact ⟨a, b, c, d, f, ⟨r1.symm, r2, r3.symm, r4, r5.symm⟩, h2, h3⟩
  · obtain ⟨s, h1, h2, h3⟩ := show_odd (a := a) ha h
    refine ⟨s, false, 0, 0, (decide_eq_false h).symm, fun h => (by cases h), by omega, fun W he av ht => do56 a s av W (by omega) (fun W2 hb => h2 W2) ht, fun W he av ht => ?_⟩
    refine (do71 s 0 100 av W (by omega) (fun W2 hb => h3 W2) ht).mono fun e w' h => ?_
    obtain ⟨a, b, c, d, f, ⟨r1, r2, r3, r4, r5⟩, h2, h3⟩ := justf_no h rfl
    exact ⟨a, b, c, d, f, ⟨r1.symm, r2, r3.symm, r4, r5.symm⟩, h2, h3⟩
/-- the number read is the number, or its text is long -/
def ReadP (A : Int) (long : Prop) (k n b : Int) (t : ByteArray) (is : Bool) : Prop := b = 0 ∧ ∃ s, t = bs s ∧ ((is = true ∧ IntLit A k n s) ∨ (is = false ∧ long ∧ k = 0 ∧ n = 0 ∧ s = []))
theorem intT_short {l : List UInt8} {A : Int} (h : Pl.IntT 10 l A) (hf : FitsI A) : l.length ≤ 20 := by
  have key : ∀ t : List UInt8, Pl.CanT 10 t A.natAbs → t.length ≤ 19 := fun t ht => by
    rcases Nat.lt_or_ge 19 t.length with h1 | h1
    · have := Pl.canT_big ht h1
      unfold FitsI at hf
      omega
    · exact h1
  unfold Pl.IntT at h
  split at h
  · obtain ⟨t, rfl, ht⟩ := h
    have := key t ht
    simp only [List.length_cons]
    omega
  · have := key l h
    omega
theorem whole_texts {kx nx bx : Int} {lx : List UInt8} {ax : Option Addr} {cx : Nat} {A : Int} (h : IsI kx nx bx lx 0 A) (hl : lx.length ≤ 300000) :
    (∀ W, Calls Tryz.prog 9 #[.int .i64 20, litv kx nx bx (bs lx) (.slice ax 0 cx), litv 4 10 0 ⟨#[]⟩ (.slice none 0 0)] W (Came W (TextP A))) ∧
    (∀ s, Pl.IntT 10 s A → s.length ≤ 40000 → ∀ W, Env W → ∀ av, TRow W av [tst (bs s)] → Calls Tryz.prog 11 #[.int .i64 70, av] W (Came W (ReadP A (255 < lx.length)))) ∧
    (∀ k n s, IntLit A k n s → ∀ W, Calls Tryz.prog 10 #[litv k n 0 (bs s) (.slice none 0 0), litv kx nx bx (bs lx) (.slice ax 0 cx)] W fun e w' => e = .returned (.bool true) ∧ Below W.heap.size W w') := by
  have hlong : ∀ s : List UInt8, Pl.IntT 10 s A → 255 < s.length → 255 < lx.length := fun s hs h2 => by
    rcases h.2.2 with ⟨_, _, _, hf⟩ | ⟨_, _, hA, _, _⟩
    · have := intT_short hs hf
      omega
    · rw [Pl.intT_inj (by decide) (by decide) hA hs]; exact h2
  obtain ⟨y, Ey⟩ := argI_of (ia := ax) (ic := cx) h hl
  have hB : Pl.Big A := Ey.2.2.1
  refine ⟨fun W => ?_, fun s hs h2 W he av ht => ?_, fun k n s hil W => ?_⟩
  · exact ldo_any 20 ⟨kx, nx, bx, bs lx, .slice ax 0 cx⟩ (tsm 10) ax none 0 0 cx 0 _ W rfl rfl (fun W av h => do20 _ y A av W Ey h)
  · obtain ⟨ev, hv, hev⟩ := he.err
    have hg : 5 < W.heap.size := Nat.lt_of_lt_of_le (by decide) he.size
    refine (do70 (bs s) (fun k n t en => ∃ q, t = bs q ∧ ((en = 0 ∧ IntLit A k n q) ∨ (255 < s.length ∧ en = 144 ∧ k = 0 ∧ n = 0 ∧ q = []))) av W (by show s.length ≤ 65536; omega) (fun W2 hb => ?_) ht).mono fun e w' h => ?_
    · refine (sint_any s A ev W2 hs (by omega) (by rw [hb.cell (p := ⟨5, 0, none⟩) hg]; exact hv) (Nat.lt_of_lt_of_le hg hb.size) hev).mono fun e w' ⟨k, n, q, en, r1, r2, r3⟩ => ⟨k, n, bs q, en, ⟨q, rfl, r1⟩, r2, r3⟩
    · obtain ⟨k, n, b, t, is, h1, h2, h3⟩ := h
      refine ⟨k, n, b, t, is, ?_, h2, h3⟩
      rcases h1 with ⟨rfl, rfl, en, ⟨q, rfl, h4⟩, h5⟩ | ⟨rfl, ⟨k', n', b', t', _, en, ⟨q, _, h4⟩, h5⟩, rfl, rfl, rfl, rfl⟩
      · rcases h4 with ⟨rfl, h4⟩ | ⟨_, rfl, _⟩
        · exact ⟨rfl, q, rfl, .inl ⟨rfl, h4⟩⟩
        · cases h5
      · rcases h4 with ⟨rfl, _⟩ | ⟨h6, _⟩
        · cases h5
        · exact ⟨rfl, [], rfl, .inr ⟨rfl, hlong s hs h6, rfl, rfl, rfl⟩⟩
  · obtain ⟨h1, _⟩ := isI_lit hil hB
    have := slf_any k n 0 kx nx bx (bs s) (bs lx) none ax 0 cx W
    rw [decide_eq_decide.2 (isI_same h1 h), decide_eq_true rfl] at this
    exact this
end Go.Proofs.YtlodbibagmblkaaGreatDoor
