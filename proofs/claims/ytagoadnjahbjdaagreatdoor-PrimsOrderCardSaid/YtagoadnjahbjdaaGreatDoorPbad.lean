/- Whole numbers compared: the walk of PrimsOrder (printed by gen_pow.py). -/
import Derived.Test.YtagoadnjahbjdaaGreatDoorPbac
import Derived.Test.YtagoadnjahbjdaaGreatDoorPaan
namespace Go.Proofs.YtagoadnjahbjdaaGreatDoor
open Go Go.RowKit Go.Lib
/-- how many of the first comparisons are so -/
def mny (o : Int) (i : Nat) : Nat := (if 1 ≤ i ∧ cmpB 3 o = true then 1 else 0) + (if 2 ≤ i ∧ cmpB 4 o = true then 1 else 0) + (if 3 ≤ i ∧ cmpB 7 o = true then 1 else 0)
theorem mny_three (A B : Int) : mny (ordi A B) 3 = 1 := by
  rcases ordi_in A B with h | h | h <;> rw [h] <;> decide
theorem cmp7 (A B : Int) : cmpB 7 (ordi A B) = decide (A = B) := by
  unfold cmpB ordi
  simp only [show ¬ (7 = 3) by decide, show ¬ (7 = 4) by decide, show ¬ (7 = 5) by decide, show ¬ (7 = 6) by decide, if_false, if_true]
  rw [decide_eq_decide]
  split
  · omega
  · split <;> omega
theorem cmp_not (o : Int) : cmpB 6 o = (!cmpB 3 o) ∧ cmpB 5 o = (!cmpB 4 o) ∧ cmpB 8 o = (!cmpB 7 o) := by
  unfold cmpB
  refine ⟨?_, ?_, ?_⟩
  · simp only [show ¬ (6 = 3) by decide, show ¬ (6 = 4) by decide, show ¬ (6 = 5) by decide, if_false, if_true]
    by_cases h : o < 0
    · rw [decide_eq_true h, decide_eq_false (by omega)]; rfl
    · rw [decide_eq_false h, decide_eq_true (by omega)]; rfl
  · simp only [show ¬ (5 = 3) by decide, show ¬ (5 = 4) by decide, show ¬ (4 = 3) by decide, if_false, if_true]
    by_cases h : 0 < o
    · rw [decide_eq_true h, decide_eq_false (by omega)]; rfl
    · rw [decide_eq_false h, decide_eq_true (by omega)]; rfl
  · simp only [show ¬ (7 = 3) by decide, show ¬ (7 = 4) by decide, show ¬ (7 = 5) by decide, show ¬ (7 = 6) by decide, show ¬ (8 = 3) by decide, show ¬ (8 = 4) by decide, show ¬ (8 = 5) by decide, show ¬ (8 = 6) by decide, show ¬ (8 = 7) by decide, if_false, if_true]
    by_cases h : o = 0
    · subst h; rfl
    · rw [decide_eq_true h, decide_eq_false h]; rfl
theorem mny_step (o : Int) : mny o 1 = mny o 0 + (if cmpB 3 o = true then 1 else 0) ∧ mny o 2 = mny o 1 + (if cmpB 4 o = true then 1 else 0) ∧ mny o 3 = mny o 2 + (if cmpB 7 o = true then 1 else 0) := by
  unfold mny
  cases cmpB 3 o <;> cases cmpB 4 o <;> cases cmpB 7 o <;> decide
set_option maxRecDepth 4000 in
set_option maxHeartbeats 16000000 in
/-- Of two whole numbers just one of less, greater, the same is so; the law asks nothing of other literals -/
theorem order_any (kx nx bx ky ny bY : Int) (lx ly : List UInt8) (ax ay : Option Addr) (nlx cx nly cy : Nat) (w : World) (q1 : -9223372036854775808 ≤ nx) (q2 : nx ≤ 9223372036854775807) (q3 : -9223372036854775808 ≤ ny) (q4 : ny ≤ 9223372036854775807)
    (hfar : ∀ W, Below w.heap.size w W → Calls Tryz.prog 7 #[.slice (some ⟨W.heap.size, 0, none⟩) 2 2] (W.alloc (.cells #[.int .u8 kx, .int .i64 nx, .int .u64 bx, .string (bs lx), .slice ax nlx cx, .int .u8 ky, .int .i64 ny, .int .u64 bY, .string (bs ly), .slice ay nly cy] 26)) fun e w' => (∃ t : Bool, e = .returned (.bool t) ∧ (t = false → lx.length ≤ 300000 ∧ ly.length ≤ 300000)) ∧ Below W.heap.size W w') :
    Calls Tryz.prog 4 #[litv kx nx bx (bs lx) (.slice ax nlx cx), litv ky ny bY (bs ly) (.slice ay nly cy)] w fun e w' => e = .returned (.bool true) ∧ Below w.heap.size w w' := by
  have HAW := Lib.hid (fun W => law21_awake W)
  have HFAR := Lib.hid hfar
  have HVX := Lib.hid (fun (h : lx.length ≤ 300000) W => rvalueI_any kx nx bx lx ax nlx cx W h q1 q2)
  have HVY := Lib.hid (fun (h : ly.length ≤ 300000) W => rvalueI_any ky ny bY ly ay nly cy W h q3 q4)
  have HAFT : Hid (∀ A B, lx.length ≤ 300000 → ly.length ≤ 300000 → IsI kx nx bx lx nlx A → IsI ky ny bY ly nly B → ∃ o : Int,
      (∀ how : Nat, 3 ≤ how → how < 9 → ∀ W, Calls Tryz.prog 9 #[.int .i64 how, litv kx nx bx (bs lx) (.slice ax nlx cx), litv ky ny bY (bs ly) (.slice ay nly cy)] W (Came W (Just (kindB (cmpB how o)) 0 ⟨#[]⟩ true))) ∧
      (∀ W, Calls Tryz.prog 10 #[litv kx nx bx (bs lx) (.slice ax nlx cx), litv ky ny bY (bs ly) (.slice ay nly cy)] W fun e w' => e = .returned (.bool (cmpB 7 o)) ∧ Below W.heap.size W w') ∧ mny o 3 = 1) := Lib.hid (fun A B g1 g2 hA hB => by
    obtain rfl : nlx = 0 := hA.1
    obtain rfl : nly = 0 := hB.1
    obtain ⟨yx, Ex⟩ := argI_of (ia := ax) (ic := cx) hA g1
    obtain ⟨yy, Ey⟩ := argI_of (ia := ay) (ic := cy) hB g2
    refine ⟨ordi A B, fun how h3 h9 W => ?_, fun W => ?_, mny_three A B⟩
    · exact ldo_any how ⟨kx, nx, bx, bs lx, .slice ax 0 cx⟩ ⟨ky, ny, bY, bs ly, .slice ay 0 cy⟩ ax ay 0 0 cx cy _ W rfl rfl (fun W av h => do_cmp how _ _ yx yy A B av W h3 h9 Ex Ey h)
    · have := slf_any kx nx bx ky ny bY (bs lx) (bs ly) ax ay cx cy W
      rw [decide_eq_decide.2 (isI_same hA hB), ← cmp7 A B] at this
      exact this)
  unfold litv at *
  generalize bs lx = sx at *
  generalize bs ly = sy at *
  clear hfar q1 q2 q3 q4
  obtain ⟨W2, hW2⟩ : ∃ W2, (w.alloc (.cells #[.int .u8 kx, .int .i64 nx, .int .u64 bx, .string sx, .slice ax nlx cx] 26)).alloc (.cells #[.int .u8 ky, .int .i64 ny, .int .u64 bY, .string sy, .slice ay nly cy] 26) = W2 := ⟨_, rfl⟩
  have HX : Hid (P5 W2 w.heap.size (.int .u8 kx) (.int .i64 nx) (.int .u64 bx) (.string sx) (.slice ax nlx cx)) := Lib.hid (by rw [← hW2]; exact (P5.new _ _ _ _ _ _).alloc _)
  have HY : Hid (P5 W2 (w.heap.size + 1) (.int .u8 ky) (.int .i64 ny) (.int .u64 bY) (.string sy) (.slice ay nly cy)) := Lib.hid (by rw [← hW2]; exact P5.new1 _ _ _ _ _ _ _)
  have HW : Hid (Below w.heap.size w W2) := Lib.hid (by rw [← hW2]; exact ((Below.refl _ _).alloc (Nat.le_refl _) _).alloc (by simp) _)
  go_enter Tryz.func4, Tryz.ntmps4
  go_wp2_with fail
  refine (HAW.out _).mono ?_
  rintro e w3 ⟨rfl, hb⟩
  replace HX := Lib.hid (HX.out.below hb)
  replace HY := Lib.hid (HY.out.below hb)
  replace HW := Lib.hid (HW.out.trans (hb.mono HW.out.size))
  clear hb hW2
  obtain ⟨x0, x1, x2, x3, x4, _, _, _, _, _⟩ := HX.out.cells
  obtain ⟨y0, y1, y2, y3, y4, _, _, _, _, _⟩ := HY.out.cells
  have hxl := HX.out.lt
  have hyl := HY.out.lt
  go_wp2_with fail
  refine (HFAR.out _ HW.out).mono ?_
  rintro e w4 ⟨⟨t, rfl, ht⟩, hb⟩
  replace HX := Lib.hid (HX.out.below hb)
  replace HY := Lib.hid (HY.out.below hb)
  replace HW := Lib.hid (HW.out.trans (hb.mono HW.out.size))
  clear hb x0 x1 x2 x3 x4 y0 y1 y2 y3 y4
  obtain ⟨x0, x1, x2, x3, x4, _, _, _, _, _⟩ := HX.out.cells
  cases t
  case true =>
    clear ht
    go_wp2_with fail
    go_ret
    exact ⟨rfl, HW.out⟩
  obtain ⟨g1, g2⟩ := ht rfl
  replace HVX := Lib.hid (HVX.out g1)
  replace HVY := Lib.hid (HVY.out g2)
  replace HAFT := Lib.hid (fun A B => HAFT.out A B g1 g2)
  clear ht g1 g2
  go_wp2_with fail
  refine (HVX.out _).mono ?_
  rintro e w5 ⟨⟨t, rfl, ht⟩, hb⟩
  have HTX := Lib.hid ht
  replace HX := Lib.hid (HX.out.below hb)
  replace HY := Lib.hid (HY.out.below hb)
  replace HW := Lib.hid (HW.out.trans (hb.mono HW.out.size))
  clear hb ht x0 x1 x2 x3 x4
  obtain ⟨y0, y1, y2, y3, y4, _, _, _, _, _⟩ := HY.out.cells
  cases t
  case false =>
    go_wp2_with fail
    go_ret
    exact ⟨rfl, HW.out⟩
  go_wp2_with fail
  refine (HVY.out _).mono ?_
  rintro e w6 ⟨⟨t, rfl, ht⟩, hb⟩
  have HTY := Lib.hid ht
  replace HX := Lib.hid (HX.out.below hb)
  replace HY := Lib.hid (HY.out.below hb)
  replace HW := Lib.hid (HW.out.trans (hb.mono HW.out.size))
  clear hb ht y0 y1 y2 y3 y4 hxl hyl
  cases t
  case false =>
    go_wp2_with fail
    go_ret
    exact ⟨rfl, HW.out⟩
  obtain ⟨A, hA⟩ := HTX.out.1 (by first | trivial | rfl)
  obtain ⟨B, hB⟩ := HTY.out.1 (by first | trivial | rfl)
  obtain ⟨o, hd, hsl, hm3⟩ := HAFT.out A B hA hB
  have HD := Lib.hid hd
  have HSL := Lib.hid hsl
  have HM3 := Lib.hid hm3
  have HMS := Lib.hid (mny_step o)
  have HNT := Lib.hid (cmp_not o)
  clear hA hB hd hsl hm3 HTX HTY HAFT A B
  go_wp2_with fail
  go_loopw [7, 8] (fun mv iv wr => ∃ i : Nat, i ≤ 3 ∧ mv = .int .i64 (mny o i : Nat) ∧ iv = .int .i64 i ∧ Below w6.heap.size w6 wr) (fun _ iv _ => 3 - (RowKit.intOf iv).toNat)
  case atStart => exact ⟨0, by omega, by simp [mny], rfl, Below.refl _ _⟩
  case round =>
    obtain ⟨i, hi, rfl, rfl, hb⟩ := hrel
    replace HX := Lib.hid (HX.out.below hb)
    replace HY := Lib.hid (HY.out.below hb)
    have HWR := Lib.hid hb
    replace HW := Lib.hid (HW.out.trans (hb.mono HW.out.size))
    clear hb
    obtain ⟨v6, hvn⟩ : ∃ x, x = wr := ⟨wr, rfl⟩
    subst hvn
    by_cases hlt : i < 3
    · obtain ⟨h1, h2, q1, hI1, hI2, H1, H2, hst⟩ : ∃ (h1 h2 : Int) (q1 : Bool), ((i = 0 ∧ h1 = 3 ∧ h2 = 6) ∨ (i = 1 ∧ h1 = 4 ∧ h2 = 5) ∨ (i = 2 ∧ h1 = 7 ∧ h2 = 8)) ∧ i < 3 ∧ Hid (∀ W, Calls Tryz.prog 9 #[.int .i64 h1, .agg #[.int .u8 kx, .int .i64 nx, .int .u64 bx, .string sx, .slice ax nlx cx], .agg #[.int .u8 ky, .int .i64 ny, .int .u64 bY, .string sy, .slice ay nly cy]] W (Came W (Just (kindB q1) 0 ⟨#[]⟩ true))) ∧ Hid (∀ W, Calls Tryz.prog 9 #[.int .i64 h2, .agg #[.int .u8 kx, .int .i64 nx, .int .u64 bx, .string sx, .slice ax nlx cx], .agg #[.int .u8 ky, .int .i64 ny, .int .u64 bY, .string sy, .slice ay nly cy]] W (Came W (Just (kindB (!q1)) 0 ⟨#[]⟩ true))) ∧ mny o (i + 1) = mny o i + (if q1 = true then 1 else 0) := by
        obtain rfl | rfl | rfl : i = 0 ∨ i = 1 ∨ i = 2 := by omega
        · refine ⟨3, 6, cmpB 3 o, .inl ⟨rfl, rfl, rfl⟩, hlt, Lib.hid (fun W => HD.out 3 (by decide) (by decide) W), Lib.hid ?_, HMS.out.1⟩
          have := HD.out 6 (by decide) (by decide)
          rwa [HNT.out.1] at this
        · refine ⟨4, 5, cmpB 4 o, .inr (.inl ⟨rfl, rfl, rfl⟩), hlt, Lib.hid (fun W => HD.out 4 (by decide) (by decide) W), Lib.hid ?_, HMS.out.2.1⟩
          have := HD.out 5 (by decide) (by decide)
          rwa [HNT.out.2.1] at this
        · refine ⟨7, 8, cmpB 7 o, .inr (.inr ⟨rfl, rfl, rfl⟩), hlt, Lib.hid (fun W => HD.out 7 (by decide) (by decide) W), Lib.hid ?_, HMS.out.2.2⟩
          have := HD.out 8 (by decide) (by decide)
          rwa [HNT.out.2.2] at this
      obtain ⟨j, hj⟩ : ∃ j, j = i + 1 := ⟨_, rfl⟩
      rw [← hj] at hst
      have HJ : Hid (j = i + 1 ∧ j ≤ 3) := Lib.hid ⟨hj, by omega⟩
      have HST := Lib.hid hst
      obtain ⟨mm, hmm⟩ : ∃ mm, mny o i = mm := ⟨_, rfl⟩
      rw [hmm] at HST ⊢
      obtain ⟨kq, hkq⟩ : ∃ kq, kindB q1 = kq := ⟨_, rfl⟩
      obtain ⟨kr, hkr⟩ : ∃ kr, kindB (!q1) = kr := ⟨_, rfl⟩
      rw [hkq] at H1
      rw [hkr] at H2
      have HKQ := Lib.hid (And.intro hkq hkr)
      have hmb : mm < 1000 := by rw [← hmm]; unfold mny; split <;> split <;> split <;> omega
      clear hst hj hmm hkq hkr hlt hi HD HMS HNT HM3 HSL HAW HFAR HVX HVY hI2
      rcases hI1 with ⟨rfl, rfl, rfl⟩ | ⟨rfl, rfl, rfl⟩ | ⟨rfl, rfl, rfl⟩
      all_goals
        go_upto_region 9 with fail
        go_cut [9, 10] from 36 to 79 (fun s9 s10 wx => ∃ k, s9 = .pointer (some ⟨k, 0, none⟩) ∧ s10 = .bool true ∧ P5 wx k (.int .u8 kq) (.int .i64 0) (.int .u64 0) (.string ⟨#[]⟩) (.slice none 0 0) ∧ Below v6.heap.size v6 wx)
        case first =>
          have BD := Lib.hid (show Below v6.heap.size v6 v6.drew from (Below.refl _ v6).drew)
          have BA := Lib.hid (show ∀ o, Below v6.heap.size v6 (v6.alloc o).drew from fun o => ((Below.refl _ v6).alloc (Nat.le_refl _) o).drew)
          have BAA := Lib.hid (show ∀ o o', Below v6.heap.size v6 ((v6.alloc o).alloc o').drew from fun o o' => (((Below.refl _ v6).alloc (Nat.le_refl _) o).alloc (by simp) o').drew)
          have HS : Hid (∀ W, Below v6.heap.size v6 W → W.cell? ⟨w.heap.size, 0, none⟩ = some (.int .u8 kx) ∧ W.cell? ⟨w.heap.size, 1, none⟩ = some (.int .i64 nx) ∧ W.cell? ⟨w.heap.size, 2, none⟩ = some (.int .u64 bx) ∧ W.cell? ⟨w.heap.size, 3, none⟩ = some (.string sx) ∧ W.cell? ⟨w.heap.size, 4, none⟩ = some (.slice ax nlx cx) ∧ W.cell? ⟨w.heap.size + 1, 0, none⟩ = some (.int .u8 ky) ∧ W.cell? ⟨w.heap.size + 1, 1, none⟩ = some (.int .i64 ny) ∧ W.cell? ⟨w.heap.size + 1, 2, none⟩ = some (.int .u64 bY) ∧ W.cell? ⟨w.heap.size + 1, 3, none⟩ = some (.string sy) ∧ W.cell? ⟨w.heap.size + 1, 4, none⟩ = some (.slice ay nly cy)) := Lib.hid (fun W hb => by
            obtain ⟨x0, x1, x2, x3, x4, _, _, _, _, _⟩ := (HX.out.below hb).cells
            obtain ⟨y0, y1, y2, y3, y4, _, _, _, _, _⟩ := (HY.out.below hb).cells
            exact ⟨x0, x1, x2, x3, x4, y0, y1, y2, y3, y4⟩)
          obtain ⟨x0, x1, x2, x3, x4, _, _, _, _, _⟩ := HX.out.cells
          obtain ⟨y0, y1, y2, y3, y4, _, _, _, _, _⟩ := HY.out.cells
          have hxl := HX.out.lt
          have hyl := HY.out.lt
          have HA1 := Lib.hid (fun o => H1.out (v6.alloc o).drew)
          have HA2 := Lib.hid (fun o => H1.out ((v6.alloc (.cells #[.int .u8 0, .int .i64 0, .int .u64 0, .string ⟨#[]⟩, .slice none 0 0] 26)).alloc o).drew)
          have HA3 := Lib.hid (fun o => H1.out ((v6.alloc o).alloc (.cells #[.int .u8 0, .int .i64 0, .int .u64 0, .string ⟨#[]⟩, .slice none 0 0] 26)).drew)
          refine wp_region_held_drew (S := fun W => W.cell? ⟨w.heap.size, 0, none⟩ = some (.int .u8 kx) ∧ W.cell? ⟨w.heap.size, 1, none⟩ = some (.int .i64 nx) ∧ W.cell? ⟨w.heap.size, 2, none⟩ = some (.int .u64 bx) ∧ W.cell? ⟨w.heap.size, 3, none⟩ = some (.string sx) ∧ W.cell? ⟨w.heap.size, 4, none⟩ = some (.slice ax nlx cx) ∧ W.cell? ⟨w.heap.size + 1, 0, none⟩ = some (.int .u8 ky) ∧ W.cell? ⟨w.heap.size + 1, 1, none⟩ = some (.int .i64 ny) ∧ W.cell? ⟨w.heap.size + 1, 2, none⟩ = some (.int .u64 bY) ∧ W.cell? ⟨w.heap.size + 1, 3, none⟩ = some (.string sy) ∧ W.cell? ⟨w.heap.size + 1, 4, none⟩ = some (.slice ay nly cy)) (by kernel_rfl) ?_ (fun hHeld => ?_)
          · (try dsimp only); (first | with_reducible exact ⟨x0, x1, x2, x3, x4, y0, y1, y2, y3, y4⟩ | with_reducible exact HS.out _ BD.out | with_reducible exact HS.out _ (BA.out _) | with_reducible exact HS.out _ (BAA.out _ _) | with_reducible exact HS.out _ hb6 | with_reducible exact HS.out _ (hb6.alloc hb6.size _) | with_reducible exact HS.out _ (below_set5 hb6 (by omega) _ _ _ _ _))
          refine wpAnyH_take (i := 1) (oi := { dst := some 42, op := Op.move (Operand.tmp 8), type := 3, pos := "law.go:110", after := #[], guard := none }) (v := ?_) rfl (by kernel_rfl) (by kernel_rfl) (by kernel_rfl) (fun _ _ _ h => h) (Or.inl ⟨by rfl, ?_⟩) (by assumption) ?_
          rotate_left
          · intro w hSw
            (try dsimp only at hSw)
            go_simp
            try with_reducible rfl
          try simp only [Act.put, List.setIfInBounds_toArray, List.set_cons_zero, List.set_cons_succ]
          refine wpAnyH_take (i := 4) (oi := { dst := some 45, op := Op.load 26 (Operand.tmp 2), type := 26, pos := "law.go:110", after := #[], guard := none }) (v := ?_) rfl (by kernel_rfl) (by kernel_rfl) (by kernel_rfl) (fun _ _ _ h => h) (Or.inl ⟨by rfl, ?_⟩) (by assumption) ?_
          rotate_left
          · intro w hSw
            (try dsimp only at hSw)
            go_simp
            try with_reducible rfl
          try simp only [Act.put, List.setIfInBounds_toArray, List.set_cons_zero, List.set_cons_succ]
          refine wpAnyH_take (i := 5) (oi := { dst := some 46, op := Op.load 26 (Operand.tmp 3), type := 26, pos := "law.go:110", after := #[], guard := none }) (v := ?_) rfl (by kernel_rfl) (by kernel_rfl) (by kernel_rfl) (fun _ _ _ h => h) (Or.inl ⟨by rfl, ?_⟩) (by assumption) ?_
          rotate_left
          · intro w hSw
            (try dsimp only at hSw)
            go_simp
            try with_reducible rfl
          try simp only [Act.put, List.setIfInBounds_toArray, List.set_cons_zero, List.set_cons_succ]
          refine wpAnyH_ready (rs := [0, 10]) (by kernel_rfl) (by simp) ?_
          refine AllReadyH.cons rfl (fun K hK => ?_) ?_
          · go_simp
            refine hK.out _ _ ?_ (fun hHeld => ?_)
            · (try dsimp only); (first | with_reducible exact ⟨x0, x1, x2, x3, x4, y0, y1, y2, y3, y4⟩ | with_reducible exact HS.out _ BD.out | with_reducible exact HS.out _ (BA.out _) | with_reducible exact HS.out _ (BAA.out _ _) | with_reducible exact HS.out _ hb6 | with_reducible exact HS.out _ (hb6.alloc hb6.size _) | with_reducible exact HS.out _ (below_set5 hb6 (by omega) _ _ _ _ _))
            clear hK K
            refine wpAnyH_take (i := 2) (oi := { dst := some 43, op := Op.indexAddr 33 (Operand.tmp 41) (Operand.tmp 42), type := 0, pos := "law.go:110", after := #[{ on := 0, ground := Ground.data }, { on := 1, ground := Ground.data }], guard := none }) (v := ?_) rfl (by kernel_rfl) (by kernel_rfl) (by kernel_rfl) (fun _ _ _ h => h) (Or.inl ⟨by rfl, ?_⟩) (by assumption) ?_
            rotate_left
            · intro w hSw
              (try dsimp only at hSw)
              go_simp
              try with_reducible rfl
            try simp only [Act.put, List.setIfInBounds_toArray, List.set_cons_zero, List.set_cons_succ]
            refine wpAnyH_ready (rs := [3, 10]) (by kernel_rfl) (by simp) ?_
            refine AllReadyH.cons rfl (fun K hK => ?_) ?_
            · go_simp
              refine hK.out _ _ ?_ (fun hHeld => ?_)
              · (try dsimp only); (first | with_reducible exact ⟨x0, x1, x2, x3, x4, y0, y1, y2, y3, y4⟩ | with_reducible exact HS.out _ BD.out | with_reducible exact HS.out _ (BA.out _) | with_reducible exact HS.out _ (BAA.out _ _) | with_reducible exact HS.out _ hb6 | with_reducible exact HS.out _ (hb6.alloc hb6.size _) | with_reducible exact HS.out _ (below_set5 hb6 (by omega) _ _ _ _ _))
              clear hK K
              refine wpAnyH_ready (rs := [6, 10]) (by kernel_rfl) (by simp) ?_
              refine AllReadyH.cons rfl (fun K hK => ?_) ?_
              · go_simp
                go_wp2_with ((go_at_call 9; (first
                  | ((with_reducible refine (HA2.out _).mono ?_); rintro e w41 ⟨k3, n3, b3, t3, is3, hP, rfl, hb5⟩; have hb6 : Below v6.heap.size v6 w41 := (BAA.out _ _).trans (hb5.mono (by simp; omega)); have LA5 := ((P5.new v6 (.int .u8 0) (.int .i64 0) (.int .u64 0) (.string ⟨#[]⟩) (.slice none 0 0)).alloc _).drew.below hb5; obtain ⟨z0, z1, z2, z3, z4, y0, y1, y2, y3, y4⟩ := LA5.cells; obtain ⟨rfl, rfl, rfl, rfl, rfl⟩ := hP.out; unfold litv)
                  | ((with_reducible refine (HA3.out _).mono ?_); rintro e w41 ⟨k3, n3, b3, t3, is3, hP, rfl, hb5⟩; have hb6 : Below v6.heap.size v6 w41 := (BAA.out _ _).trans (hb5.mono (by simp; omega)); have LA5 := (P5.new1 v6 _ (.int .u8 0) (.int .i64 0) (.int .u64 0) (.string ⟨#[]⟩) (.slice none 0 0)).drew.below hb5; obtain ⟨z0, z1, z2, z3, z4, y0, y1, y2, y3, y4⟩ := LA5.cells; obtain ⟨rfl, rfl, rfl, rfl, rfl⟩ := hP.out; unfold litv)
                  | ((with_reducible refine (HA1.out _).mono ?_); rintro e w41 ⟨k3, n3, b3, t3, is3, hP, rfl, hb5⟩; have hb6 : Below v6.heap.size v6 w41 := (BA.out _).trans (hb5.mono (by simp)); obtain ⟨rfl, rfl, rfl, rfl, rfl⟩ := hP.out; unfold litv))))
                refine hK.out _ _ ?_ (fun hHeld => ?_)
                · (try dsimp only); (first | with_reducible exact ⟨x0, x1, x2, x3, x4, y0, y1, y2, y3, y4⟩ | with_reducible exact HS.out _ BD.out | with_reducible exact HS.out _ (BA.out _) | with_reducible exact HS.out _ (BAA.out _ _) | with_reducible exact HS.out _ hb6 | with_reducible exact HS.out _ (hb6.alloc hb6.size _) | with_reducible exact HS.out _ (below_set5 hb6 (by omega) _ _ _ _ _))
                clear hK K
                refine wpAnyH_take (i := 7) (oi := { dst := some 40, op := Op.move (Operand.tmp 47), type := 30, pos := "law.go:110", after := #[{ on := 6, ground := Ground.data }], guard := none }) (v := ?_) rfl (by kernel_rfl) (by kernel_rfl) (by kernel_rfl) (fun _ _ _ h => h) (Or.inl ⟨by rfl, ?_⟩) (by assumption) ?_
                rotate_left
                · intro w hSw
                  (try dsimp only at hSw)
                  go_simp
                  try with_reducible rfl
                try simp only [Act.put, List.setIfInBounds_toArray, List.set_cons_zero, List.set_cons_succ]
                refine wpAnyH_take (i := 8) (oi := { dst := some 48, op := Op.extract (Operand.tmp 40) 0, type := 26, pos := "law.go:110", after := #[{ on := 7, ground := Ground.data }], guard := none }) (v := ?_) rfl (by kernel_rfl) (by kernel_rfl) (by kernel_rfl) (fun _ _ _ h => h) (Or.inl ⟨by rfl, ?_⟩) (by assumption) ?_
                rotate_left
                · intro w hSw
                  (try dsimp only at hSw)
                  go_simp
                  try with_reducible rfl
                try simp only [Act.put, List.setIfInBounds_toArray, List.set_cons_zero, List.set_cons_succ]
                refine wpAnyH_take (i := 9) (oi := { dst := some 49, op := Op.extract (Operand.tmp 40) 1, type := 4, pos := "law.go:110", after := #[{ on := 7, ground := Ground.data }, { on := 11, ground := Ground.gcOnly Departure.lateStores }], guard := none }) (v := ?_) rfl (by kernel_rfl) (by kernel_rfl) (by kernel_rfl) (fun _ _ _ h => h) (Or.inl ⟨by rfl, ?_⟩) (by assumption) ?_
                rotate_left
                · intro w hSw
                  (try dsimp only at hSw)
                  go_simp
                  try with_reducible rfl
                try simp only [Act.put, List.setIfInBounds_toArray, List.set_cons_zero, List.set_cons_succ]
                refine wpAnyH_ready (rs := [10]) (by kernel_rfl) (by simp) ?_
                refine AllReadyH.cons rfl (fun K hK => ?_) ?_
                · go_simp
                  refine hK.out _ _ ?_ (fun hHeld => ?_)
                  · (try dsimp only); (first | with_reducible exact ⟨x0, x1, x2, x3, x4, y0, y1, y2, y3, y4⟩ | with_reducible exact HS.out _ BD.out | with_reducible exact HS.out _ (BA.out _) | with_reducible exact HS.out _ (BAA.out _ _) | with_reducible exact HS.out _ hb6 | with_reducible exact HS.out _ (hb6.alloc hb6.size _) | with_reducible exact HS.out _ (below_set5 hb6 (by omega) _ _ _ _ _))
                  clear hK K
                  refine wpAnyH_ready (rs := [11]) (by kernel_rfl) (by simp) ?_
                  refine AllReadyH.cons rfl (fun K hK => ?_) ?_
                  · go_simp
                    refine hK.out _ _ ?_ (fun hHeld => ?_)
                    · (try dsimp only); (first | with_reducible exact ⟨x0, x1, x2, x3, x4, y0, y1, y2, y3, y4⟩ | with_reducible exact HS.out _ BD.out | with_reducible exact HS.out _ (BA.out _) | with_reducible exact HS.out _ (BAA.out _ _) | with_reducible exact HS.out _ hb6 | with_reducible exact HS.out _ (hb6.alloc hb6.size _) | with_reducible exact HS.out _ (below_set5 hb6 (by omega) _ _ _ _ _))
                    clear hK K
                    refine wpAnyH_take (i := 12) (oi := { dst := some 10, op := Op.assign (Operand.tmp 49), type := 4, pos := "law.go:110", after := #[{ on := 9, ground := Ground.data }, { on := 11, ground := Ground.chain }, { on := 0, ground := Ground.phase }, { on := 1, ground := Ground.phase }, { on := 2, ground := Ground.phase }, { on := 3, ground := Ground.phase }, { on := 4, ground := Ground.phase }, { on := 5, ground := Ground.phase }, { on := 6, ground := Ground.phase }, { on := 7, ground := Ground.phase }, { on := 8, ground := Ground.phase }, { on := 9, ground := Ground.phase }, { on := 10, ground := Ground.phase }, { on := 11, ground := Ground.phase }], guard := none }) (v := ?_) rfl (by kernel_rfl) (by kernel_rfl) (by kernel_rfl) (fun _ _ _ h => h) (Or.inl ⟨by rfl, ?_⟩) (by assumption) ?_
                    rotate_left
                    · intro w hSw
                      (try dsimp only at hSw)
                      go_simp
                      try with_reducible rfl
                    try simp only [Act.put, List.setIfInBounds_toArray, List.set_cons_zero, List.set_cons_succ]
                    refine wpAnyH_done (by kernel_rfl) ?_ _
                    go_wp2_with fail
                    go_meet
                    case rel => first | exact ⟨_, rfl, rfl, LA5.set _ _ _ _ _, below_set5 hb6 (by omega) _ _ _ _ _⟩ | exact ⟨_, rfl, rfl, P5.new w41 _ _ _ _ _, hb6.alloc hb6.size _⟩
                  exact AllReadyH.nil
                exact AllReadyH.nil
              refine AllReadyH.cons rfl (fun K hK => ?_) ?_
              · go_simp
                refine hK.out _ _ ?_ (fun hHeld => ?_)
                · (try dsimp only); (first | with_reducible exact ⟨x0, x1, x2, x3, x4, y0, y1, y2, y3, y4⟩ | with_reducible exact HS.out _ BD.out | with_reducible exact HS.out _ (BA.out _) | with_reducible exact HS.out _ (BAA.out _ _) | with_reducible exact HS.out _ hb6 | with_reducible exact HS.out _ (hb6.alloc hb6.size _) | with_reducible exact HS.out _ (below_set5 hb6 (by omega) _ _ _ _ _))
                clear hK K
                refine wpAnyH_ready (rs := [6]) (by kernel_rfl) (by simp) ?_
                refine AllReadyH.cons rfl (fun K hK => ?_) ?_
                · go_simp
                  go_wp2_with ((go_at_call 9; (first
                    | ((with_reducible refine (HA2.out _).mono ?_); rintro e w41 ⟨k3, n3, b3, t3, is3, hP, rfl, hb5⟩; have hb6 : Below v6.heap.size v6 w41 := (BAA.out _ _).trans (hb5.mono (by simp; omega)); have LA5 := ((P5.new v6 (.int .u8 0) (.int .i64 0) (.int .u64 0) (.string ⟨#[]⟩) (.slice none 0 0)).alloc _).drew.below hb5; obtain ⟨z0, z1, z2, z3, z4, y0, y1, y2, y3, y4⟩ := LA5.cells; obtain ⟨rfl, rfl, rfl, rfl, rfl⟩ := hP.out; unfold litv)
                    | ((with_reducible refine (HA3.out _).mono ?_); rintro e w41 ⟨k3, n3, b3, t3, is3, hP, rfl, hb5⟩; have hb6 : Below v6.heap.size v6 w41 := (BAA.out _ _).trans (hb5.mono (by simp; omega)); have LA5 := (P5.new1 v6 _ (.int .u8 0) (.int .i64 0) (.int .u64 0) (.string ⟨#[]⟩) (.slice none 0 0)).drew.below hb5; obtain ⟨z0, z1, z2, z3, z4, y0, y1, y2, y3, y4⟩ := LA5.cells; obtain ⟨rfl, rfl, rfl, rfl, rfl⟩ := hP.out; unfold litv)
                    | ((with_reducible refine (HA1.out _).mono ?_); rintro e w41 ⟨k3, n3, b3, t3, is3, hP, rfl, hb5⟩; have hb6 : Below v6.heap.size v6 w41 := (BA.out _).trans (hb5.mono (by simp)); obtain ⟨rfl, rfl, rfl, rfl, rfl⟩ := hP.out; unfold litv))))
                  refine hK.out _ _ ?_ (fun hHeld => ?_)
                  · (try dsimp only); (first | with_reducible exact ⟨x0, x1, x2, x3, x4, y0, y1, y2, y3, y4⟩ | with_reducible exact HS.out _ BD.out | with_reducible exact HS.out _ (BA.out _) | with_reducible exact HS.out _ (BAA.out _ _) | with_reducible exact HS.out _ hb6 | with_reducible exact HS.out _ (hb6.alloc hb6.size _) | with_reducible exact HS.out _ (below_set5 hb6 (by omega) _ _ _ _ _))
                  clear hK K
                  refine wpAnyH_take (i := 7) (oi := { dst := some 40, op := Op.move (Operand.tmp 47), type := 30, pos := "law.go:110", after := #[{ on := 6, ground := Ground.data }], guard := none }) (v := ?_) rfl (by kernel_rfl) (by kernel_rfl) (by kernel_rfl) (fun _ _ _ h => h) (Or.inl ⟨by rfl, ?_⟩) (by assumption) ?_
                  rotate_left
                  · intro w hSw
                    (try dsimp only at hSw)
                    go_simp
                    try with_reducible rfl
                  try simp only [Act.put, List.setIfInBounds_toArray, List.set_cons_zero, List.set_cons_succ]
                  refine wpAnyH_take (i := 8) (oi := { dst := some 48, op := Op.extract (Operand.tmp 40) 0, type := 26, pos := "law.go:110", after := #[{ on := 7, ground := Ground.data }], guard := none }) (v := ?_) rfl (by kernel_rfl) (by kernel_rfl) (by kernel_rfl) (fun _ _ _ h => h) (Or.inl ⟨by rfl, ?_⟩) (by assumption) ?_
                  rotate_left
                  · intro w hSw
                    (try dsimp only at hSw)
                    go_simp
                    try with_reducible rfl
                  try simp only [Act.put, List.setIfInBounds_toArray, List.set_cons_zero, List.set_cons_succ]
                  refine wpAnyH_take (i := 9) (oi := { dst := some 49, op := Op.extract (Operand.tmp 40) 1, type := 4, pos := "law.go:110", after := #[{ on := 7, ground := Ground.data }, { on := 11, ground := Ground.gcOnly Departure.lateStores }], guard := none }) (v := ?_) rfl (by kernel_rfl) (by kernel_rfl) (by kernel_rfl) (fun _ _ _ h => h) (Or.inl ⟨by rfl, ?_⟩) (by assumption) ?_
                  rotate_left
                  · intro w hSw
                    (try dsimp only at hSw)
                    go_simp
                    try with_reducible rfl
                  try simp only [Act.put, List.setIfInBounds_toArray, List.set_cons_zero, List.set_cons_succ]
                  refine wpAnyH_ready (rs := [11]) (by kernel_rfl) (by simp) ?_
                  refine AllReadyH.cons rfl (fun K hK => ?_) ?_
                  · go_simp
                    refine hK.out _ _ ?_ (fun hHeld => ?_)
                    · (try dsimp only); (first | with_reducible exact ⟨x0, x1, x2, x3, x4, y0, y1, y2, y3, y4⟩ | with_reducible exact HS.out _ BD.out | with_reducible exact HS.out _ (BA.out _) | with_reducible exact HS.out _ (BAA.out _ _) | with_reducible exact HS.out _ hb6 | with_reducible exact HS.out _ (hb6.alloc hb6.size _) | with_reducible exact HS.out _ (below_set5 hb6 (by omega) _ _ _ _ _))
                    clear hK K
                    refine wpAnyH_take (i := 12) (oi := { dst := some 10, op := Op.assign (Operand.tmp 49), type := 4, pos := "law.go:110", after := #[{ on := 9, ground := Ground.data }, { on := 11, ground := Ground.chain }, { on := 0, ground := Ground.phase }, { on := 1, ground := Ground.phase }, { on := 2, ground := Ground.phase }, { on := 3, ground := Ground.phase }, { on := 4, ground := Ground.phase }, { on := 5, ground := Ground.phase }, { on := 6, ground := Ground.phase }, { on := 7, ground := Ground.phase }, { on := 8, ground := Ground.phase }, { on := 9, ground := Ground.phase }, { on := 10, ground := Ground.phase }, { on := 11, ground := Ground.phase }], guard := none }) (v := ?_) rfl (by kernel_rfl) (by kernel_rfl) (by kernel_rfl) (fun _ _ _ h => h) (Or.inl ⟨by rfl, ?_⟩) (by assumption) ?_
                    rotate_left
                    · intro w hSw
                      (try dsimp only at hSw)
                      go_simp
                      try with_reducible rfl
                    try simp only [Act.put, List.setIfInBounds_toArray, List.set_cons_zero, List.set_cons_succ]
                    refine wpAnyH_done (by kernel_rfl) ?_ _
                    go_wp2_with fail
                    go_meet
                    case rel => first | exact ⟨_, rfl, rfl, LA5.set _ _ _ _ _, below_set5 hb6 (by omega) _ _ _ _ _⟩ | exact ⟨_, rfl, rfl, P5.new w41 _ _ _ _ _, hb6.alloc hb6.size _⟩
                  exact AllReadyH.nil
                exact AllReadyH.nil
              exact AllReadyH.nil
            refine AllReadyH.cons rfl (fun K hK => ?_) ?_
            · go_simp
              refine hK.out _ _ ?_ (fun hHeld => ?_)
              · (try dsimp only); (first | with_reducible exact ⟨x0, x1, x2, x3, x4, y0, y1, y2, y3, y4⟩ | with_reducible exact HS.out _ BD.out | with_reducible exact HS.out _ (BA.out _) | with_reducible exact HS.out _ (BAA.out _ _) | with_reducible exact HS.out _ hb6 | with_reducible exact HS.out _ (hb6.alloc hb6.size _) | with_reducible exact HS.out _ (below_set5 hb6 (by omega) _ _ _ _ _))
              clear hK K
              refine wpAnyH_ready (rs := [3]) (by kernel_rfl) (by simp) ?_
              refine AllReadyH.cons rfl (fun K hK => ?_) ?_
              · go_simp
                refine hK.out _ _ ?_ (fun hHeld => ?_)
                · (try dsimp only); (first | with_reducible exact ⟨x0, x1, x2, x3, x4, y0, y1, y2, y3, y4⟩ | with_reducible exact HS.out _ BD.out | with_reducible exact HS.out _ (BA.out _) | with_reducible exact HS.out _ (BAA.out _ _) | with_reducible exact HS.out _ hb6 | with_reducible exact HS.out _ (hb6.alloc hb6.size _) | with_reducible exact HS.out _ (below_set5 hb6 (by omega) _ _ _ _ _))
                clear hK K
                refine wpAnyH_ready (rs := [6]) (by kernel_rfl) (by simp) ?_
                refine AllReadyH.cons rfl (fun K hK => ?_) ?_
                · go_simp
                  go_wp2_with ((go_at_call 9; (first
                    | ((with_reducible refine (HA2.out _).mono ?_); rintro e w41 ⟨k3, n3, b3, t3, is3, hP, rfl, hb5⟩; have hb6 : Below v6.heap.size v6 w41 := (BAA.out _ _).trans (hb5.mono (by simp; omega)); have LA5 := ((P5.new v6 (.int .u8 0) (.int .i64 0) (.int .u64 0) (.string ⟨#[]⟩) (.slice none 0 0)).alloc _).drew.below hb5; obtain ⟨z0, z1, z2, z3, z4, y0, y1, y2, y3, y4⟩ := LA5.cells; obtain ⟨rfl, rfl, rfl, rfl, rfl⟩ := hP.out; unfold litv)
                    | ((with_reducible refine (HA3.out _).mono ?_); rintro e w41 ⟨k3, n3, b3, t3, is3, hP, rfl, hb5⟩; have hb6 : Below v6.heap.size v6 w41 := (BAA.out _ _).trans (hb5.mono (by simp; omega)); have LA5 := (P5.new1 v6 _ (.int .u8 0) (.int .i64 0) (.int .u64 0) (.string ⟨#[]⟩) (.slice none 0 0)).drew.below hb5; obtain ⟨z0, z1, z2, z3, z4, y0, y1, y2, y3, y4⟩ := LA5.cells; obtain ⟨rfl, rfl, rfl, rfl, rfl⟩ := hP.out; unfold litv)
                    | ((with_reducible refine (HA1.out _).mono ?_); rintro e w41 ⟨k3, n3, b3, t3, is3, hP, rfl, hb5⟩; have hb6 : Below v6.heap.size v6 w41 := (BA.out _).trans (hb5.mono (by simp)); obtain ⟨rfl, rfl, rfl, rfl, rfl⟩ := hP.out; unfold litv))))
                  refine hK.out _ _ ?_ (fun hHeld => ?_)
                  · (try dsimp only); (first | with_reducible exact ⟨x0, x1, x2, x3, x4, y0, y1, y2, y3, y4⟩ | with_reducible exact HS.out _ BD.out | with_reducible exact HS.out _ (BA.out _) | with_reducible exact HS.out _ (BAA.out _ _) | with_reducible exact HS.out _ hb6 | with_reducible exact HS.out _ (hb6.alloc hb6.size _) | with_reducible exact HS.out _ (below_set5 hb6 (by omega) _ _ _ _ _))
                  clear hK K
                  refine wpAnyH_take (i := 7) (oi := { dst := some 40, op := Op.move (Operand.tmp 47), type := 30, pos := "law.go:110", after := #[{ on := 6, ground := Ground.data }], guard := none }) (v := ?_) rfl (by kernel_rfl) (by kernel_rfl) (by kernel_rfl) (fun _ _ _ h => h) (Or.inl ⟨by rfl, ?_⟩) (by assumption) ?_
                  rotate_left
                  · intro w hSw
                    (try dsimp only at hSw)
                    go_simp
                    try with_reducible rfl
                  try simp only [Act.put, List.setIfInBounds_toArray, List.set_cons_zero, List.set_cons_succ]
                  refine wpAnyH_take (i := 8) (oi := { dst := some 48, op := Op.extract (Operand.tmp 40) 0, type := 26, pos := "law.go:110", after := #[{ on := 7, ground := Ground.data }], guard := none }) (v := ?_) rfl (by kernel_rfl) (by kernel_rfl) (by kernel_rfl) (fun _ _ _ h => h) (Or.inl ⟨by rfl, ?_⟩) (by assumption) ?_
                  rotate_left
                  · intro w hSw
                    (try dsimp only at hSw)
                    go_simp
                    try with_reducible rfl
                  try simp only [Act.put, List.setIfInBounds_toArray, List.set_cons_zero, List.set_cons_succ]
                  refine wpAnyH_take (i := 9) (oi := { dst := some 49, op := Op.extract (Operand.tmp 40) 1, type := 4, pos := "law.go:110", after := #[{ on := 7, ground := Ground.data }, { on := 11, ground := Ground.gcOnly Departure.lateStores }], guard := none }) (v := ?_) rfl (by kernel_rfl) (by kernel_rfl) (by kernel_rfl) (fun _ _ _ h => h) (Or.inl ⟨by rfl, ?_⟩) (by assumption) ?_
                  rotate_left
                  · intro w hSw
                    (try dsimp only at hSw)
                    go_simp
                    try with_reducible rfl
                  try simp only [Act.put, List.setIfInBounds_toArray, List.set_cons_zero, List.set_cons_succ]
                  refine wpAnyH_ready (rs := [11]) (by kernel_rfl) (by simp) ?_
                  refine AllReadyH.cons rfl (fun K hK => ?_) ?_
                  · go_simp
                    refine hK.out _ _ ?_ (fun hHeld => ?_)
                    · (try dsimp only); (first | with_reducible exact ⟨x0, x1, x2, x3, x4, y0, y1, y2, y3, y4⟩ | with_reducible exact HS.out _ BD.out | with_reducible exact HS.out _ (BA.out _) | with_reducible exact HS.out _ (BAA.out _ _) | with_reducible exact HS.out _ hb6 | with_reducible exact HS.out _ (hb6.alloc hb6.size _) | with_reducible exact HS.out _ (below_set5 hb6 (by omega) _ _ _ _ _))
                    clear hK K
                    refine wpAnyH_take (i := 12) (oi := { dst := some 10, op := Op.assign (Operand.tmp 49), type := 4, pos := "law.go:110", after := #[{ on := 9, ground := Ground.data }, { on := 11, ground := Ground.chain }, { on := 0, ground := Ground.phase }, { on := 1, ground := Ground.phase }, { on := 2, ground := Ground.phase }, { on := 3, ground := Ground.phase }, { on := 4, ground := Ground.phase }, { on := 5, ground := Ground.phase }, { on := 6, ground := Ground.phase }, { on := 7, ground := Ground.phase }, { on := 8, ground := Ground.phase }, { on := 9, ground := Ground.phase }, { on := 10, ground := Ground.phase }, { on := 11, ground := Ground.phase }], guard := none }) (v := ?_) rfl (by kernel_rfl) (by kernel_rfl) (by kernel_rfl) (fun _ _ _ h => h) (Or.inl ⟨by rfl, ?_⟩) (by assumption) ?_
                    rotate_left
                    · intro w hSw
                      (try dsimp only at hSw)
                      go_simp
                      try with_reducible rfl
                    try simp only [Act.put, List.setIfInBounds_toArray, List.set_cons_zero, List.set_cons_succ]
                    refine wpAnyH_done (by kernel_rfl) ?_ _
                    go_wp2_with fail
                    go_meet
                    case rel => first | exact ⟨_, rfl, rfl, LA5.set _ _ _ _ _, below_set5 hb6 (by omega) _ _ _ _ _⟩ | exact ⟨_, rfl, rfl, P5.new w41 _ _ _ _ _, hb6.alloc hb6.size _⟩
                  exact AllReadyH.nil
                exact AllReadyH.nil
              exact AllReadyH.nil
            exact AllReadyH.nil
          refine AllReadyH.cons rfl (fun K hK => ?_) ?_
          · go_simp
            refine hK.out _ _ ?_ (fun hHeld => ?_)
            · (try dsimp only); (first | with_reducible exact ⟨x0, x1, x2, x3, x4, y0, y1, y2, y3, y4⟩ | with_reducible exact HS.out _ BD.out | with_reducible exact HS.out _ (BA.out _) | with_reducible exact HS.out _ (BAA.out _ _) | with_reducible exact HS.out _ hb6 | with_reducible exact HS.out _ (hb6.alloc hb6.size _) | with_reducible exact HS.out _ (below_set5 hb6 (by omega) _ _ _ _ _))
            clear hK K
            refine wpAnyH_ready (rs := [0]) (by kernel_rfl) (by simp) ?_
            refine AllReadyH.cons rfl (fun K hK => ?_) ?_
            · go_simp
              refine hK.out _ _ ?_ (fun hHeld => ?_)
              · (try dsimp only); (first | with_reducible exact ⟨x0, x1, x2, x3, x4, y0, y1, y2, y3, y4⟩ | with_reducible exact HS.out _ BD.out | with_reducible exact HS.out _ (BA.out _) | with_reducible exact HS.out _ (BAA.out _ _) | with_reducible exact HS.out _ hb6 | with_reducible exact HS.out _ (hb6.alloc hb6.size _) | with_reducible exact HS.out _ (below_set5 hb6 (by omega) _ _ _ _ _))
              clear hK K
              refine wpAnyH_take (i := 2) (oi := { dst := some 43, op := Op.indexAddr 33 (Operand.tmp 41) (Operand.tmp 42), type := 0, pos := "law.go:110", after := #[{ on := 0, ground := Ground.data }, { on := 1, ground := Ground.data }], guard := none }) (v := ?_) rfl (by kernel_rfl) (by kernel_rfl) (by kernel_rfl) (fun _ _ _ h => h) (Or.inl ⟨by rfl, ?_⟩) (by assumption) ?_
              rotate_left
              · intro w hSw
                (try dsimp only at hSw)
                go_simp
                try with_reducible rfl
              try simp only [Act.put, List.setIfInBounds_toArray, List.set_cons_zero, List.set_cons_succ]
              refine wpAnyH_ready (rs := [3]) (by kernel_rfl) (by simp) ?_
              refine AllReadyH.cons rfl (fun K hK => ?_) ?_
              · go_simp
                refine hK.out _ _ ?_ (fun hHeld => ?_)
                · (try dsimp only); (first | with_reducible exact ⟨x0, x1, x2, x3, x4, y0, y1, y2, y3, y4⟩ | with_reducible exact HS.out _ BD.out | with_reducible exact HS.out _ (BA.out _) | with_reducible exact HS.out _ (BAA.out _ _) | with_reducible exact HS.out _ hb6 | with_reducible exact HS.out _ (hb6.alloc hb6.size _) | with_reducible exact HS.out _ (below_set5 hb6 (by omega) _ _ _ _ _))
                clear hK K
                refine wpAnyH_ready (rs := [6]) (by kernel_rfl) (by simp) ?_
                refine AllReadyH.cons rfl (fun K hK => ?_) ?_
                · go_simp
                  go_wp2_with ((go_at_call 9; (first
                    | ((with_reducible refine (HA2.out _).mono ?_); rintro e w41 ⟨k3, n3, b3, t3, is3, hP, rfl, hb5⟩; have hb6 : Below v6.heap.size v6 w41 := (BAA.out _ _).trans (hb5.mono (by simp; omega)); have LA5 := ((P5.new v6 (.int .u8 0) (.int .i64 0) (.int .u64 0) (.string ⟨#[]⟩) (.slice none 0 0)).alloc _).drew.below hb5; obtain ⟨z0, z1, z2, z3, z4, y0, y1, y2, y3, y4⟩ := LA5.cells; obtain ⟨rfl, rfl, rfl, rfl, rfl⟩ := hP.out; unfold litv)
                    | ((with_reducible refine (HA3.out _).mono ?_); rintro e w41 ⟨k3, n3, b3, t3, is3, hP, rfl, hb5⟩; have hb6 : Below v6.heap.size v6 w41 := (BAA.out _ _).trans (hb5.mono (by simp; omega)); have LA5 := (P5.new1 v6 _ (.int .u8 0) (.int .i64 0) (.int .u64 0) (.string ⟨#[]⟩) (.slice none 0 0)).drew.below hb5; obtain ⟨z0, z1, z2, z3, z4, y0, y1, y2, y3, y4⟩ := LA5.cells; obtain ⟨rfl, rfl, rfl, rfl, rfl⟩ := hP.out; unfold litv)
                    | ((with_reducible refine (HA1.out _).mono ?_); rintro e w41 ⟨k3, n3, b3, t3, is3, hP, rfl, hb5⟩; have hb6 : Below v6.heap.size v6 w41 := (BA.out _).trans (hb5.mono (by simp)); obtain ⟨rfl, rfl, rfl, rfl, rfl⟩ := hP.out; unfold litv))))
                  refine hK.out _ _ ?_ (fun hHeld => ?_)
                  · (try dsimp only); (first | with_reducible exact ⟨x0, x1, x2, x3, x4, y0, y1, y2, y3, y4⟩ | with_reducible exact HS.out _ BD.out | with_reducible exact HS.out _ (BA.out _) | with_reducible exact HS.out _ (BAA.out _ _) | with_reducible exact HS.out _ hb6 | with_reducible exact HS.out _ (hb6.alloc hb6.size _) | with_reducible exact HS.out _ (below_set5 hb6 (by omega) _ _ _ _ _))
                  clear hK K
                  refine wpAnyH_take (i := 7) (oi := { dst := some 40, op := Op.move (Operand.tmp 47), type := 30, pos := "law.go:110", after := #[{ on := 6, ground := Ground.data }], guard := none }) (v := ?_) rfl (by kernel_rfl) (by kernel_rfl) (by kernel_rfl) (fun _ _ _ h => h) (Or.inl ⟨by rfl, ?_⟩) (by assumption) ?_
                  rotate_left
                  · intro w hSw
                    (try dsimp only at hSw)
                    go_simp
                    try with_reducible rfl
                  try simp only [Act.put, List.setIfInBounds_toArray, List.set_cons_zero, List.set_cons_succ]
                  refine wpAnyH_take (i := 8) (oi := { dst := some 48, op := Op.extract (Operand.tmp 40) 0, type := 26, pos := "law.go:110", after := #[{ on := 7, ground := Ground.data }], guard := none }) (v := ?_) rfl (by kernel_rfl) (by kernel_rfl) (by kernel_rfl) (fun _ _ _ h => h) (Or.inl ⟨by rfl, ?_⟩) (by assumption) ?_
                  rotate_left
                  · intro w hSw
                    (try dsimp only at hSw)
                    go_simp
                    try with_reducible rfl
                  try simp only [Act.put, List.setIfInBounds_toArray, List.set_cons_zero, List.set_cons_succ]
                  refine wpAnyH_take (i := 9) (oi := { dst := some 49, op := Op.extract (Operand.tmp 40) 1, type := 4, pos := "law.go:110", after := #[{ on := 7, ground := Ground.data }, { on := 11, ground := Ground.gcOnly Departure.lateStores }], guard := none }) (v := ?_) rfl (by kernel_rfl) (by kernel_rfl) (by kernel_rfl) (fun _ _ _ h => h) (Or.inl ⟨by rfl, ?_⟩) (by assumption) ?_
                  rotate_left
                  · intro w hSw
                    (try dsimp only at hSw)
                    go_simp
                    try with_reducible rfl
                  try simp only [Act.put, List.setIfInBounds_toArray, List.set_cons_zero, List.set_cons_succ]
                  refine wpAnyH_ready (rs := [11]) (by kernel_rfl) (by simp) ?_
                  refine AllReadyH.cons rfl (fun K hK => ?_) ?_
                  · go_simp
                    refine hK.out _ _ ?_ (fun hHeld => ?_)
                    · (try dsimp only); (first | with_reducible exact ⟨x0, x1, x2, x3, x4, y0, y1, y2, y3, y4⟩ | with_reducible exact HS.out _ BD.out | with_reducible exact HS.out _ (BA.out _) | with_reducible exact HS.out _ (BAA.out _ _) | with_reducible exact HS.out _ hb6 | with_reducible exact HS.out _ (hb6.alloc hb6.size _) | with_reducible exact HS.out _ (below_set5 hb6 (by omega) _ _ _ _ _))
                    clear hK K
                    refine wpAnyH_take (i := 12) (oi := { dst := some 10, op := Op.assign (Operand.tmp 49), type := 4, pos := "law.go:110", after := #[{ on := 9, ground := Ground.data }, { on := 11, ground := Ground.chain }, { on := 0, ground := Ground.phase }, { on := 1, ground := Ground.phase }, { on := 2, ground := Ground.phase }, { on := 3, ground := Ground.phase }, { on := 4, ground := Ground.phase }, { on := 5, ground := Ground.phase }, { on := 6, ground := Ground.phase }, { on := 7, ground := Ground.phase }, { on := 8, ground := Ground.phase }, { on := 9, ground := Ground.phase }, { on := 10, ground := Ground.phase }, { on := 11, ground := Ground.phase }], guard := none }) (v := ?_) rfl (by kernel_rfl) (by kernel_rfl) (by kernel_rfl) (fun _ _ _ h => h) (Or.inl ⟨by rfl, ?_⟩) (by assumption) ?_
                    rotate_left
                    · intro w hSw
                      (try dsimp only at hSw)
                      go_simp
                      try with_reducible rfl
                    try simp only [Act.put, List.setIfInBounds_toArray, List.set_cons_zero, List.set_cons_succ]
                    refine wpAnyH_done (by kernel_rfl) ?_ _
                    go_wp2_with fail
                    go_meet
                    case rel => first | exact ⟨_, rfl, rfl, LA5.set _ _ _ _ _, below_set5 hb6 (by omega) _ _ _ _ _⟩ | exact ⟨_, rfl, rfl, P5.new w41 _ _ _ _ _, hb6.alloc hb6.size _⟩
                  exact AllReadyH.nil
                exact AllReadyH.nil
              exact AllReadyH.nil
            exact AllReadyH.nil
          exact AllReadyH.nil
        case rest =>
          obtain ⟨kP, rfl, rfl, hK, hb1⟩ := hcut
          have HP := Lib.hid hK
          replace HX := Lib.hid (HX.out.below hb1)
          replace HY := Lib.hid (HY.out.below hb1)
          replace HW := Lib.hid (HW.out.trans (hb1.mono HW.out.size))
          replace HWR := Lib.hid (HWR.out.trans (hb1.mono HWR.out.size))
          clear hb1 hK
          obtain ⟨v7, hvn⟩ : ∃ x, x = wc := ⟨wc, rfl⟩
          subst hvn
          go_upto_region 10 with fail
          go_cut [11, 12] from 36 to 79 (fun s9 s10 wx => ∃ k, s9 = .pointer (some ⟨k, 0, none⟩) ∧ s10 = .bool true ∧ P5 wx k (.int .u8 kr) (.int .i64 0) (.int .u64 0) (.string ⟨#[]⟩) (.slice none 0 0) ∧ Below v7.heap.size v7 wx)
          case first =>
            have BD := Lib.hid (show Below v7.heap.size v7 v7.drew from (Below.refl _ v7).drew)
            have BA := Lib.hid (show ∀ o, Below v7.heap.size v7 (v7.alloc o).drew from fun o => ((Below.refl _ v7).alloc (Nat.le_refl _) o).drew)
            have BAA := Lib.hid (show ∀ o o', Below v7.heap.size v7 ((v7.alloc o).alloc o').drew from fun o o' => (((Below.refl _ v7).alloc (Nat.le_refl _) o).alloc (by simp) o').drew)
            have HS : Hid (∀ W, Below v7.heap.size v7 W → W.cell? ⟨w.heap.size, 0, none⟩ = some (.int .u8 kx) ∧ W.cell? ⟨w.heap.size, 1, none⟩ = some (.int .i64 nx) ∧ W.cell? ⟨w.heap.size, 2, none⟩ = some (.int .u64 bx) ∧ W.cell? ⟨w.heap.size, 3, none⟩ = some (.string sx) ∧ W.cell? ⟨w.heap.size, 4, none⟩ = some (.slice ax nlx cx) ∧ W.cell? ⟨w.heap.size + 1, 0, none⟩ = some (.int .u8 ky) ∧ W.cell? ⟨w.heap.size + 1, 1, none⟩ = some (.int .i64 ny) ∧ W.cell? ⟨w.heap.size + 1, 2, none⟩ = some (.int .u64 bY) ∧ W.cell? ⟨w.heap.size + 1, 3, none⟩ = some (.string sy) ∧ W.cell? ⟨w.heap.size + 1, 4, none⟩ = some (.slice ay nly cy)) := Lib.hid (fun W hb => by
              obtain ⟨x0, x1, x2, x3, x4, _, _, _, _, _⟩ := (HX.out.below hb).cells
              obtain ⟨y0, y1, y2, y3, y4, _, _, _, _, _⟩ := (HY.out.below hb).cells
              exact ⟨x0, x1, x2, x3, x4, y0, y1, y2, y3, y4⟩)
            obtain ⟨x0, x1, x2, x3, x4, _, _, _, _, _⟩ := HX.out.cells
            obtain ⟨y0, y1, y2, y3, y4, _, _, _, _, _⟩ := HY.out.cells
            have hxl := HX.out.lt
            have hyl := HY.out.lt
            have HA1 := Lib.hid (fun o => H2.out (v7.alloc o).drew)
            have HA2 := Lib.hid (fun o => H2.out ((v7.alloc (.cells #[.int .u8 0, .int .i64 0, .int .u64 0, .string ⟨#[]⟩, .slice none 0 0] 26)).alloc o).drew)
            have HA3 := Lib.hid (fun o => H2.out ((v7.alloc o).alloc (.cells #[.int .u8 0, .int .i64 0, .int .u64 0, .string ⟨#[]⟩, .slice none 0 0] 26)).drew)
            refine wp_region_held_drew (S := fun W => W.cell? ⟨w.heap.size, 0, none⟩ = some (.int .u8 kx) ∧ W.cell? ⟨w.heap.size, 1, none⟩ = some (.int .i64 nx) ∧ W.cell? ⟨w.heap.size, 2, none⟩ = some (.int .u64 bx) ∧ W.cell? ⟨w.heap.size, 3, none⟩ = some (.string sx) ∧ W.cell? ⟨w.heap.size, 4, none⟩ = some (.slice ax nlx cx) ∧ W.cell? ⟨w.heap.size + 1, 0, none⟩ = some (.int .u8 ky) ∧ W.cell? ⟨w.heap.size + 1, 1, none⟩ = some (.int .i64 ny) ∧ W.cell? ⟨w.heap.size + 1, 2, none⟩ = some (.int .u64 bY) ∧ W.cell? ⟨w.heap.size + 1, 3, none⟩ = some (.string sy) ∧ W.cell? ⟨w.heap.size + 1, 4, none⟩ = some (.slice ay nly cy)) (by kernel_rfl) ?_ (fun hHeld => ?_)
            · (try dsimp only); (first | with_reducible exact ⟨x0, x1, x2, x3, x4, y0, y1, y2, y3, y4⟩ | with_reducible exact HS.out _ BD.out | with_reducible exact HS.out _ (BA.out _) | with_reducible exact HS.out _ (BAA.out _ _) | with_reducible exact HS.out _ hb6 | with_reducible exact HS.out _ (hb6.alloc hb6.size _) | with_reducible exact HS.out _ (below_set5 hb6 (by omega) _ _ _ _ _))
            refine wpAnyH_take (i := 1) (oi := { dst := some 52, op := Op.move (Operand.tmp 8), type := 3, pos := "law.go:111", after := #[], guard := none }) (v := ?_) rfl (by kernel_rfl) (by kernel_rfl) (by kernel_rfl) (fun _ _ _ h => h) (Or.inl ⟨by rfl, ?_⟩) (by assumption) ?_
            rotate_left
            · intro w hSw
              (try dsimp only at hSw)
              go_simp
              try with_reducible rfl
            try simp only [Act.put, List.setIfInBounds_toArray, List.set_cons_zero, List.set_cons_succ]
            refine wpAnyH_take (i := 4) (oi := { dst := some 55, op := Op.load 26 (Operand.tmp 2), type := 26, pos := "law.go:111", after := #[], guard := none }) (v := ?_) rfl (by kernel_rfl) (by kernel_rfl) (by kernel_rfl) (fun _ _ _ h => h) (Or.inl ⟨by rfl, ?_⟩) (by assumption) ?_
            rotate_left
            · intro w hSw
              (try dsimp only at hSw)
              go_simp
              try with_reducible rfl
            try simp only [Act.put, List.setIfInBounds_toArray, List.set_cons_zero, List.set_cons_succ]
            refine wpAnyH_take (i := 5) (oi := { dst := some 56, op := Op.load 26 (Operand.tmp 3), type := 26, pos := "law.go:111", after := #[], guard := none }) (v := ?_) rfl (by kernel_rfl) (by kernel_rfl) (by kernel_rfl) (fun _ _ _ h => h) (Or.inl ⟨by rfl, ?_⟩) (by assumption) ?_
            rotate_left
            · intro w hSw
              (try dsimp only at hSw)
              go_simp
              try with_reducible rfl
            try simp only [Act.put, List.setIfInBounds_toArray, List.set_cons_zero, List.set_cons_succ]
            refine wpAnyH_ready (rs := [0, 10]) (by kernel_rfl) (by simp) ?_
            refine AllReadyH.cons rfl (fun K hK => ?_) ?_
            · go_simp
              refine hK.out _ _ ?_ (fun hHeld => ?_)
              · (try dsimp only); (first | with_reducible exact ⟨x0, x1, x2, x3, x4, y0, y1, y2, y3, y4⟩ | with_reducible exact HS.out _ BD.out | with_reducible exact HS.out _ (BA.out _) | with_reducible exact HS.out _ (BAA.out _ _) | with_reducible exact HS.out _ hb6 | with_reducible exact HS.out _ (hb6.alloc hb6.size _) | with_reducible exact HS.out _ (below_set5 hb6 (by omega) _ _ _ _ _))
              clear hK K
              refine wpAnyH_take (i := 2) (oi := { dst := some 53, op := Op.indexAddr 33 (Operand.tmp 51) (Operand.tmp 52), type := 0, pos := "law.go:111", after := #[{ on := 0, ground := Ground.data }, { on := 1, ground := Ground.data }], guard := none }) (v := ?_) rfl (by kernel_rfl) (by kernel_rfl) (by kernel_rfl) (fun _ _ _ h => h) (Or.inl ⟨by rfl, ?_⟩) (by assumption) ?_
              rotate_left
              · intro w hSw
                (try dsimp only at hSw)
                go_simp
                try with_reducible rfl
              try simp only [Act.put, List.setIfInBounds_toArray, List.set_cons_zero, List.set_cons_succ]
              refine wpAnyH_ready (rs := [3, 10]) (by kernel_rfl) (by simp) ?_
              refine AllReadyH.cons rfl (fun K hK => ?_) ?_
              · go_simp
                refine hK.out _ _ ?_ (fun hHeld => ?_)
                · (try dsimp only); (first | with_reducible exact ⟨x0, x1, x2, x3, x4, y0, y1, y2, y3, y4⟩ | with_reducible exact HS.out _ BD.out | with_reducible exact HS.out _ (BA.out _) | with_reducible exact HS.out _ (BAA.out _ _) | with_reducible exact HS.out _ hb6 | with_reducible exact HS.out _ (hb6.alloc hb6.size _) | with_reducible exact HS.out _ (below_set5 hb6 (by omega) _ _ _ _ _))
                clear hK K
                refine wpAnyH_ready (rs := [6, 10]) (by kernel_rfl) (by simp) ?_
                refine AllReadyH.cons rfl (fun K hK => ?_) ?_
                · go_simp
                  go_wp2_with ((go_at_call 9; (first
                    | ((with_reducible refine (HA2.out _).mono ?_); rintro e w41 ⟨k3, n3, b3, t3, is3, hP, rfl, hb5⟩; have hb6 : Below v7.heap.size v7 w41 := (BAA.out _ _).trans (hb5.mono (by simp; omega)); have LA5 := ((P5.new v7 (.int .u8 0) (.int .i64 0) (.int .u64 0) (.string ⟨#[]⟩) (.slice none 0 0)).alloc _).drew.below hb5; obtain ⟨z0, z1, z2, z3, z4, y0, y1, y2, y3, y4⟩ := LA5.cells; obtain ⟨rfl, rfl, rfl, rfl, rfl⟩ := hP.out; unfold litv)
                    | ((with_reducible refine (HA3.out _).mono ?_); rintro e w41 ⟨k3, n3, b3, t3, is3, hP, rfl, hb5⟩; have hb6 : Below v7.heap.size v7 w41 := (BAA.out _ _).trans (hb5.mono (by simp; omega)); have LA5 := (P5.new1 v7 _ (.int .u8 0) (.int .i64 0) (.int .u64 0) (.string ⟨#[]⟩) (.slice none 0 0)).drew.below hb5; obtain ⟨z0, z1, z2, z3, z4, y0, y1, y2, y3, y4⟩ := LA5.cells; obtain ⟨rfl, rfl, rfl, rfl, rfl⟩ := hP.out; unfold litv)
                    | ((with_reducible refine (HA1.out _).mono ?_); rintro e w41 ⟨k3, n3, b3, t3, is3, hP, rfl, hb5⟩; have hb6 : Below v7.heap.size v7 w41 := (BA.out _).trans (hb5.mono (by simp)); obtain ⟨rfl, rfl, rfl, rfl, rfl⟩ := hP.out; unfold litv))))
                  refine hK.out _ _ ?_ (fun hHeld => ?_)
                  · (try dsimp only); (first | with_reducible exact ⟨x0, x1, x2, x3, x4, y0, y1, y2, y3, y4⟩ | with_reducible exact HS.out _ BD.out | with_reducible exact HS.out _ (BA.out _) | with_reducible exact HS.out _ (BAA.out _ _) | with_reducible exact HS.out _ hb6 | with_reducible exact HS.out _ (hb6.alloc hb6.size _) | with_reducible exact HS.out _ (below_set5 hb6 (by omega) _ _ _ _ _))
                  clear hK K
                  refine wpAnyH_take (i := 7) (oi := { dst := some 50, op := Op.move (Operand.tmp 57), type := 30, pos := "law.go:111", after := #[{ on := 6, ground := Ground.data }], guard := none }) (v := ?_) rfl (by kernel_rfl) (by kernel_rfl) (by kernel_rfl) (fun _ _ _ h => h) (Or.inl ⟨by rfl, ?_⟩) (by assumption) ?_
                  rotate_left
                  · intro w hSw
                    (try dsimp only at hSw)
                    go_simp
                    try with_reducible rfl
                  try simp only [Act.put, List.setIfInBounds_toArray, List.set_cons_zero, List.set_cons_succ]
                  refine wpAnyH_take (i := 8) (oi := { dst := some 58, op := Op.extract (Operand.tmp 50) 0, type := 26, pos := "law.go:111", after := #[{ on := 7, ground := Ground.data }], guard := none }) (v := ?_) rfl (by kernel_rfl) (by kernel_rfl) (by kernel_rfl) (fun _ _ _ h => h) (Or.inl ⟨by rfl, ?_⟩) (by assumption) ?_
                  rotate_left
                  · intro w hSw
                    (try dsimp only at hSw)
                    go_simp
                    try with_reducible rfl
                  try simp only [Act.put, List.setIfInBounds_toArray, List.set_cons_zero, List.set_cons_succ]
                  refine wpAnyH_take (i := 9) (oi := { dst := some 59, op := Op.extract (Operand.tmp 50) 1, type := 4, pos := "law.go:111", after := #[{ on := 7, ground := Ground.data }, { on := 11, ground := Ground.gcOnly Departure.lateStores }], guard := none }) (v := ?_) rfl (by kernel_rfl) (by kernel_rfl) (by kernel_rfl) (fun _ _ _ h => h) (Or.inl ⟨by rfl, ?_⟩) (by assumption) ?_
                  rotate_left
                  · intro w hSw
                    (try dsimp only at hSw)
                    go_simp
                    try with_reducible rfl
                  try simp only [Act.put, List.setIfInBounds_toArray, List.set_cons_zero, List.set_cons_succ]
                  refine wpAnyH_ready (rs := [10]) (by kernel_rfl) (by simp) ?_
                  refine AllReadyH.cons rfl (fun K hK => ?_) ?_
                  · go_simp
                    refine hK.out _ _ ?_ (fun hHeld => ?_)
                    · (try dsimp only); (first | with_reducible exact ⟨x0, x1, x2, x3, x4, y0, y1, y2, y3, y4⟩ | with_reducible exact HS.out _ BD.out | with_reducible exact HS.out _ (BA.out _) | with_reducible exact HS.out _ (BAA.out _ _) | with_reducible exact HS.out _ hb6 | with_reducible exact HS.out _ (hb6.alloc hb6.size _) | with_reducible exact HS.out _ (below_set5 hb6 (by omega) _ _ _ _ _))
                    clear hK K
                    refine wpAnyH_ready (rs := [11]) (by kernel_rfl) (by simp) ?_
                    refine AllReadyH.cons rfl (fun K hK => ?_) ?_
                    · go_simp
                      refine hK.out _ _ ?_ (fun hHeld => ?_)
                      · (try dsimp only); (first | with_reducible exact ⟨x0, x1, x2, x3, x4, y0, y1, y2, y3, y4⟩ | with_reducible exact HS.out _ BD.out | with_reducible exact HS.out _ (BA.out _) | with_reducible exact HS.out _ (BAA.out _ _) | with_reducible exact HS.out _ hb6 | with_reducible exact HS.out _ (hb6.alloc hb6.size _) | with_reducible exact HS.out _ (below_set5 hb6 (by omega) _ _ _ _ _))
                      clear hK K
                      refine wpAnyH_take (i := 12) (oi := { dst := some 12, op := Op.assign (Operand.tmp 59), type := 4, pos := "law.go:111", after := #[{ on := 9, ground := Ground.data }, { on := 11, ground := Ground.chain }, { on := 0, ground := Ground.phase }, { on := 1, ground := Ground.phase }, { on := 2, ground := Ground.phase }, { on := 3, ground := Ground.phase }, { on := 4, ground := Ground.phase }, { on := 5, ground := Ground.phase }, { on := 6, ground := Ground.phase }, { on := 7, ground := Ground.phase }, { on := 8, ground := Ground.phase }, { on := 9, ground := Ground.phase }, { on := 10, ground := Ground.phase }, { on := 11, ground := Ground.phase }], guard := none }) (v := ?_) rfl (by kernel_rfl) (by kernel_rfl) (by kernel_rfl) (fun _ _ _ h => h) (Or.inl ⟨by rfl, ?_⟩) (by assumption) ?_
                      rotate_left
                      · intro w hSw
                        (try dsimp only at hSw)
                        go_simp
                        try with_reducible rfl
                      try simp only [Act.put, List.setIfInBounds_toArray, List.set_cons_zero, List.set_cons_succ]
                      refine wpAnyH_done (by kernel_rfl) ?_ _
                      go_wp2_with fail
                      go_meet
                      case rel => first | exact ⟨_, rfl, rfl, LA5.set _ _ _ _ _, below_set5 hb6 (by omega) _ _ _ _ _⟩ | exact ⟨_, rfl, rfl, P5.new w41 _ _ _ _ _, hb6.alloc hb6.size _⟩
                    exact AllReadyH.nil
                  exact AllReadyH.nil
                refine AllReadyH.cons rfl (fun K hK => ?_) ?_
                · go_simp
                  refine hK.out _ _ ?_ (fun hHeld => ?_)
                  · (try dsimp only); (first | with_reducible exact ⟨x0, x1, x2, x3, x4, y0, y1, y2, y3, y4⟩ | with_reducible exact HS.out _ BD.out | with_reducible exact HS.out _ (BA.out _) | with_reducible exact HS.out _ (BAA.out _ _) | with_reducible exact HS.out _ hb6 | with_reducible exact HS.out _ (hb6.alloc hb6.size _) | with_reducible exact HS.out _ (below_set5 hb6 (by omega) _ _ _ _ _))
                  clear hK K
                  refine wpAnyH_ready (rs := [6]) (by kernel_rfl) (by simp) ?_
                  refine AllReadyH.cons rfl (fun K hK => ?_) ?_
                  · go_simp
                    go_wp2_with ((go_at_call 9; (first
                      | ((with_reducible refine (HA2.out _).mono ?_); rintro e w41 ⟨k3, n3, b3, t3, is3, hP, rfl, hb5⟩; have hb6 : Below v7.heap.size v7 w41 := (BAA.out _ _).trans (hb5.mono (by simp; omega)); have LA5 := ((P5.new v7 (.int .u8 0) (.int .i64 0) (.int .u64 0) (.string ⟨#[]⟩) (.slice none 0 0)).alloc _).drew.below hb5; obtain ⟨z0, z1, z2, z3, z4, y0, y1, y2, y3, y4⟩ := LA5.cells; obtain ⟨rfl, rfl, rfl, rfl, rfl⟩ := hP.out; unfold litv)
                      | ((with_reducible refine (HA3.out _).mono ?_); rintro e w41 ⟨k3, n3, b3, t3, is3, hP, rfl, hb5⟩; have hb6 : Below v7.heap.size v7 w41 := (BAA.out _ _).trans (hb5.mono (by simp; omega)); have LA5 := (P5.new1 v7 _ (.int .u8 0) (.int .i64 0) (.int .u64 0) (.string ⟨#[]⟩) (.slice none 0 0)).drew.below hb5; obtain ⟨z0, z1, z2, z3, z4, y0, y1, y2, y3, y4⟩ := LA5.cells; obtain ⟨rfl, rfl, rfl, rfl, rfl⟩ := hP.out; unfold litv)
                      | ((with_reducible refine (HA1.out _).mono ?_); rintro e w41 ⟨k3, n3, b3, t3, is3, hP, rfl, hb5⟩; have hb6 : Below v7.heap.size v7 w41 := (BA.out _).trans (hb5.mono (by simp)); obtain ⟨rfl, rfl, rfl, rfl, rfl⟩ := hP.out; unfold litv))))
                    refine hK.out _ _ ?_ (fun hHeld => ?_)
                    · (try dsimp only); (first | with_reducible exact ⟨x0, x1, x2, x3, x4, y0, y1, y2, y3, y4⟩ | with_reducible exact HS.out _ BD.out | with_reducible exact HS.out _ (BA.out _) | with_reducible exact HS.out _ (BAA.out _ _) | with_reducible exact HS.out _ hb6 | with_reducible exact HS.out _ (hb6.alloc hb6.size _) | with_reducible exact HS.out _ (below_set5 hb6 (by omega) _ _ _ _ _))
                    clear hK K
                    refine wpAnyH_take (i := 7) (oi := { dst := some 50, op := Op.move (Operand.tmp 57), type := 30, pos := "law.go:111", after := #[{ on := 6, ground := Ground.data }], guard := none }) (v := ?_) rfl (by kernel_rfl) (by kernel_rfl) (by kernel_rfl) (fun _ _ _ h => h) (Or.inl ⟨by rfl, ?_⟩) (by assumption) ?_
                    rotate_left
                    · intro w hSw
                      (try dsimp only at hSw)
                      go_simp
                      try with_reducible rfl
                    try simp only [Act.put, List.setIfInBounds_toArray, List.set_cons_zero, List.set_cons_succ]
                    refine wpAnyH_take (i := 8) (oi := { dst := some 58, op := Op.extract (Operand.tmp 50) 0, type := 26, pos := "law.go:111", after := #[{ on := 7, ground := Ground.data }], guard := none }) (v := ?_) rfl (by kernel_rfl) (by kernel_rfl) (by kernel_rfl) (fun _ _ _ h => h) (Or.inl ⟨by rfl, ?_⟩) (by assumption) ?_
                    rotate_left
                    · intro w hSw
                      (try dsimp only at hSw)
                      go_simp
                      try with_reducible rfl
                    try simp only [Act.put, List.setIfInBounds_toArray, List.set_cons_zero, List.set_cons_succ]
                    refine wpAnyH_take (i := 9) (oi := { dst := some 59, op := Op.extract (Operand.tmp 50) 1, type := 4, pos := "law.go:111", after := #[{ on := 7, ground := Ground.data }, { on := 11, ground := Ground.gcOnly Departure.lateStores }], guard := none }) (v := ?_) rfl (by kernel_rfl) (by kernel_rfl) (by kernel_rfl) (fun _ _ _ h => h) (Or.inl ⟨by rfl, ?_⟩) (by assumption) ?_
                    rotate_left
                    · intro w hSw
                      (try dsimp only at hSw)
                      go_simp
                      try with_reducible rfl
                    try simp only [Act.put, List.setIfInBounds_toArray, List.set_cons_zero, List.set_cons_succ]
                    refine wpAnyH_ready (rs := [11]) (by kernel_rfl) (by simp) ?_
                    refine AllReadyH.cons rfl (fun K hK => ?_) ?_
                    · go_simp
                      refine hK.out _ _ ?_ (fun hHeld => ?_)
                      · (try dsimp only); (first | with_reducible exact ⟨x0, x1, x2, x3, x4, y0, y1, y2, y3, y4⟩ | with_reducible exact HS.out _ BD.out | with_reducible exact HS.out _ (BA.out _) | with_reducible exact HS.out _ (BAA.out _ _) | with_reducible exact HS.out _ hb6 | with_reducible exact HS.out _ (hb6.alloc hb6.size _) | with_reducible exact HS.out _ (below_set5 hb6 (by omega) _ _ _ _ _))
                      clear hK K
                      refine wpAnyH_take (i := 12) (oi := { dst := some 12, op := Op.assign (Operand.tmp 59), type := 4, pos := "law.go:111", after := #[{ on := 9, ground := Ground.data }, { on := 11, ground := Ground.chain }, { on := 0, ground := Ground.phase }, { on := 1, ground := Ground.phase }, { on := 2, ground := Ground.phase }, { on := 3, ground := Ground.phase }, { on := 4, ground := Ground.phase }, { on := 5, ground := Ground.phase }, { on := 6, ground := Ground.phase }, { on := 7, ground := Ground.phase }, { on := 8, ground := Ground.phase }, { on := 9, ground := Ground.phase }, { on := 10, ground := Ground.phase }, { on := 11, ground := Ground.phase }], guard := none }) (v := ?_) rfl (by kernel_rfl) (by kernel_rfl) (by kernel_rfl) (fun _ _ _ h => h) (Or.inl ⟨by rfl, ?_⟩) (by assumption) ?_
                      rotate_left
                      · intro w hSw
                        (try dsimp only at hSw)
                        go_simp
                        try with_reducible rfl
                      try simp only [Act.put, List.setIfInBounds_toArray, List.set_cons_zero, List.set_cons_succ]
                      refine wpAnyH_done (by kernel_rfl) ?_ _
                      go_wp2_with fail
                      go_meet
                      case rel => first | exact ⟨_, rfl, rfl, LA5.set _ _ _ _ _, below_set5 hb6 (by omega) _ _ _ _ _⟩ | exact ⟨_, rfl, rfl, P5.new w41 _ _ _ _ _, hb6.alloc hb6.size _⟩
                    exact AllReadyH.nil
                  exact AllReadyH.nil
                exact AllReadyH.nil
              refine AllReadyH.cons rfl (fun K hK => ?_) ?_
              · go_simp
                refine hK.out _ _ ?_ (fun hHeld => ?_)
                · (try dsimp only); (first | with_reducible exact ⟨x0, x1, x2, x3, x4, y0, y1, y2, y3, y4⟩ | with_reducible exact HS.out _ BD.out | with_reducible exact HS.out _ (BA.out _) | with_reducible exact HS.out _ (BAA.out _ _) | with_reducible exact HS.out _ hb6 | with_reducible exact HS.out _ (hb6.alloc hb6.size _) | with_reducible exact HS.out _ (below_set5 hb6 (by omega) _ _ _ _ _))
                clear hK K
                refine wpAnyH_ready (rs := [3]) (by kernel_rfl) (by simp) ?_
                refine AllReadyH.cons rfl (fun K hK => ?_) ?_
                · go_simp
                  refine hK.out _ _ ?_ (fun hHeld => ?_)
                  · (try dsimp only); (first | with_reducible exact ⟨x0, x1, x2, x3, x4, y0, y1, y2, y3, y4⟩ | with_reducible exact HS.out _ BD.out | with_reducible exact HS.out _ (BA.out _) | with_reducible exact HS.out _ (BAA.out _ _) | with_reducible exact HS.out _ hb6 | with_reducible exact HS.out _ (hb6.alloc hb6.size _) | with_reducible exact HS.out _ (below_set5 hb6 (by omega) _ _ _ _ _))
                  clear hK K
                  refine wpAnyH_ready (rs := [6]) (by kernel_rfl) (by simp) ?_
                  refine AllReadyH.cons rfl (fun K hK => ?_) ?_
                  · go_simp
                    go_wp2_with ((go_at_call 9; (first
                      | ((with_reducible refine (HA2.out _).mono ?_); rintro e w41 ⟨k3, n3, b3, t3, is3, hP, rfl, hb5⟩; have hb6 : Below v7.heap.size v7 w41 := (BAA.out _ _).trans (hb5.mono (by simp; omega)); have LA5 := ((P5.new v7 (.int .u8 0) (.int .i64 0) (.int .u64 0) (.string ⟨#[]⟩) (.slice none 0 0)).alloc _).drew.below hb5; obtain ⟨z0, z1, z2, z3, z4, y0, y1, y2, y3, y4⟩ := LA5.cells; obtain ⟨rfl, rfl, rfl, rfl, rfl⟩ := hP.out; unfold litv)
                      | ((with_reducible refine (HA3.out _).mono ?_); rintro e w41 ⟨k3, n3, b3, t3, is3, hP, rfl, hb5⟩; have hb6 : Below v7.heap.size v7 w41 := (BAA.out _ _).trans (hb5.mono (by simp; omega)); have LA5 := (P5.new1 v7 _ (.int .u8 0) (.int .i64 0) (.int .u64 0) (.string ⟨#[]⟩) (.slice none 0 0)).drew.below hb5; obtain ⟨z0, z1, z2, z3, z4, y0, y1, y2, y3, y4⟩ := LA5.cells; obtain ⟨rfl, rfl, rfl, rfl, rfl⟩ := hP.out; unfold litv)
                      | ((with_reducible refine (HA1.out _).mono ?_); rintro e w41 ⟨k3, n3, b3, t3, is3, hP, rfl, hb5⟩; have hb6 : Below v7.heap.size v7 w41 := (BA.out _).trans (hb5.mono (by simp)); obtain ⟨rfl, rfl, rfl, rfl, rfl⟩ := hP.out; unfold litv))))
                    refine hK.out _ _ ?_ (fun hHeld => ?_)
                    · (try dsimp only); (first | with_reducible exact ⟨x0, x1, x2, x3, x4, y0, y1, y2, y3, y4⟩ | with_reducible exact HS.out _ BD.out | with_reducible exact HS.out _ (BA.out _) | with_reducible exact HS.out _ (BAA.out _ _) | with_reducible exact HS.out _ hb6 | with_reducible exact HS.out _ (hb6.alloc hb6.size _) | with_reducible exact HS.out _ (below_set5 hb6 (by omega) _ _ _ _ _))
                    clear hK K
                    refine wpAnyH_take (i := 7) (oi := { dst := some 50, op := Op.move (Operand.tmp 57), type := 30, pos := "law.go:111", after := #[{ on := 6, ground := Ground.data }], guard := none }) (v := ?_) rfl (by kernel_rfl) (by kernel_rfl) (by kernel_rfl) (fun _ _ _ h => h) (Or.inl ⟨by rfl, ?_⟩) (by assumption) ?_
                    rotate_left
                    · intro w hSw
                      (try dsimp only at hSw)
                      go_simp
                      try with_reducible rfl
                    try simp only [Act.put, List.setIfInBounds_toArray, List.set_cons_zero, List.set_cons_succ]
                    refine wpAnyH_take (i := 8) (oi := { dst := some 58, op := Op.extract (Operand.tmp 50) 0, type := 26, pos := "law.go:111", after := #[{ on := 7, ground := Ground.data }], guard := none }) (v := ?_) rfl (by kernel_rfl) (by kernel_rfl) (by kernel_rfl) (fun _ _ _ h => h) (Or.inl ⟨by rfl, ?_⟩) (by assumption) ?_
                    rotate_left
                    · intro w hSw
                      (try dsimp only at hSw)
                      go_simp
                      try with_reducible rfl
                    try simp only [Act.put, List.setIfInBounds_toArray, List.set_cons_zero, List.set_cons_succ]
                    refine wpAnyH_take (i := 9) (oi := { dst := some 59, op := Op.extract (Operand.tmp 50) 1, type := 4, pos := "law.go:111", after := #[{ on := 7, ground := Ground.data }, { on := 11, ground := Ground.gcOnly Departure.lateStores }], guard := none }) (v := ?_) rfl (by kernel_rfl) (by kernel_rfl) (by kernel_rfl) (fun _ _ _ h => h) (Or.inl ⟨by rfl, ?_⟩) (by assumption) ?_
                    rotate_left
                    · intro w hSw
                      (try dsimp only at hSw)
                      go_simp
                      try with_reducible rfl
                    try simp only [Act.put, List.setIfInBounds_toArray, List.set_cons_zero, List.set_cons_succ]
                    refine wpAnyH_ready (rs := [11]) (by kernel_rfl) (by simp) ?_
                    refine AllReadyH.cons rfl (fun K hK => ?_) ?_
                    · go_simp
                      refine hK.out _ _ ?_ (fun hHeld => ?_)
                      · (try dsimp only); (first | with_reducible exact ⟨x0, x1, x2, x3, x4, y0, y1, y2, y3, y4⟩ | with_reducible exact HS.out _ BD.out | with_reducible exact HS.out _ (BA.out _) | with_reducible exact HS.out _ (BAA.out _ _) | with_reducible exact HS.out _ hb6 | with_reducible exact HS.out _ (hb6.alloc hb6.size _) | with_reducible exact HS.out _ (below_set5 hb6 (by omega) _ _ _ _ _))
                      clear hK K
                      refine wpAnyH_take (i := 12) (oi := { dst := some 12, op := Op.assign (Operand.tmp 59), type := 4, pos := "law.go:111", after := #[{ on := 9, ground := Ground.data }, { on := 11, ground := Ground.chain }, { on := 0, ground := Ground.phase }, { on := 1, ground := Ground.phase }, { on := 2, ground := Ground.phase }, { on := 3, ground := Ground.phase }, { on := 4, ground := Ground.phase }, { on := 5, ground := Ground.phase }, { on := 6, ground := Ground.phase }, { on := 7, ground := Ground.phase }, { on := 8, ground := Ground.phase }, { on := 9, ground := Ground.phase }, { on := 10, ground := Ground.phase }, { on := 11, ground := Ground.phase }], guard := none }) (v := ?_) rfl (by kernel_rfl) (by kernel_rfl) (by kernel_rfl) (fun _ _ _ h => h) (Or.inl ⟨by rfl, ?_⟩) (by assumption) ?_
                      rotate_left
                      · intro w hSw
                        (try dsimp only at hSw)
                        go_simp
                        try with_reducible rfl
                      try simp only [Act.put, List.setIfInBounds_toArray, List.set_cons_zero, List.set_cons_succ]
                      refine wpAnyH_done (by kernel_rfl) ?_ _
                      go_wp2_with fail
                      go_meet
                      case rel => first | exact ⟨_, rfl, rfl, LA5.set _ _ _ _ _, below_set5 hb6 (by omega) _ _ _ _ _⟩ | exact ⟨_, rfl, rfl, P5.new w41 _ _ _ _ _, hb6.alloc hb6.size _⟩
                    exact AllReadyH.nil
                  exact AllReadyH.nil
                exact AllReadyH.nil
              exact AllReadyH.nil
            refine AllReadyH.cons rfl (fun K hK => ?_) ?_
            · go_simp
              refine hK.out _ _ ?_ (fun hHeld => ?_)
              · (try dsimp only); (first | with_reducible exact ⟨x0, x1, x2, x3, x4, y0, y1, y2, y3, y4⟩ | with_reducible exact HS.out _ BD.out | with_reducible exact HS.out _ (BA.out _) | with_reducible exact HS.out _ (BAA.out _ _) | with_reducible exact HS.out _ hb6 | with_reducible exact HS.out _ (hb6.alloc hb6.size _) | with_reducible exact HS.out _ (below_set5 hb6 (by omega) _ _ _ _ _))
              clear hK K
              refine wpAnyH_ready (rs := [0]) (by kernel_rfl) (by simp) ?_
              refine AllReadyH.cons rfl (fun K hK => ?_) ?_
              · go_simp
                refine hK.out _ _ ?_ (fun hHeld => ?_)
                · (try dsimp only); (first | with_reducible exact ⟨x0, x1, x2, x3, x4, y0, y1, y2, y3, y4⟩ | with_reducible exact HS.out _ BD.out | with_reducible exact HS.out _ (BA.out _) | with_reducible exact HS.out _ (BAA.out _ _) | with_reducible exact HS.out _ hb6 | with_reducible exact HS.out _ (hb6.alloc hb6.size _) | with_reducible exact HS.out _ (below_set5 hb6 (by omega) _ _ _ _ _))
                clear hK K
                refine wpAnyH_take (i := 2) (oi := { dst := some 53, op := Op.indexAddr 33 (Operand.tmp 51) (Operand.tmp 52), type := 0, pos := "law.go:111", after := #[{ on := 0, ground := Ground.data }, { on := 1, ground := Ground.data }], guard := none }) (v := ?_) rfl (by kernel_rfl) (by kernel_rfl) (by kernel_rfl) (fun _ _ _ h => h) (Or.inl ⟨by rfl, ?_⟩) (by assumption) ?_
                rotate_left
                · intro w hSw
                  (try dsimp only at hSw)
                  go_simp
                  try with_reducible rfl
                try simp only [Act.put, List.setIfInBounds_toArray, List.set_cons_zero, List.set_cons_succ]
                refine wpAnyH_ready (rs := [3]) (by kernel_rfl) (by simp) ?_
                refine AllReadyH.cons rfl (fun K hK => ?_) ?_
                · go_simp
                  refine hK.out _ _ ?_ (fun hHeld => ?_)
                  · (try dsimp only); (first | with_reducible exact ⟨x0, x1, x2, x3, x4, y0, y1, y2, y3, y4⟩ | with_reducible exact HS.out _ BD.out | with_reducible exact HS.out _ (BA.out _) | with_reducible exact HS.out _ (BAA.out _ _) | with_reducible exact HS.out _ hb6 | with_reducible exact HS.out _ (hb6.alloc hb6.size _) | with_reducible exact HS.out _ (below_set5 hb6 (by omega) _ _ _ _ _))
                  clear hK K
                  refine wpAnyH_ready (rs := [6]) (by kernel_rfl) (by simp) ?_
                  refine AllReadyH.cons rfl (fun K hK => ?_) ?_
                  · go_simp
                    go_wp2_with ((go_at_call 9; (first
                      | ((with_reducible refine (HA2.out _).mono ?_); rintro e w41 ⟨k3, n3, b3, t3, is3, hP, rfl, hb5⟩; have hb6 : Below v7.heap.size v7 w41 := (BAA.out _ _).trans (hb5.mono (by simp; omega)); have LA5 := ((P5.new v7 (.int .u8 0) (.int .i64 0) (.int .u64 0) (.string ⟨#[]⟩) (.slice none 0 0)).alloc _).drew.below hb5; obtain ⟨z0, z1, z2, z3, z4, y0, y1, y2, y3, y4⟩ := LA5.cells; obtain ⟨rfl, rfl, rfl, rfl, rfl⟩ := hP.out; unfold litv)
                      | ((with_reducible refine (HA3.out _).mono ?_); rintro e w41 ⟨k3, n3, b3, t3, is3, hP, rfl, hb5⟩; have hb6 : Below v7.heap.size v7 w41 := (BAA.out _ _).trans (hb5.mono (by simp; omega)); have LA5 := (P5.new1 v7 _ (.int .u8 0) (.int .i64 0) (.int .u64 0) (.string ⟨#[]⟩) (.slice none 0 0)).drew.below hb5; obtain ⟨z0, z1, z2, z3, z4, y0, y1, y2, y3, y4⟩ := LA5.cells; obtain ⟨rfl, rfl, rfl, rfl, rfl⟩ := hP.out; unfold litv)
                      | ((with_reducible refine (HA1.out _).mono ?_); rintro e w41 ⟨k3, n3, b3, t3, is3, hP, rfl, hb5⟩; have hb6 : Below v7.heap.size v7 w41 := (BA.out _).trans (hb5.mono (by simp)); obtain ⟨rfl, rfl, rfl, rfl, rfl⟩ := hP.out; unfold litv))))
                    refine hK.out _ _ ?_ (fun hHeld => ?_)
                    · (try dsimp only); (first | with_reducible exact ⟨x0, x1, x2, x3, x4, y0, y1, y2, y3, y4⟩ | with_reducible exact HS.out _ BD.out | with_reducible exact HS.out _ (BA.out _) | with_reducible exact HS.out _ (BAA.out _ _) | with_reducible exact HS.out _ hb6 | with_reducible exact HS.out _ (hb6.alloc hb6.size _) | with_reducible exact HS.out _ (below_set5 hb6 (by omega) _ _ _ _ _))
                    clear hK K
                    refine wpAnyH_take (i := 7) (oi := { dst := some 50, op := Op.move (Operand.tmp 57), type := 30, pos := "law.go:111", after := #[{ on := 6, ground := Ground.data }], guard := none }) (v := ?_) rfl (by kernel_rfl) (by kernel_rfl) (by kernel_rfl) (fun _ _ _ h => h) (Or.inl ⟨by rfl, ?_⟩) (by assumption) ?_
                    rotate_left
                    · intro w hSw
                      (try dsimp only at hSw)
                      go_simp
                      try with_reducible rfl
                    try simp only [Act.put, List.setIfInBounds_toArray, List.set_cons_zero, List.set_cons_succ]
                    refine wpAnyH_take (i := 8) (oi := { dst := some 58, op := Op.extract (Operand.tmp 50) 0, type := 26, pos := "law.go:111", after := #[{ on := 7, ground := Ground.data }], guard := none }) (v := ?_) rfl (by kernel_rfl) (by kernel_rfl) (by kernel_rfl) (fun _ _ _ h => h) (Or.inl ⟨by rfl, ?_⟩) (by assumption) ?_
                    rotate_left
                    · intro w hSw
                      (try dsimp only at hSw)
                      go_simp
                      try with_reducible rfl
                    try simp only [Act.put, List.setIfInBounds_toArray, List.set_cons_zero, List.set_cons_succ]
                    refine wpAnyH_take (i := 9) (oi := { dst := some 59, op := Op.extract (Operand.tmp 50) 1, type := 4, pos := "law.go:111", after := #[{ on := 7, ground := Ground.data }, { on := 11, ground := Ground.gcOnly Departure.lateStores }], guard := none }) (v := ?_) rfl (by kernel_rfl) (by kernel_rfl) (by kernel_rfl) (fun _ _ _ h => h) (Or.inl ⟨by rfl, ?_⟩) (by assumption) ?_
                    rotate_left
                    · intro w hSw
                      (try dsimp only at hSw)
                      go_simp
                      try with_reducible rfl
                    try simp only [Act.put, List.setIfInBounds_toArray, List.set_cons_zero, List.set_cons_succ]
                    refine wpAnyH_ready (rs := [11]) (by kernel_rfl) (by simp) ?_
                    refine AllReadyH.cons rfl (fun K hK => ?_) ?_
                    · go_simp
                      refine hK.out _ _ ?_ (fun hHeld => ?_)
                      · (try dsimp only); (first | with_reducible exact ⟨x0, x1, x2, x3, x4, y0, y1, y2, y3, y4⟩ | with_reducible exact HS.out _ BD.out | with_reducible exact HS.out _ (BA.out _) | with_reducible exact HS.out _ (BAA.out _ _) | with_reducible exact HS.out _ hb6 | with_reducible exact HS.out _ (hb6.alloc hb6.size _) | with_reducible exact HS.out _ (below_set5 hb6 (by omega) _ _ _ _ _))
                      clear hK K
                      refine wpAnyH_take (i := 12) (oi := { dst := some 12, op := Op.assign (Operand.tmp 59), type := 4, pos := "law.go:111", after := #[{ on := 9, ground := Ground.data }, { on := 11, ground := Ground.chain }, { on := 0, ground := Ground.phase }, { on := 1, ground := Ground.phase }, { on := 2, ground := Ground.phase }, { on := 3, ground := Ground.phase }, { on := 4, ground := Ground.phase }, { on := 5, ground := Ground.phase }, { on := 6, ground := Ground.phase }, { on := 7, ground := Ground.phase }, { on := 8, ground := Ground.phase }, { on := 9, ground := Ground.phase }, { on := 10, ground := Ground.phase }, { on := 11, ground := Ground.phase }], guard := none }) (v := ?_) rfl (by kernel_rfl) (by kernel_rfl) (by kernel_rfl) (fun _ _ _ h => h) (Or.inl ⟨by rfl, ?_⟩) (by assumption) ?_
                      rotate_left
                      · intro w hSw
                        (try dsimp only at hSw)
                        go_simp
                        try with_reducible rfl
                      try simp only [Act.put, List.setIfInBounds_toArray, List.set_cons_zero, List.set_cons_succ]
                      refine wpAnyH_done (by kernel_rfl) ?_ _
                      go_wp2_with fail
                      go_meet
                      case rel => first | exact ⟨_, rfl, rfl, LA5.set _ _ _ _ _, below_set5 hb6 (by omega) _ _ _ _ _⟩ | exact ⟨_, rfl, rfl, P5.new w41 _ _ _ _ _, hb6.alloc hb6.size _⟩
                    exact AllReadyH.nil
                  exact AllReadyH.nil
                exact AllReadyH.nil
              exact AllReadyH.nil
            exact AllReadyH.nil
          case rest =>
            obtain ⟨kQ, rfl, rfl, hK, hb1⟩ := hcut
            have HQ := Lib.hid hK
            replace HX := Lib.hid (HX.out.below hb1)
            replace HY := Lib.hid (HY.out.below hb1)
            replace HP := Lib.hid (HP.out.below hb1)
            replace HW := Lib.hid (HW.out.trans (hb1.mono HW.out.size))
            replace HWR := Lib.hid (HWR.out.trans (hb1.mono HWR.out.size))
            clear hb1 hK
            obtain ⟨v8, hvn⟩ : ∃ x, x = wc := ⟨wc, rfl⟩
            subst hvn
            obtain ⟨p0, p1, p2, p3, p4, _, _, _, _, _⟩ := HP.out.cells
            obtain ⟨u0, u1, u2, u3, u4, _, _, _, _, _⟩ := HQ.out.cells
            have hw1 : IntKind.i64.wrap ((mm : Int) + 1) = (mm : Int) + 1 := IntWalk.i64_in _ (by omega)
            have HWF := Lib.hid HW.out
            clear hmb H1 H2 HX HY HP HQ HW
            cases q1
            all_goals
              obtain ⟨e1, e2⟩ := HKQ.out
              unfold kindB at e1 e2
              simp only [Bool.not_false, Bool.not_true, if_true, Bool.false_eq_true, if_false] at e1 e2
              subst e1 e2
              go_wp2_with fail
              go_roundw
              case rel =>
                first
                | exact ⟨j, HJ.out.2, by rw [HST.out]; simp, by rw [HJ.out.1]; rfl, HWR.out⟩
                | ((repeat apply Exists.intro); exact ⟨⟨j, HJ.out.2, by rw [HST.out]; simp, by rw [HJ.out.1]; rfl, HWR.out⟩, rfl⟩)
              case measure => simp [RowKit.intOf]
    · obtain rfl : i = 3 := by omega
      have HD7 : Hid (∀ W, Calls Tryz.prog 9 #[.int .i64 7, .agg #[.int .u8 kx, .int .i64 nx, .int .u64 bx, .string sx, .slice ax nlx cx], .agg #[.int .u8 ky, .int .i64 ny, .int .u64 bY, .string sy, .slice ay nly cy]] W (Came W (Just (kindB (cmpB 7 o)) 0 ⟨#[]⟩ true))) := Lib.hid (fun W => HD.out 7 (by decide) (by decide) W)
      rw [HM3.out]
      clear HD HMS HNT HM3 HAW HFAR HVX HVY hlt hi HWR
      obtain ⟨q, hq⟩ : ∃ q, cmpB 7 o = q := ⟨_, rfl⟩
      rw [hq] at HSL HD7
      clear hq
      obtain ⟨kq, hkq⟩ : ∃ kq, kindB q = kq := ⟨_, rfl⟩
      rw [hkq] at HD7
      have HKQ := Lib.hid hkq
      clear hkq
      obtain ⟨x0, x1, x2, x3, x4, _, _, _, _, _⟩ := HX.out.cells
      obtain ⟨y0, y1, y2, y3, y4, _, _, _, _, _⟩ := HY.out.cells
      go_wp2_with fail
      refine (HD7.out _).mono ?_
      rintro e w9 ⟨k3, n3, b3, t3, is3, hP, rfl, hb⟩
      obtain ⟨rfl, rfl, rfl, rfl, rfl⟩ := hP.out
      replace HX := Lib.hid (HX.out.below hb)
      replace HY := Lib.hid (HY.out.below hb)
      replace HW := Lib.hid (HW.out.trans (hb.mono HW.out.size))
      clear hb hP HD7 x0 x1 x2 x3 x4 y0 y1 y2 y3 y4
      unfold litv
      go_upto_region 16 with fail
      obtain ⟨v9, hv⟩ : ∃ W, w9.alloc (.cells #[.int .u8 kq, .int .i64 0, .int .u64 0, .string ⟨#[]⟩, .slice none 0 0] 26) = W := ⟨_, rfl⟩
      have HX3 := Lib.hid (HX.out.alloc (.cells #[.int .u8 kq, .int .i64 0, .int .u64 0, .string ⟨#[]⟩, .slice none 0 0] 26))
      have HY3 := Lib.hid (HY.out.alloc (.cells #[.int .u8 kq, .int .i64 0, .int .u64 0, .string ⟨#[]⟩, .slice none 0 0] 26))
      have HW3 := Lib.hid (HW.out.alloc HW.out.size (.cells #[.int .u8 kq, .int .i64 0, .int .u64 0, .string ⟨#[]⟩, .slice none 0 0] 26))
      have HE := Lib.hid (P5.new w9 (.int .u8 kq) (.int .i64 0) (.int .u64 0) (.string ⟨#[]⟩) (.slice none 0 0))
      rw [hv] at HX3 HY3 HW3 HE ⊢
      obtain ⟨ke, hke⟩ : ∃ k, w9.heap.size = k := ⟨_, rfl⟩
      rw [hke] at HE ⊢
      clear hv hke HX HY HW
      have BD := Lib.hid (show Below v9.heap.size v9 v9.drew from (Below.refl _ v9).drew)
      have HS : Hid (∀ W, Below v9.heap.size v9 W → W.cell? ⟨w.heap.size, 0, none⟩ = some (.int .u8 kx) ∧ W.cell? ⟨w.heap.size, 1, none⟩ = some (.int .i64 nx) ∧ W.cell? ⟨w.heap.size, 2, none⟩ = some (.int .u64 bx) ∧ W.cell? ⟨w.heap.size, 3, none⟩ = some (.string sx) ∧ W.cell? ⟨w.heap.size, 4, none⟩ = some (.slice ax nlx cx) ∧ W.cell? ⟨w.heap.size + 1, 0, none⟩ = some (.int .u8 ky) ∧ W.cell? ⟨w.heap.size + 1, 1, none⟩ = some (.int .i64 ny) ∧ W.cell? ⟨w.heap.size + 1, 2, none⟩ = some (.int .u64 bY) ∧ W.cell? ⟨w.heap.size + 1, 3, none⟩ = some (.string sy) ∧ W.cell? ⟨w.heap.size + 1, 4, none⟩ = some (.slice ay nly cy) ∧ W.cell? ⟨ke, 0, none⟩ = some (.int .u8 kq)) := Lib.hid (fun W hb => by
        obtain ⟨x0, x1, x2, x3, x4, _, _, _, _, _⟩ := (HX3.out.below hb).cells
        obtain ⟨y0, y1, y2, y3, y4, _, _, _, _, _⟩ := (HY3.out.below hb).cells
        exact ⟨x0, x1, x2, x3, x4, y0, y1, y2, y3, y4, (HE.out.below hb).cells.c0⟩)
      go_region_held3 (fun W => W.cell? ⟨w.heap.size, 0, none⟩ = some (.int .u8 kx) ∧ W.cell? ⟨w.heap.size, 1, none⟩ = some (.int .i64 nx) ∧ W.cell? ⟨w.heap.size, 2, none⟩ = some (.int .u64 bx) ∧ W.cell? ⟨w.heap.size, 3, none⟩ = some (.string sx) ∧ W.cell? ⟨w.heap.size, 4, none⟩ = some (.slice ax nlx cx) ∧ W.cell? ⟨w.heap.size + 1, 0, none⟩ = some (.int .u8 ky) ∧ W.cell? ⟨w.heap.size + 1, 1, none⟩ = some (.int .i64 ny) ∧ W.cell? ⟨w.heap.size + 1, 2, none⟩ = some (.int .u64 bY) ∧ W.cell? ⟨w.heap.size + 1, 3, none⟩ = some (.string sy) ∧ W.cell? ⟨w.heap.size + 1, 4, none⟩ = some (.slice ay nly cy) ∧ W.cell? ⟨ke, 0, none⟩ = some (.int .u8 kq)) (first | with_reducible exact HS.out _ BD.out | with_reducible exact HS.out _ hb4) ((go_at_call 10; (with_reducible refine (HSL.out _).mono ?_); rintro e w40 ⟨rfl, hb4d⟩; have hb4 : Below v9.heap.size v9 w40 := BD.out.trans hb4d; clear hb4d))
      all_goals
        have HBF := Lib.hid (HW3.out.trans (hb4.mono HW3.out.size))
        have e1 := HKQ.out
        cases q
        all_goals
          unfold kindB at e1
          simp only [if_true, Bool.false_eq_true, if_false] at e1
          subst e1
          go_wp2_with fail
          go_ret
          exact ⟨rfl, HBF.out⟩
end Go.Proofs.YtagoadnjahbjdaaGreatDoor
