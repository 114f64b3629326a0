/- Sums, products and quotients of whole numbers: the walk of PrimsSums (printed by gen_pum.py). -/
import Derived.Test.YtlodbibagmblkaaGreatDoorPaau
namespace Go.Proofs.YtlodbibagmblkaaGreatDoor
open Go Go.RowKit Go.Lib
set_option maxRecDepth 4000 in
set_option maxHeartbeats 16000000 in
/-- Sums and products do not hang on order, a difference takes a sum back, a quotient with what is left comes to the number; the law asks nothing of other literals -/
theorem sums_any (kx nx bx ky ny bY : Int) (lx ly : List UInt8) (ax ay : Option Addr) (nlx cx nly cy : Nat) (w : World) (q1 : -9223372036854775808 ≤ nx) (q2 : nx ≤ 9223372036854775807) (q3 : -9223372036854775808 ≤ ny) (q4 : ny ≤ 9223372036854775807)
    (hfar : ∀ W, Below w.heap.size w W → Calls Tryz.prog 7 #[.slice (some ⟨W.heap.size, 0, none⟩) 2 2] (W.alloc (.cells #[.int .u8 kx, .int .i64 nx, .int .u64 bx, .string (bs lx), .slice ax nlx cx, .int .u8 ky, .int .i64 ny, .int .u64 bY, .string (bs ly), .slice ay nly cy] 26)) fun e w' => (∃ t : Bool, e = .returned (.bool t) ∧ (t = false → lx.length ≤ 300000 ∧ ly.length ≤ 300000)) ∧ Below W.heap.size W w') :
    Calls Tryz.prog 3 #[litv kx nx bx (bs lx) (.slice ax nlx cx), litv ky ny bY (bs ly) (.slice ay nly cy)] w fun e w' => e = .returned (.bool true) ∧ Below w.heap.size w w' := by
  have HAW := Lib.hid (fun W => law21_awake W)
  have HFAR := Lib.hid hfar
  have HVX := Lib.hid (fun (h : lx.length ≤ 300000) W => rvalueI_any kx nx bx lx ax nlx cx W h q1 q2)
  have HVY := Lib.hid (fun (h : ly.length ≤ 300000) W => rvalueI_any ky ny bY ly ay nly cy W h q3 q4)
  have HSC : Hid (∀ A B, lx.length ≤ 2000 → ly.length ≤ 2000 → IsI kx nx bx lx nlx A → IsI ky ny bY ly nly B → SumsC (litv kx nx bx (bs lx) (.slice ax nlx cx)) (litv ky ny bY (bs ly) (.slice ay nly cy)) A B) := Lib.hid (fun A B g1 g2 hA hB => by
    obtain rfl : nlx = 0 := hA.1
    obtain rfl : nly = 0 := hB.1
    exact sums_of ⟨⟨_, _, _, _, _, _, rfl, hA, by omega⟩, (isI_half hA g1).big⟩ ⟨⟨_, _, _, _, _, _, rfl, hB, by omega⟩, (isI_half hB g2).big⟩ (isI_half hA g1) (isI_half hB g2))
  have hsx : (bs lx).size = lx.length := rfl
  have hsy : (bs ly).size = ly.length := rfl
  unfold litv at *
  generalize bs lx = sx at *
  generalize bs ly = sy at *
  clear hfar q1 q2 q3 q4
  obtain ⟨W2, hW2⟩ : ∃ W2, (w.alloc (.cells #[.int .u8 kx, .int .i64 nx, .int .u64 bx, .string sx, .slice ax nlx cx] 26)).alloc (.cells #[.int .u8 ky, .int .i64 ny, .int .u64 bY, .string sy, .slice ay nly cy] 26) = W2 := ⟨_, rfl⟩
  have HX : Hid (P5 W2 w.heap.size (.int .u8 kx) (.int .i64 nx) (.int .u64 bx) (.string sx) (.slice ax nlx cx)) := Lib.hid (by rw [← hW2]; exact (P5.new _ _ _ _ _ _).alloc _)
  have HY : Hid (P5 W2 (w.heap.size + 1) (.int .u8 ky) (.int .i64 ny) (.int .u64 bY) (.string sy) (.slice ay nly cy)) := Lib.hid (by rw [← hW2]; exact P5.new1 _ _ _ _ _ _ _)
  have HW : Hid (Below w.heap.size w W2) := Lib.hid (by rw [← hW2]; exact ((Below.refl _ _).alloc (Nat.le_refl _) _).alloc (by simp) _)
  go_enter Tryz.func3, Tryz.ntmps3
  go_wp2_with fail
  refine (HAW.out _).mono ?_
  rintro e w1 ⟨rfl, hb⟩
  replace HX := Lib.hid (HX.out.below hb)
  replace HY := Lib.hid (HY.out.below hb)
  replace HW := Lib.hid (HW.out.trans (hb.mono HW.out.size))
  clear hb hW2
  obtain ⟨x0, x1, x2, x3, x4, _, _, _, _, _⟩ := HX.out.cells
  obtain ⟨y0, y1, y2, y3, y4, _, _, _, _, _⟩ := HY.out.cells
  go_wp2_with fail
  refine (HFAR.out _ HW.out).mono ?_
  rintro e w2 ⟨⟨t, rfl, ht⟩, hb⟩
  replace HX := Lib.hid (HX.out.below hb)
  replace HY := Lib.hid (HY.out.below hb)
  replace HW := Lib.hid (HW.out.trans (hb.mono HW.out.size))
  clear hb
  clear x0 x1 x2 x3 x4 y0 y1 y2 y3 y4
  obtain ⟨x0, x1, x2, x3, x4, _, _, _, _, _⟩ := HX.out.cells
  obtain ⟨y0, y1, y2, y3, y4, _, _, _, _, _⟩ := HY.out.cells
  cases t
  case true =>
    clear ht
    go_wp2_with fail
    go_ret
    exact ⟨rfl, HW.out⟩
  obtain ⟨g1, g2⟩ := ht rfl
  replace HVX := Lib.hid (HVX.out g1)
  replace HVY := Lib.hid (HVY.out g2)
  have hz1 : sx.size ≤ 300000 := by omega
  have hz2 : sy.size ≤ 300000 := by omega
  clear ht g1 g2
  by_cases g1 : lx.length ≤ 2000
  case neg =>
    have hd : decide ((2000 : Int) < (sx.size : Int)) = true := decide_eq_true (by omega)
    clear hsx hsy
    go_wp2_with fail
    go_ret
    exact ⟨rfl, HW.out⟩
  by_cases g2 : ly.length ≤ 2000
  case neg =>
    have hd : decide ((2000 : Int) < (sx.size : Int)) = false := decide_eq_false (by omega)
    have hd2 : decide ((2000 : Int) < (sy.size : Int)) = true := decide_eq_true (by omega)
    clear hsx hsy
    go_wp2_with fail
    go_ret
    exact ⟨rfl, HW.out⟩
  replace HSC := Lib.hid (fun A B => HSC.out A B g1 g2)
  have hd : decide ((2000 : Int) < (sx.size : Int)) = false := decide_eq_false (by omega)
  have hd2 : decide ((2000 : Int) < (sy.size : Int)) = false := decide_eq_false (by omega)
  clear hsx hsy g1 g2
  go_wp2_with fail
  refine (HVX.out _).mono ?_
  rintro e w5 ⟨⟨t, rfl, ht⟩, hb⟩
  have HTX := Lib.hid ht
  replace HX := Lib.hid (HX.out.below hb)
  replace HY := Lib.hid (HY.out.below hb)
  replace HW := Lib.hid (HW.out.trans (hb.mono HW.out.size))
  clear hb ht
  clear x0 x1 x2 x3 x4 y0 y1 y2 y3 y4
  obtain ⟨y0, y1, y2, y3, y4, _, _, _, _, _⟩ := HY.out.cells
  cases t
  case false =>
    go_wp2_with fail
    go_ret
    exact ⟨rfl, HW.out⟩
  go_wp2_with fail
  refine (HVY.out _).mono ?_
  rintro e w6 ⟨⟨t, rfl, ht⟩, hb⟩
  have HTY := Lib.hid ht
  replace HX := Lib.hid (HX.out.below hb)
  replace HY := Lib.hid (HY.out.below hb)
  replace HW := Lib.hid (HW.out.trans (hb.mono HW.out.size))
  clear hb ht
  clear y0 y1 y2 y3 y4
  cases t
  case false =>
    go_wp2_with fail
    go_ret
    exact ⟨rfl, HW.out⟩
  obtain ⟨A, hA⟩ := HTX.out.1 (by first | trivial | rfl)
  obtain ⟨B, hB⟩ := HTY.out.1 (by first | trivial | rfl)
  have HC := Lib.hid (HSC.out A B hA hB)
  have hyz : (ky = 4 ∧ ny = 0 ∧ B = 0) ∨ (ky = 4 ∧ ny ≠ 0 ∧ B ≠ 0) ∨ (ky = 5 ∧ B ≠ 0) := by
    rcases hB.2.2 with ⟨rfl, _, rfl, _⟩ | ⟨rfl, _, _, _, hf⟩
    · by_cases h : ny = 0
      · exact .inl ⟨rfl, h, h⟩
      · exact .inr (.inl ⟨rfl, h, h⟩)
    · exact .inr (.inr ⟨rfl, fun h => hf (by rw [h]; unfold FitsI; omega)⟩)
  have HYZ := Lib.hid hyz
  clear hA hB HTX HTY HSC hyz hd hd2 HVX HVY HFAR HAW
  obtain ⟨x0, x1, x2, x3, x4, _, _, _, _, _⟩ := HX.out.cells
  obtain ⟨y0, y1, y2, y3, y4, _, _, _, _, _⟩ := HY.out.cells
  go_wp2_with fail
  refine (HC.out.ab _).mono ?_
  rintro e w7 ⟨k1, n1, b1, t1, z1, ⟨s1, hil1, rfl, rfl, rfl⟩, rfl, hb⟩
  unfold litv
  have HL1 := Lib.hid hil1
  replace HX := Lib.hid (HX.out.below hb)
  replace HY := Lib.hid (HY.out.below hb)
  replace HW := Lib.hid (HW.out.trans (hb.mono HW.out.size))
  clear hb hil1
  clear x0 x1 x2 x3 x4 y0 y1 y2 y3 y4
  obtain ⟨T1, hT1⟩ : ∃ T, bs s1 = T := ⟨_, rfl⟩
  have HT1 := Lib.hid hT1
  rw [hT1]
  clear hT1
  have HN1 : Hid (P5 (w7.alloc (.cells #[.int .u8 k1, .int .i64 n1, .int .u64 0, .string T1, .slice none 0 0] 26)) w7.heap.size (.int .u8 k1) (.int .i64 n1) (.int .u64 0) (.string T1) (.slice none 0 0)) := Lib.hid (P5.new _ _ _ _ _ _)
  have hbv : Below w7.heap.size w7 (w7.alloc (.cells #[.int .u8 k1, .int .i64 n1, .int .u64 0, .string T1, .slice none 0 0] 26)) := (Below.refl _ _).alloc (Nat.le_refl _) _
  replace HX := Lib.hid (HX.out.below hbv)
  replace HY := Lib.hid (HY.out.below hbv)
  replace HW := Lib.hid (HW.out.trans (hbv.mono HW.out.size))
  clear hbv
  obtain ⟨n10, n11, n12, n13, n14, _, _, _, _, _⟩ := HN1.out.cells
  obtain ⟨x0, x1, x2, x3, x4, _, _, _, _, _⟩ := HX.out.cells
  obtain ⟨y0, y1, y2, y3, y4, _, _, _, _, _⟩ := HY.out.cells
  go_wp2_with fail
  clear n10 n11 n12 n13 n14
  refine (HC.out.ba _).mono ?_
  rintro e w8 ⟨k2, n2, b2, t2, z2, ⟨s2, hil2, rfl, rfl, rfl⟩, rfl, hb⟩
  unfold litv
  have HL2 := Lib.hid hil2
  replace HX := Lib.hid (HX.out.below hb)
  replace HY := Lib.hid (HY.out.below hb)
  replace HN1 := Lib.hid (HN1.out.below hb)
  replace HW := Lib.hid (HW.out.trans (hb.mono HW.out.size))
  clear hb hil2
  clear x0 x1 x2 x3 x4 y0 y1 y2 y3 y4
  obtain ⟨T2, hT2⟩ : ∃ T, bs s2 = T := ⟨_, rfl⟩
  have HT2 := Lib.hid hT2
  rw [hT2]
  clear hT2
  have HN2 : Hid (P5 (w8.alloc (.cells #[.int .u8 k2, .int .i64 n2, .int .u64 0, .string T2, .slice none 0 0] 26)) w8.heap.size (.int .u8 k2) (.int .i64 n2) (.int .u64 0) (.string T2) (.slice none 0 0)) := Lib.hid (P5.new _ _ _ _ _ _)
  have hbv : Below w8.heap.size w8 (w8.alloc (.cells #[.int .u8 k2, .int .i64 n2, .int .u64 0, .string T2, .slice none 0 0] 26)) := (Below.refl _ _).alloc (Nat.le_refl _) _
  replace HX := Lib.hid (HX.out.below hbv)
  replace HY := Lib.hid (HY.out.below hbv)
  replace HN1 := Lib.hid (HN1.out.below hbv)
  replace HW := Lib.hid (HW.out.trans (hbv.mono HW.out.size))
  clear hbv
  obtain ⟨n10, n11, n12, n13, n14, _, _, _, _, _⟩ := HN1.out.cells
  obtain ⟨n20, n21, n22, n23, n24, _, _, _, _, _⟩ := HN2.out.cells
  obtain ⟨y0, y1, y2, y3, y4, _, _, _, _, _⟩ := HY.out.cells
  go_wp2_with fail
  clear n20 n21 n22 n23 n24
  have hbk := HC.out.back _ _ _ HL1.out
  rw [HT1.out] at hbk
  refine (hbk _).mono ?_
  rintro e w9 ⟨k3, n3, b3, t3, z3, ⟨s3, hil3, rfl, rfl, rfl⟩, rfl, hb⟩
  unfold litv
  have HL3 := Lib.hid hil3
  replace HX := Lib.hid (HX.out.below hb)
  replace HY := Lib.hid (HY.out.below hb)
  replace HN1 := Lib.hid (HN1.out.below hb)
  replace HN2 := Lib.hid (HN2.out.below hb)
  replace HW := Lib.hid (HW.out.trans (hb.mono HW.out.size))
  clear hb hil3
  clear n10 n11 n12 n13 n14 y0 y1 y2 y3 y4
  obtain ⟨T3, hT3⟩ : ∃ T, bs s3 = T := ⟨_, rfl⟩
  have HT3 := Lib.hid hT3
  rw [hT3]
  clear hT3
  have HN3 : Hid (P5 (w9.alloc (.cells #[.int .u8 k3, .int .i64 n3, .int .u64 0, .string T3, .slice none 0 0] 26)) w9.heap.size (.int .u8 k3) (.int .i64 n3) (.int .u64 0) (.string T3) (.slice none 0 0)) := Lib.hid (P5.new _ _ _ _ _ _)
  have hbv : Below w9.heap.size w9 (w9.alloc (.cells #[.int .u8 k3, .int .i64 n3, .int .u64 0, .string T3, .slice none 0 0] 26)) := (Below.refl _ _).alloc (Nat.le_refl _) _
  replace HX := Lib.hid (HX.out.below hbv)
  replace HY := Lib.hid (HY.out.below hbv)
  replace HN1 := Lib.hid (HN1.out.below hbv)
  replace HN2 := Lib.hid (HN2.out.below hbv)
  replace HW := Lib.hid (HW.out.trans (hbv.mono HW.out.size))
  clear hbv
  obtain ⟨n30, n31, n32, n33, n34, _, _, _, _, _⟩ := HN3.out.cells
  obtain ⟨x0, x1, x2, x3, x4, _, _, _, _, _⟩ := HX.out.cells
  go_wp2_with fail
  clear hbk
  have hsm := HC.out.sameA _ _ _ HL3.out
  rw [HT3.out] at hsm
  refine (hsm _).mono ?_
  rintro e w10 ⟨rfl, hb⟩
  replace HX := Lib.hid (HX.out.below hb)
  replace HY := Lib.hid (HY.out.below hb)
  replace HN1 := Lib.hid (HN1.out.below hb)
  replace HN2 := Lib.hid (HN2.out.below hb)
  replace HN3 := Lib.hid (HN3.out.below hb)
  replace HW := Lib.hid (HW.out.trans (hb.mono HW.out.size))
  clear hb
  clear n30 n31 n32 n33 n34 x0 x1 x2 x3 x4
  obtain ⟨x0, x1, x2, x3, x4, _, _, _, _, _⟩ := HX.out.cells
  obtain ⟨y0, y1, y2, y3, y4, _, _, _, _, _⟩ := HY.out.cells
  go_wp2_with fail
  clear hsm
  refine (HC.out.m _).mono ?_
  rintro e w11 ⟨k4, n4, b4, t4, z4, ⟨s4, hil4, rfl, rfl, rfl⟩, rfl, hb⟩
  unfold litv
  have HL4 := Lib.hid hil4
  replace HX := Lib.hid (HX.out.below hb)
  replace HY := Lib.hid (HY.out.below hb)
  replace HN1 := Lib.hid (HN1.out.below hb)
  replace HN2 := Lib.hid (HN2.out.below hb)
  replace HN3 := Lib.hid (HN3.out.below hb)
  replace HW := Lib.hid (HW.out.trans (hb.mono HW.out.size))
  clear hb hil4
  clear x0 x1 x2 x3 x4 y0 y1 y2 y3 y4
  obtain ⟨T4, hT4⟩ : ∃ T, bs s4 = T := ⟨_, rfl⟩
  have HT4 := Lib.hid hT4
  rw [hT4]
  clear hT4
  have HN4 : Hid (P5 (w11.alloc (.cells #[.int .u8 k4, .int .i64 n4, .int .u64 0, .string T4, .slice none 0 0] 26)) w11.heap.size (.int .u8 k4) (.int .i64 n4) (.int .u64 0) (.string T4) (.slice none 0 0)) := Lib.hid (P5.new _ _ _ _ _ _)
  have hbv : Below w11.heap.size w11 (w11.alloc (.cells #[.int .u8 k4, .int .i64 n4, .int .u64 0, .string T4, .slice none 0 0] 26)) := (Below.refl _ _).alloc (Nat.le_refl _) _
  replace HX := Lib.hid (HX.out.below hbv)
  replace HY := Lib.hid (HY.out.below hbv)
  replace HN1 := Lib.hid (HN1.out.below hbv)
  replace HN2 := Lib.hid (HN2.out.below hbv)
  replace HN3 := Lib.hid (HN3.out.below hbv)
  replace HW := Lib.hid (HW.out.trans (hbv.mono HW.out.size))
  clear hbv
  obtain ⟨n40, n41, n42, n43, n44, _, _, _, _, _⟩ := HN4.out.cells
  obtain ⟨x0, x1, x2, x3, x4, _, _, _, _, _⟩ := HX.out.cells
  obtain ⟨y0, y1, y2, y3, y4, _, _, _, _, _⟩ := HY.out.cells
  go_wp2_with fail
  clear n40 n41 n42 n43 n44
  refine (HC.out.k _).mono ?_
  rintro e w12 ⟨k5, n5, b5, t5, z5, ⟨s5, hil5, rfl, rfl, rfl⟩, rfl, hb⟩
  unfold litv
  have HL5 := Lib.hid hil5
  replace HX := Lib.hid (HX.out.below hb)
  replace HY := Lib.hid (HY.out.below hb)
  replace HN1 := Lib.hid (HN1.out.below hb)
  replace HN2 := Lib.hid (HN2.out.below hb)
  replace HN3 := Lib.hid (HN3.out.below hb)
  replace HN4 := Lib.hid (HN4.out.below hb)
  replace HW := Lib.hid (HW.out.trans (hb.mono HW.out.size))
  clear hb hil5
  clear x0 x1 x2 x3 x4 y0 y1 y2 y3 y4
  obtain ⟨T5, hT5⟩ : ∃ T, bs s5 = T := ⟨_, rfl⟩
  have HT5 := Lib.hid hT5
  rw [hT5]
  clear hT5
  have HN5 : Hid (P5 (w12.alloc (.cells #[.int .u8 k5, .int .i64 n5, .int .u64 0, .string T5, .slice none 0 0] 26)) w12.heap.size (.int .u8 k5) (.int .i64 n5) (.int .u64 0) (.string T5) (.slice none 0 0)) := Lib.hid (P5.new _ _ _ _ _ _)
  have hbv : Below w12.heap.size w12 (w12.alloc (.cells #[.int .u8 k5, .int .i64 n5, .int .u64 0, .string T5, .slice none 0 0] 26)) := (Below.refl _ _).alloc (Nat.le_refl _) _
  replace HX := Lib.hid (HX.out.below hbv)
  replace HY := Lib.hid (HY.out.below hbv)
  replace HN1 := Lib.hid (HN1.out.below hbv)
  replace HN2 := Lib.hid (HN2.out.below hbv)
  replace HN3 := Lib.hid (HN3.out.below hbv)
  replace HN4 := Lib.hid (HN4.out.below hbv)
  replace HW := Lib.hid (HW.out.trans (hbv.mono HW.out.size))
  clear hbv
  obtain ⟨n10, n11, n12, n13, n14, _, _, _, _, _⟩ := HN1.out.cells
  obtain ⟨n20, n21, n22, n23, n24, _, _, _, _, _⟩ := HN2.out.cells
  obtain ⟨n50, n51, n52, n53, n54, _, _, _, _, _⟩ := HN5.out.cells
  go_wp2_with fail
  clear n50 n51 n52 n53 n54
  have hsm := HC.out.sameS _ _ _ _ _ _ HL1.out HL2.out
  rw [HT1.out, HT2.out] at hsm
  refine (hsm _).mono ?_
  rintro e w13 ⟨rfl, hb⟩
  replace HX := Lib.hid (HX.out.below hb)
  replace HY := Lib.hid (HY.out.below hb)
  replace HN1 := Lib.hid (HN1.out.below hb)
  replace HN2 := Lib.hid (HN2.out.below hb)
  replace HN3 := Lib.hid (HN3.out.below hb)
  replace HN4 := Lib.hid (HN4.out.below hb)
  replace HN5 := Lib.hid (HN5.out.below hb)
  replace HW := Lib.hid (HW.out.trans (hb.mono HW.out.size))
  clear hb
  clear n10 n11 n12 n13 n14 n20 n21 n22 n23 n24
  obtain ⟨n40, n41, n42, n43, n44, _, _, _, _, _⟩ := HN4.out.cells
  obtain ⟨n50, n51, n52, n53, n54, _, _, _, _, _⟩ := HN5.out.cells
  go_wp2_with fail
  clear hsm
  have hsm := HC.out.sameM _ _ _ _ _ _ HL4.out HL5.out
  rw [HT4.out, HT5.out] at hsm
  refine (hsm _).mono ?_
  rintro e w14 ⟨rfl, hb⟩
  replace HX := Lib.hid (HX.out.below hb)
  replace HY := Lib.hid (HY.out.below hb)
  replace HN1 := Lib.hid (HN1.out.below hb)
  replace HN2 := Lib.hid (HN2.out.below hb)
  replace HN3 := Lib.hid (HN3.out.below hb)
  replace HN4 := Lib.hid (HN4.out.below hb)
  replace HN5 := Lib.hid (HN5.out.below hb)
  replace HW := Lib.hid (HW.out.trans (hb.mono HW.out.size))
  clear hb
  clear n40 n41 n42 n43 n44 n50 n51 n52 n53 n54
  go_wp2_with fail
  clear hsm HN1 HN2 HN3 HN4 HN5 HL1 HL2 HL3 HL4 HL5 HT1 HT2 HT3 HT4 HT5
  go_loopw [17, 18, 19, 20, 21, 22, 23, 24, 25, 26] (fun iv _ _ _ _ _ _ _ _ _ wr => ∃ i : Nat, i ≤ 2 ∧ iv = .int .i64 i ∧ Below w14.heap.size w14 wr) (fun iv _ _ _ _ _ _ _ _ _ _ => 2 - (RowKit.intOf iv).toNat)
  case atStart => exact ⟨0, by omega, rfl, Below.refl _ _⟩
  case round =>
    obtain ⟨i, hi, rfl, hb⟩ := hrel
    replace HX := Lib.hid (HX.out.below hb)
    replace HY := Lib.hid (HY.out.below hb)
    have HWR := Lib.hid hb
    replace HW := Lib.hid (HW.out.trans (hb.mono HW.out.size))
    clear hb
    obtain ⟨v6, hvn⟩ : ∃ x, x = wr := ⟨wr, rfl⟩
    subst hvn
    obtain rfl | rfl | rfl : i = 0 ∨ i = 1 ∨ i = 2 := by omega
    · rcases HYZ.out with ⟨rfl, rfl, h0⟩ | ⟨rfl, hn, h0⟩ | ⟨rfl, h0⟩
      · clear HYZ
        obtain ⟨x0, x1, x2, x3, x4, _, _, _, _, _⟩ := HX.out.cells
        obtain ⟨y0, y1, y2, y3, y4, _, _, _, _, _⟩ := HY.out.cells
        go_wp2_with fail
        refine (HC.out.zero h0 12 (by decide) (by decide) _).mono ?_
        rintro e w20 ⟨k6, n6, b6, t6, z6, ⟨rfl, rfl, rfl, rfl, rfl⟩, rfl, hb⟩
        unfold litv
        replace HX := Lib.hid (HX.out.below hb)
        replace HY := Lib.hid (HY.out.below hb)
        replace HW := Lib.hid (HW.out.trans (hb.mono HW.out.size))
        replace HWR := Lib.hid (HWR.out.trans (hb.mono HWR.out.size))
        clear hb
        clear x0 x1 x2 x3 x4 y0 y1 y2 y3 y4
        have HN6 : Hid (P5 (w20.alloc (.cells #[.int .u8 0, .int .i64 0, .int .u64 0, .string ⟨#[]⟩, .slice none 0 0] 26)) w20.heap.size (.int .u8 0) (.int .i64 0) (.int .u64 0) (.string ⟨#[]⟩) (.slice none 0 0)) := Lib.hid (P5.new _ _ _ _ _ _)
        have hbv : Below w20.heap.size w20 (w20.alloc (.cells #[.int .u8 0, .int .i64 0, .int .u64 0, .string ⟨#[]⟩, .slice none 0 0] 26)) := (Below.refl _ _).alloc (Nat.le_refl _) _
        replace HX := Lib.hid (HX.out.below hbv)
        replace HY := Lib.hid (HY.out.below hbv)
        replace HW := Lib.hid (HW.out.trans (hbv.mono HW.out.size))
        replace HWR := Lib.hid (HWR.out.trans (hbv.mono HWR.out.size))
        clear hbv
        obtain ⟨n60, n61, n62, n63, n64, _, _, _, _, _⟩ := HN6.out.cells
        obtain ⟨x0, x1, x2, x3, x4, _, _, _, _, _⟩ := HX.out.cells
        obtain ⟨y0, y1, y2, y3, y4, _, _, _, _, _⟩ := HY.out.cells
        go_wp2_with fail
        clear n60 n61 n62 n63 n64
        refine (HC.out.zero h0 11 (by decide) (by decide) _).mono ?_
        rintro e w21 ⟨k7, n7, b7, t7, z7, ⟨rfl, rfl, rfl, rfl, rfl⟩, rfl, hb⟩
        unfold litv
        replace HX := Lib.hid (HX.out.below hb)
        replace HY := Lib.hid (HY.out.below hb)
        replace HN6 := Lib.hid (HN6.out.below hb)
        replace HW := Lib.hid (HW.out.trans (hb.mono HW.out.size))
        replace HWR := Lib.hid (HWR.out.trans (hb.mono HWR.out.size))
        clear hb
        clear x0 x1 x2 x3 x4 y0 y1 y2 y3 y4
        have HN7 : Hid (P5 (w21.alloc (.cells #[.int .u8 0, .int .i64 0, .int .u64 0, .string ⟨#[]⟩, .slice none 0 0] 26)) w21.heap.size (.int .u8 0) (.int .i64 0) (.int .u64 0) (.string ⟨#[]⟩) (.slice none 0 0)) := Lib.hid (P5.new _ _ _ _ _ _)
        have hbv : Below w21.heap.size w21 (w21.alloc (.cells #[.int .u8 0, .int .i64 0, .int .u64 0, .string ⟨#[]⟩, .slice none 0 0] 26)) := (Below.refl _ _).alloc (Nat.le_refl _) _
        replace HX := Lib.hid (HX.out.below hbv)
        replace HY := Lib.hid (HY.out.below hbv)
        replace HN6 := Lib.hid (HN6.out.below hbv)
        replace HW := Lib.hid (HW.out.trans (hbv.mono HW.out.size))
        replace HWR := Lib.hid (HWR.out.trans (hbv.mono HWR.out.size))
        clear hbv
        obtain ⟨n70, n71, n72, n73, n74, _, _, _, _, _⟩ := HN7.out.cells
        obtain ⟨y0, y1, y2, y3, y4, _, _, _, _, _⟩ := HY.out.cells
        go_wp2_with fail
        clear n70 n71 n72 n73 n74
        go_roundw
        case rel => exact ⟨1, by omega, by go_num, HWR.out⟩
        case measure => simp [RowKit.intOf]
      · have hn2 : (ny == 0) = false := by rw [beq_eq_false_iff_ne]; exact hn
        clear HYZ hn
        obtain ⟨Q, R, hq1, hq2, hq3, hq4⟩ := HC.out.quo h0 12 11 (by omega)
        have HQ1 := Lib.hid hq1
        have HQ2 := Lib.hid hq2
        have HQ3 := Lib.hid hq3
        have HQ4 := Lib.hid hq4
        clear hq1 hq2 hq3 hq4
        obtain ⟨x0, x1, x2, x3, x4, _, _, _, _, _⟩ := HX.out.cells
        obtain ⟨y0, y1, y2, y3, y4, _, _, _, _, _⟩ := HY.out.cells
        go_wp2_with fail
        refine (HQ1.out _).mono ?_
        rintro e w20 ⟨k6, n6, b6, t6, z6, ⟨s6, hil6, rfl, rfl, rfl⟩, rfl, hb⟩
        unfold litv
        have HL6 := Lib.hid hil6
        replace HX := Lib.hid (HX.out.below hb)
        replace HY := Lib.hid (HY.out.below hb)
        replace HW := Lib.hid (HW.out.trans (hb.mono HW.out.size))
        replace HWR := Lib.hid (HWR.out.trans (hb.mono HWR.out.size))
        clear hb hil6
        clear x0 x1 x2 x3 x4 y0 y1 y2 y3 y4
        obtain ⟨T6, hT6⟩ : ∃ T, bs s6 = T := ⟨_, rfl⟩
        have HT6 := Lib.hid hT6
        rw [hT6]
        clear hT6
        have HN6 : Hid (P5 (w20.alloc (.cells #[.int .u8 k6, .int .i64 n6, .int .u64 0, .string T6, .slice none 0 0] 26)) w20.heap.size (.int .u8 k6) (.int .i64 n6) (.int .u64 0) (.string T6) (.slice none 0 0)) := Lib.hid (P5.new _ _ _ _ _ _)
        have hbv : Below w20.heap.size w20 (w20.alloc (.cells #[.int .u8 k6, .int .i64 n6, .int .u64 0, .string T6, .slice none 0 0] 26)) := (Below.refl _ _).alloc (Nat.le_refl _) _
        replace HX := Lib.hid (HX.out.below hbv)
        replace HY := Lib.hid (HY.out.below hbv)
        replace HW := Lib.hid (HW.out.trans (hbv.mono HW.out.size))
        replace HWR := Lib.hid (HWR.out.trans (hbv.mono HWR.out.size))
        clear hbv
        obtain ⟨n60, n61, n62, n63, n64, _, _, _, _, _⟩ := HN6.out.cells
        obtain ⟨x0, x1, x2, x3, x4, _, _, _, _, _⟩ := HX.out.cells
        obtain ⟨y0, y1, y2, y3, y4, _, _, _, _, _⟩ := HY.out.cells
        go_wp2_with fail
        clear n60 n61 n62 n63 n64
        refine (HQ2.out _).mono ?_
        rintro e w21 ⟨k7, n7, b7, t7, z7, ⟨s7, hil7, rfl, rfl, rfl⟩, rfl, hb⟩
        unfold litv
        have HL7 := Lib.hid hil7
        replace HX := Lib.hid (HX.out.below hb)
        replace HY := Lib.hid (HY.out.below hb)
        replace HN6 := Lib.hid (HN6.out.below hb)
        replace HW := Lib.hid (HW.out.trans (hb.mono HW.out.size))
        replace HWR := Lib.hid (HWR.out.trans (hb.mono HWR.out.size))
        clear hb hil7
        clear x0 x1 x2 x3 x4 y0 y1 y2 y3 y4
        obtain ⟨T7, hT7⟩ : ∃ T, bs s7 = T := ⟨_, rfl⟩
        have HT7 := Lib.hid hT7
        rw [hT7]
        clear hT7
        have HN7 : Hid (P5 (w21.alloc (.cells #[.int .u8 k7, .int .i64 n7, .int .u64 0, .string T7, .slice none 0 0] 26)) w21.heap.size (.int .u8 k7) (.int .i64 n7) (.int .u64 0) (.string T7) (.slice none 0 0)) := Lib.hid (P5.new _ _ _ _ _ _)
        have hbv : Below w21.heap.size w21 (w21.alloc (.cells #[.int .u8 k7, .int .i64 n7, .int .u64 0, .string T7, .slice none 0 0] 26)) := (Below.refl _ _).alloc (Nat.le_refl _) _
        replace HX := Lib.hid (HX.out.below hbv)
        replace HY := Lib.hid (HY.out.below hbv)
        replace HN6 := Lib.hid (HN6.out.below hbv)
        replace HW := Lib.hid (HW.out.trans (hbv.mono HW.out.size))
        replace HWR := Lib.hid (HWR.out.trans (hbv.mono HWR.out.size))
        clear hbv
        obtain ⟨n60, n61, n62, n63, n64, _, _, _, _, _⟩ := HN6.out.cells
        obtain ⟨n70, n71, n72, n73, n74, _, _, _, _, _⟩ := HN7.out.cells
        obtain ⟨y0, y1, y2, y3, y4, _, _, _, _, _⟩ := HY.out.cells
        go_wp2_with fail
        clear n70 n71 n72 n73 n74
        have hqm := HQ3.out _ _ _ HL6.out
        rw [HT6.out] at hqm
        refine (hqm _).mono ?_
        rintro e w22 ⟨k8, n8, b8, t8, z8, ⟨s8, hil8, rfl, rfl, rfl⟩, rfl, hb⟩
        unfold litv
        have HL8 := Lib.hid hil8
        replace HX := Lib.hid (HX.out.below hb)
        replace HY := Lib.hid (HY.out.below hb)
        replace HN6 := Lib.hid (HN6.out.below hb)
        replace HN7 := Lib.hid (HN7.out.below hb)
        replace HW := Lib.hid (HW.out.trans (hb.mono HW.out.size))
        replace HWR := Lib.hid (HWR.out.trans (hb.mono HWR.out.size))
        clear hb hil8
        clear y0 y1 y2 y3 y4 n60 n61 n62 n63 n64
        obtain ⟨T8, hT8⟩ : ∃ T, bs s8 = T := ⟨_, rfl⟩
        have HT8 := Lib.hid hT8
        rw [hT8]
        clear hT8
        have HN8 : Hid (P5 (w22.alloc (.cells #[.int .u8 k8, .int .i64 n8, .int .u64 0, .string T8, .slice none 0 0] 26)) w22.heap.size (.int .u8 k8) (.int .i64 n8) (.int .u64 0) (.string T8) (.slice none 0 0)) := Lib.hid (P5.new _ _ _ _ _ _)
        have hbv : Below w22.heap.size w22 (w22.alloc (.cells #[.int .u8 k8, .int .i64 n8, .int .u64 0, .string T8, .slice none 0 0] 26)) := (Below.refl _ _).alloc (Nat.le_refl _) _
        replace HX := Lib.hid (HX.out.below hbv)
        replace HY := Lib.hid (HY.out.below hbv)
        replace HN6 := Lib.hid (HN6.out.below hbv)
        replace HN7 := Lib.hid (HN7.out.below hbv)
        replace HW := Lib.hid (HW.out.trans (hbv.mono HW.out.size))
        replace HWR := Lib.hid (HWR.out.trans (hbv.mono HWR.out.size))
        clear hbv
        obtain ⟨n70, n71, n72, n73, n74, _, _, _, _, _⟩ := HN7.out.cells
        obtain ⟨n80, n81, n82, n83, n84, _, _, _, _, _⟩ := HN8.out.cells
        go_wp2_with fail
        clear hqm
        have hqs := HQ4.out _ _ _ _ _ _ HL8.out HL7.out
        rw [HT8.out, HT7.out] at hqs
        refine (hqs _).mono ?_
        rintro e w23 ⟨k9, n9, b9, t9, z9, ⟨s9, hil9, rfl, rfl, rfl⟩, rfl, hb⟩
        unfold litv
        have HL9 := Lib.hid hil9
        replace HX := Lib.hid (HX.out.below hb)
        replace HY := Lib.hid (HY.out.below hb)
        replace HN6 := Lib.hid (HN6.out.below hb)
        replace HN7 := Lib.hid (HN7.out.below hb)
        replace HN8 := Lib.hid (HN8.out.below hb)
        replace HW := Lib.hid (HW.out.trans (hb.mono HW.out.size))
        replace HWR := Lib.hid (HWR.out.trans (hb.mono HWR.out.size))
        clear hb hil9
        clear n80 n81 n82 n83 n84 n70 n71 n72 n73 n74
        obtain ⟨T9, hT9⟩ : ∃ T, bs s9 = T := ⟨_, rfl⟩
        have HT9 := Lib.hid hT9
        rw [hT9]
        clear hT9
        have HN9 : Hid (P5 (w23.alloc (.cells #[.int .u8 k9, .int .i64 n9, .int .u64 0, .string T9, .slice none 0 0] 26)) w23.heap.size (.int .u8 k9) (.int .i64 n9) (.int .u64 0) (.string T9) (.slice none 0 0)) := Lib.hid (P5.new _ _ _ _ _ _)
        have hbv : Below w23.heap.size w23 (w23.alloc (.cells #[.int .u8 k9, .int .i64 n9, .int .u64 0, .string T9, .slice none 0 0] 26)) := (Below.refl _ _).alloc (Nat.le_refl _) _
        replace HX := Lib.hid (HX.out.below hbv)
        replace HY := Lib.hid (HY.out.below hbv)
        replace HN6 := Lib.hid (HN6.out.below hbv)
        replace HN7 := Lib.hid (HN7.out.below hbv)
        replace HN8 := Lib.hid (HN8.out.below hbv)
        replace HW := Lib.hid (HW.out.trans (hbv.mono HW.out.size))
        replace HWR := Lib.hid (HWR.out.trans (hbv.mono HWR.out.size))
        clear hbv
        obtain ⟨n90, n91, n92, n93, n94, _, _, _, _, _⟩ := HN9.out.cells
        obtain ⟨x0, x1, x2, x3, x4, _, _, _, _, _⟩ := HX.out.cells
        go_wp2_with fail
        clear hqs
        have hsm := HC.out.sameA _ _ _ HL9.out
        rw [HT9.out] at hsm
        refine (hsm _).mono ?_
        rintro e w24 ⟨rfl, hb⟩
        replace HX := Lib.hid (HX.out.below hb)
        replace HY := Lib.hid (HY.out.below hb)
        replace HN6 := Lib.hid (HN6.out.below hb)
        replace HN7 := Lib.hid (HN7.out.below hb)
        replace HN8 := Lib.hid (HN8.out.below hb)
        replace HN9 := Lib.hid (HN9.out.below hb)
        replace HW := Lib.hid (HW.out.trans (hb.mono HW.out.size))
        replace HWR := Lib.hid (HWR.out.trans (hb.mono HWR.out.size))
        clear hb
        clear n90 n91 n92 n93 n94 x0 x1 x2 x3 x4
        go_wp2_with fail
        clear hsm
        go_roundw
        case rel => exact ⟨1, by omega, by go_num, HWR.out⟩
        case measure => simp [RowKit.intOf]
      · clear HYZ
        obtain ⟨Q, R, hq1, hq2, hq3, hq4⟩ := HC.out.quo h0 12 11 (by omega)
        have HQ1 := Lib.hid hq1
        have HQ2 := Lib.hid hq2
        have HQ3 := Lib.hid hq3
        have HQ4 := Lib.hid hq4
        clear hq1 hq2 hq3 hq4
        obtain ⟨x0, x1, x2, x3, x4, _, _, _, _, _⟩ := HX.out.cells
        obtain ⟨y0, y1, y2, y3, y4, _, _, _, _, _⟩ := HY.out.cells
        go_wp2_with fail
        refine (HQ1.out _).mono ?_
        rintro e w20 ⟨k6, n6, b6, t6, z6, ⟨s6, hil6, rfl, rfl, rfl⟩, rfl, hb⟩
        unfold litv
        have HL6 := Lib.hid hil6
        replace HX := Lib.hid (HX.out.below hb)
        replace HY := Lib.hid (HY.out.below hb)
        replace HW := Lib.hid (HW.out.trans (hb.mono HW.out.size))
        replace HWR := Lib.hid (HWR.out.trans (hb.mono HWR.out.size))
        clear hb hil6
        clear x0 x1 x2 x3 x4 y0 y1 y2 y3 y4
        obtain ⟨T6, hT6⟩ : ∃ T, bs s6 = T := ⟨_, rfl⟩
        have HT6 := Lib.hid hT6
        rw [hT6]
        clear hT6
        have HN6 : Hid (P5 (w20.alloc (.cells #[.int .u8 k6, .int .i64 n6, .int .u64 0, .string T6, .slice none 0 0] 26)) w20.heap.size (.int .u8 k6) (.int .i64 n6) (.int .u64 0) (.string T6) (.slice none 0 0)) := Lib.hid (P5.new _ _ _ _ _ _)
        have hbv : Below w20.heap.size w20 (w20.alloc (.cells #[.int .u8 k6, .int .i64 n6, .int .u64 0, .string T6, .slice none 0 0] 26)) := (Below.refl _ _).alloc (Nat.le_refl _) _
        replace HX := Lib.hid (HX.out.below hbv)
        replace HY := Lib.hid (HY.out.below hbv)
        replace HW := Lib.hid (HW.out.trans (hbv.mono HW.out.size))
        replace HWR := Lib.hid (HWR.out.trans (hbv.mono HWR.out.size))
        clear hbv
        obtain ⟨n60, n61, n62, n63, n64, _, _, _, _, _⟩ := HN6.out.cells
        obtain ⟨x0, x1, x2, x3, x4, _, _, _, _, _⟩ := HX.out.cells
        obtain ⟨y0, y1, y2, y3, y4, _, _, _, _, _⟩ := HY.out.cells
        go_wp2_with fail
        clear n60 n61 n62 n63 n64
        refine (HQ2.out _).mono ?_
        rintro e w21 ⟨k7, n7, b7, t7, z7, ⟨s7, hil7, rfl, rfl, rfl⟩, rfl, hb⟩
        unfold litv
        have HL7 := Lib.hid hil7
        replace HX := Lib.hid (HX.out.below hb)
        replace HY := Lib.hid (HY.out.below hb)
        replace HN6 := Lib.hid (HN6.out.below hb)
        replace HW := Lib.hid (HW.out.trans (hb.mono HW.out.size))
        replace HWR := Lib.hid (HWR.out.trans (hb.mono HWR.out.size))
        clear hb hil7
        clear x0 x1 x2 x3 x4 y0 y1 y2 y3 y4
        obtain ⟨T7, hT7⟩ : ∃ T, bs s7 = T := ⟨_, rfl⟩
        have HT7 := Lib.hid hT7
        rw [hT7]
        clear hT7
        have HN7 : Hid (P5 (w21.alloc (.cells #[.int .u8 k7, .int .i64 n7, .int .u64 0, .string T7, .slice none 0 0] 26)) w21.heap.size (.int .u8 k7) (.int .i64 n7) (.int .u64 0) (.string T7) (.slice none 0 0)) := Lib.hid (P5.new _ _ _ _ _ _)
        have hbv : Below w21.heap.size w21 (w21.alloc (.cells #[.int .u8 k7, .int .i64 n7, .int .u64 0, .string T7, .slice none 0 0] 26)) := (Below.refl _ _).alloc (Nat.le_refl _) _
        replace HX := Lib.hid (HX.out.below hbv)
        replace HY := Lib.hid (HY.out.below hbv)
        replace HN6 := Lib.hid (HN6.out.below hbv)
        replace HW := Lib.hid (HW.out.trans (hbv.mono HW.out.size))
        replace HWR := Lib.hid (HWR.out.trans (hbv.mono HWR.out.size))
        clear hbv
        obtain ⟨n60, n61, n62, n63, n64, _, _, _, _, _⟩ := HN6.out.cells
        obtain ⟨n70, n71, n72, n73, n74, _, _, _, _, _⟩ := HN7.out.cells
        obtain ⟨y0, y1, y2, y3, y4, _, _, _, _, _⟩ := HY.out.cells
        go_wp2_with fail
        clear n70 n71 n72 n73 n74
        have hqm := HQ3.out _ _ _ HL6.out
        rw [HT6.out] at hqm
        refine (hqm _).mono ?_
        rintro e w22 ⟨k8, n8, b8, t8, z8, ⟨s8, hil8, rfl, rfl, rfl⟩, rfl, hb⟩
        unfold litv
        have HL8 := Lib.hid hil8
        replace HX := Lib.hid (HX.out.below hb)
        replace HY := Lib.hid (HY.out.below hb)
        replace HN6 := Lib.hid (HN6.out.below hb)
        replace HN7 := Lib.hid (HN7.out.below hb)
        replace HW := Lib.hid (HW.out.trans (hb.mono HW.out.size))
        replace HWR := Lib.hid (HWR.out.trans (hb.mono HWR.out.size))
        clear hb hil8
        clear y0 y1 y2 y3 y4 n60 n61 n62 n63 n64
        obtain ⟨T8, hT8⟩ : ∃ T, bs s8 = T := ⟨_, rfl⟩
        have HT8 := Lib.hid hT8
        rw [hT8]
        clear hT8
        have HN8 : Hid (P5 (w22.alloc (.cells #[.int .u8 k8, .int .i64 n8, .int .u64 0, .string T8, .slice none 0 0] 26)) w22.heap.size (.int .u8 k8) (.int .i64 n8) (.int .u64 0) (.string T8) (.slice none 0 0)) := Lib.hid (P5.new _ _ _ _ _ _)
        have hbv : Below w22.heap.size w22 (w22.alloc (.cells #[.int .u8 k8, .int .i64 n8, .int .u64 0, .string T8, .slice none 0 0] 26)) := (Below.refl _ _).alloc (Nat.le_refl _) _
        replace HX := Lib.hid (HX.out.below hbv)
        replace HY := Lib.hid (HY.out.below hbv)
        replace HN6 := Lib.hid (HN6.out.below hbv)
        replace HN7 := Lib.hid (HN7.out.below hbv)
        replace HW := Lib.hid (HW.out.trans (hbv.mono HW.out.size))
        replace HWR := Lib.hid (HWR.out.trans (hbv.mono HWR.out.size))
        clear hbv
        obtain ⟨n70, n71, n72, n73, n74, _, _, _, _, _⟩ := HN7.out.cells
        obtain ⟨n80, n81, n82, n83, n84, _, _, _, _, _⟩ := HN8.out.cells
        go_wp2_with fail
        clear hqm
        have hqs := HQ4.out _ _ _ _ _ _ HL8.out HL7.out
        rw [HT8.out, HT7.out] at hqs
        refine (hqs _).mono ?_
        rintro e w23 ⟨k9, n9, b9, t9, z9, ⟨s9, hil9, rfl, rfl, rfl⟩, rfl, hb⟩
        unfold litv
        have HL9 := Lib.hid hil9
        replace HX := Lib.hid (HX.out.below hb)
        replace HY := Lib.hid (HY.out.below hb)
        replace HN6 := Lib.hid (HN6.out.below hb)
        replace HN7 := Lib.hid (HN7.out.below hb)
        replace HN8 := Lib.hid (HN8.out.below hb)
        replace HW := Lib.hid (HW.out.trans (hb.mono HW.out.size))
        replace HWR := Lib.hid (HWR.out.trans (hb.mono HWR.out.size))
        clear hb hil9
        clear n80 n81 n82 n83 n84 n70 n71 n72 n73 n74
        obtain ⟨T9, hT9⟩ : ∃ T, bs s9 = T := ⟨_, rfl⟩
        have HT9 := Lib.hid hT9
        rw [hT9]
        clear hT9
        have HN9 : Hid (P5 (w23.alloc (.cells #[.int .u8 k9, .int .i64 n9, .int .u64 0, .string T9, .slice none 0 0] 26)) w23.heap.size (.int .u8 k9) (.int .i64 n9) (.int .u64 0) (.string T9) (.slice none 0 0)) := Lib.hid (P5.new _ _ _ _ _ _)
        have hbv : Below w23.heap.size w23 (w23.alloc (.cells #[.int .u8 k9, .int .i64 n9, .int .u64 0, .string T9, .slice none 0 0] 26)) := (Below.refl _ _).alloc (Nat.le_refl _) _
        replace HX := Lib.hid (HX.out.below hbv)
        replace HY := Lib.hid (HY.out.below hbv)
        replace HN6 := Lib.hid (HN6.out.below hbv)
        replace HN7 := Lib.hid (HN7.out.below hbv)
        replace HN8 := Lib.hid (HN8.out.below hbv)
        replace HW := Lib.hid (HW.out.trans (hbv.mono HW.out.size))
        replace HWR := Lib.hid (HWR.out.trans (hbv.mono HWR.out.size))
        clear hbv
        obtain ⟨n90, n91, n92, n93, n94, _, _, _, _, _⟩ := HN9.out.cells
        obtain ⟨x0, x1, x2, x3, x4, _, _, _, _, _⟩ := HX.out.cells
        go_wp2_with fail
        clear hqs
        have hsm := HC.out.sameA _ _ _ HL9.out
        rw [HT9.out] at hsm
        refine (hsm _).mono ?_
        rintro e w24 ⟨rfl, hb⟩
        replace HX := Lib.hid (HX.out.below hb)
        replace HY := Lib.hid (HY.out.below hb)
        replace HN6 := Lib.hid (HN6.out.below hb)
        replace HN7 := Lib.hid (HN7.out.below hb)
        replace HN8 := Lib.hid (HN8.out.below hb)
        replace HN9 := Lib.hid (HN9.out.below hb)
        replace HW := Lib.hid (HW.out.trans (hb.mono HW.out.size))
        replace HWR := Lib.hid (HWR.out.trans (hb.mono HWR.out.size))
        clear hb
        clear n90 n91 n92 n93 n94 x0 x1 x2 x3 x4
        go_wp2_with fail
        clear hsm
        go_roundw
        case rel => exact ⟨1, by omega, by go_num, HWR.out⟩
        case measure => simp [RowKit.intOf]
    · rcases HYZ.out with ⟨rfl, rfl, h0⟩ | ⟨rfl, hn, h0⟩ | ⟨rfl, h0⟩
      · clear HYZ
        obtain ⟨x0, x1, x2, x3, x4, _, _, _, _, _⟩ := HX.out.cells
        obtain ⟨y0, y1, y2, y3, y4, _, _, _, _, _⟩ := HY.out.cells
        go_wp2_with fail
        refine (HC.out.zero h0 13 (by decide) (by decide) _).mono ?_
        rintro e w20 ⟨k6, n6, b6, t6, z6, ⟨rfl, rfl, rfl, rfl, rfl⟩, rfl, hb⟩
        unfold litv
        replace HX := Lib.hid (HX.out.below hb)
        replace HY := Lib.hid (HY.out.below hb)
        replace HW := Lib.hid (HW.out.trans (hb.mono HW.out.size))
        replace HWR := Lib.hid (HWR.out.trans (hb.mono HWR.out.size))
        clear hb
        clear x0 x1 x2 x3 x4 y0 y1 y2 y3 y4
        have HN6 : Hid (P5 (w20.alloc (.cells #[.int .u8 0, .int .i64 0, .int .u64 0, .string ⟨#[]⟩, .slice none 0 0] 26)) w20.heap.size (.int .u8 0) (.int .i64 0) (.int .u64 0) (.string ⟨#[]⟩) (.slice none 0 0)) := Lib.hid (P5.new _ _ _ _ _ _)
        have hbv : Below w20.heap.size w20 (w20.alloc (.cells #[.int .u8 0, .int .i64 0, .int .u64 0, .string ⟨#[]⟩, .slice none 0 0] 26)) := (Below.refl _ _).alloc (Nat.le_refl _) _
        replace HX := Lib.hid (HX.out.below hbv)
        replace HY := Lib.hid (HY.out.below hbv)
        replace HW := Lib.hid (HW.out.trans (hbv.mono HW.out.size))
        replace HWR := Lib.hid (HWR.out.trans (hbv.mono HWR.out.size))
        clear hbv
        obtain ⟨n60, n61, n62, n63, n64, _, _, _, _, _⟩ := HN6.out.cells
        obtain ⟨x0, x1, x2, x3, x4, _, _, _, _, _⟩ := HX.out.cells
        obtain ⟨y0, y1, y2, y3, y4, _, _, _, _, _⟩ := HY.out.cells
        go_wp2_with fail
        clear n60 n61 n62 n63 n64
        refine (HC.out.zero h0 14 (by decide) (by decide) _).mono ?_
        rintro e w21 ⟨k7, n7, b7, t7, z7, ⟨rfl, rfl, rfl, rfl, rfl⟩, rfl, hb⟩
        unfold litv
        replace HX := Lib.hid (HX.out.below hb)
        replace HY := Lib.hid (HY.out.below hb)
        replace HN6 := Lib.hid (HN6.out.below hb)
        replace HW := Lib.hid (HW.out.trans (hb.mono HW.out.size))
        replace HWR := Lib.hid (HWR.out.trans (hb.mono HWR.out.size))
        clear hb
        clear x0 x1 x2 x3 x4 y0 y1 y2 y3 y4
        have HN7 : Hid (P5 (w21.alloc (.cells #[.int .u8 0, .int .i64 0, .int .u64 0, .string ⟨#[]⟩, .slice none 0 0] 26)) w21.heap.size (.int .u8 0) (.int .i64 0) (.int .u64 0) (.string ⟨#[]⟩) (.slice none 0 0)) := Lib.hid (P5.new _ _ _ _ _ _)
        have hbv : Below w21.heap.size w21 (w21.alloc (.cells #[.int .u8 0, .int .i64 0, .int .u64 0, .string ⟨#[]⟩, .slice none 0 0] 26)) := (Below.refl _ _).alloc (Nat.le_refl _) _
        replace HX := Lib.hid (HX.out.below hbv)
        replace HY := Lib.hid (HY.out.below hbv)
        replace HN6 := Lib.hid (HN6.out.below hbv)
        replace HW := Lib.hid (HW.out.trans (hbv.mono HW.out.size))
        replace HWR := Lib.hid (HWR.out.trans (hbv.mono HWR.out.size))
        clear hbv
        obtain ⟨n70, n71, n72, n73, n74, _, _, _, _, _⟩ := HN7.out.cells
        obtain ⟨y0, y1, y2, y3, y4, _, _, _, _, _⟩ := HY.out.cells
        go_wp2_with fail
        clear n70 n71 n72 n73 n74
        go_roundw
        case rel => exact ⟨2, by omega, by go_num, HWR.out⟩
        case measure => simp [RowKit.intOf]
      · have hn2 : (ny == 0) = false := by rw [beq_eq_false_iff_ne]; exact hn
        clear HYZ hn
        obtain ⟨Q, R, hq1, hq2, hq3, hq4⟩ := HC.out.quo h0 13 14 (by omega)
        have HQ1 := Lib.hid hq1
        have HQ2 := Lib.hid hq2
        have HQ3 := Lib.hid hq3
        have HQ4 := Lib.hid hq4
        clear hq1 hq2 hq3 hq4
        obtain ⟨x0, x1, x2, x3, x4, _, _, _, _, _⟩ := HX.out.cells
        obtain ⟨y0, y1, y2, y3, y4, _, _, _, _, _⟩ := HY.out.cells
        go_wp2_with fail
        refine (HQ1.out _).mono ?_
        rintro e w20 ⟨k6, n6, b6, t6, z6, ⟨s6, hil6, rfl, rfl, rfl⟩, rfl, hb⟩
        unfold litv
        have HL6 := Lib.hid hil6
        replace HX := Lib.hid (HX.out.below hb)
        replace HY := Lib.hid (HY.out.below hb)
        replace HW := Lib.hid (HW.out.trans (hb.mono HW.out.size))
        replace HWR := Lib.hid (HWR.out.trans (hb.mono HWR.out.size))
        clear hb hil6
        clear x0 x1 x2 x3 x4 y0 y1 y2 y3 y4
        obtain ⟨T6, hT6⟩ : ∃ T, bs s6 = T := ⟨_, rfl⟩
        have HT6 := Lib.hid hT6
        rw [hT6]
        clear hT6
        have HN6 : Hid (P5 (w20.alloc (.cells #[.int .u8 k6, .int .i64 n6, .int .u64 0, .string T6, .slice none 0 0] 26)) w20.heap.size (.int .u8 k6) (.int .i64 n6) (.int .u64 0) (.string T6) (.slice none 0 0)) := Lib.hid (P5.new _ _ _ _ _ _)
        have hbv : Below w20.heap.size w20 (w20.alloc (.cells #[.int .u8 k6, .int .i64 n6, .int .u64 0, .string T6, .slice none 0 0] 26)) := (Below.refl _ _).alloc (Nat.le_refl _) _
        replace HX := Lib.hid (HX.out.below hbv)
        replace HY := Lib.hid (HY.out.below hbv)
        replace HW := Lib.hid (HW.out.trans (hbv.mono HW.out.size))
        replace HWR := Lib.hid (HWR.out.trans (hbv.mono HWR.out.size))
        clear hbv
        obtain ⟨n60, n61, n62, n63, n64, _, _, _, _, _⟩ := HN6.out.cells
        obtain ⟨x0, x1, x2, x3, x4, _, _, _, _, _⟩ := HX.out.cells
        obtain ⟨y0, y1, y2, y3, y4, _, _, _, _, _⟩ := HY.out.cells
        go_wp2_with fail
        clear n60 n61 n62 n63 n64
        refine (HQ2.out _).mono ?_
        rintro e w21 ⟨k7, n7, b7, t7, z7, ⟨s7, hil7, rfl, rfl, rfl⟩, rfl, hb⟩
        unfold litv
        have HL7 := Lib.hid hil7
        replace HX := Lib.hid (HX.out.below hb)
        replace HY := Lib.hid (HY.out.below hb)
        replace HN6 := Lib.hid (HN6.out.below hb)
        replace HW := Lib.hid (HW.out.trans (hb.mono HW.out.size))
        replace HWR := Lib.hid (HWR.out.trans (hb.mono HWR.out.size))
        clear hb hil7
        clear x0 x1 x2 x3 x4 y0 y1 y2 y3 y4
        obtain ⟨T7, hT7⟩ : ∃ T, bs s7 = T := ⟨_, rfl⟩
        have HT7 := Lib.hid hT7
        rw [hT7]
        clear hT7
        have HN7 : Hid (P5 (w21.alloc (.cells #[.int .u8 k7, .int .i64 n7, .int .u64 0, .string T7, .slice none 0 0] 26)) w21.heap.size (.int .u8 k7) (.int .i64 n7) (.int .u64 0) (.string T7) (.slice none 0 0)) := Lib.hid (P5.new _ _ _ _ _ _)
        have hbv : Below w21.heap.size w21 (w21.alloc (.cells #[.int .u8 k7, .int .i64 n7, .int .u64 0, .string T7, .slice none 0 0] 26)) := (Below.refl _ _).alloc (Nat.le_refl _) _
        replace HX := Lib.hid (HX.out.below hbv)
        replace HY := Lib.hid (HY.out.below hbv)
        replace HN6 := Lib.hid (HN6.out.below hbv)
        replace HW := Lib.hid (HW.out.trans (hbv.mono HW.out.size))
        replace HWR := Lib.hid (HWR.out.trans (hbv.mono HWR.out.size))
        clear hbv
        obtain ⟨n60, n61, n62, n63, n64, _, _, _, _, _⟩ := HN6.out.cells
        obtain ⟨n70, n71, n72, n73, n74, _, _, _, _, _⟩ := HN7.out.cells
        obtain ⟨y0, y1, y2, y3, y4, _, _, _, _, _⟩ := HY.out.cells
        go_wp2_with fail
        clear n70 n71 n72 n73 n74
        have hqm := HQ3.out _ _ _ HL6.out
        rw [HT6.out] at hqm
        refine (hqm _).mono ?_
        rintro e w22 ⟨k8, n8, b8, t8, z8, ⟨s8, hil8, rfl, rfl, rfl⟩, rfl, hb⟩
        unfold litv
        have HL8 := Lib.hid hil8
        replace HX := Lib.hid (HX.out.below hb)
        replace HY := Lib.hid (HY.out.below hb)
        replace HN6 := Lib.hid (HN6.out.below hb)
        replace HN7 := Lib.hid (HN7.out.below hb)
        replace HW := Lib.hid (HW.out.trans (hb.mono HW.out.size))
        replace HWR := Lib.hid (HWR.out.trans (hb.mono HWR.out.size))
        clear hb hil8
        clear y0 y1 y2 y3 y4 n60 n61 n62 n63 n64
        obtain ⟨T8, hT8⟩ : ∃ T, bs s8 = T := ⟨_, rfl⟩
        have HT8 := Lib.hid hT8
        rw [hT8]
        clear hT8
        have HN8 : Hid (P5 (w22.alloc (.cells #[.int .u8 k8, .int .i64 n8, .int .u64 0, .string T8, .slice none 0 0] 26)) w22.heap.size (.int .u8 k8) (.int .i64 n8) (.int .u64 0) (.string T8) (.slice none 0 0)) := Lib.hid (P5.new _ _ _ _ _ _)
        have hbv : Below w22.heap.size w22 (w22.alloc (.cells #[.int .u8 k8, .int .i64 n8, .int .u64 0, .string T8, .slice none 0 0] 26)) := (Below.refl _ _).alloc (Nat.le_refl _) _
        replace HX := Lib.hid (HX.out.below hbv)
        replace HY := Lib.hid (HY.out.below hbv)
        replace HN6 := Lib.hid (HN6.out.below hbv)
        replace HN7 := Lib.hid (HN7.out.below hbv)
        replace HW := Lib.hid (HW.out.trans (hbv.mono HW.out.size))
        replace HWR := Lib.hid (HWR.out.trans (hbv.mono HWR.out.size))
        clear hbv
        obtain ⟨n70, n71, n72, n73, n74, _, _, _, _, _⟩ := HN7.out.cells
        obtain ⟨n80, n81, n82, n83, n84, _, _, _, _, _⟩ := HN8.out.cells
        go_wp2_with fail
        clear hqm
        have hqs := HQ4.out _ _ _ _ _ _ HL8.out HL7.out
        rw [HT8.out, HT7.out] at hqs
        refine (hqs _).mono ?_
        rintro e w23 ⟨k9, n9, b9, t9, z9, ⟨s9, hil9, rfl, rfl, rfl⟩, rfl, hb⟩
        unfold litv
        have HL9 := Lib.hid hil9
        replace HX := Lib.hid (HX.out.below hb)
        replace HY := Lib.hid (HY.out.below hb)
        replace HN6 := Lib.hid (HN6.out.below hb)
        replace HN7 := Lib.hid (HN7.out.below hb)
        replace HN8 := Lib.hid (HN8.out.below hb)
        replace HW := Lib.hid (HW.out.trans (hb.mono HW.out.size))
        replace HWR := Lib.hid (HWR.out.trans (hb.mono HWR.out.size))
        clear hb hil9
        clear n80 n81 n82 n83 n84 n70 n71 n72 n73 n74
        obtain ⟨T9, hT9⟩ : ∃ T, bs s9 = T := ⟨_, rfl⟩
        have HT9 := Lib.hid hT9
        rw [hT9]
        clear hT9
        have HN9 : Hid (P5 (w23.alloc (.cells #[.int .u8 k9, .int .i64 n9, .int .u64 0, .string T9, .slice none 0 0] 26)) w23.heap.size (.int .u8 k9) (.int .i64 n9) (.int .u64 0) (.string T9) (.slice none 0 0)) := Lib.hid (P5.new _ _ _ _ _ _)
        have hbv : Below w23.heap.size w23 (w23.alloc (.cells #[.int .u8 k9, .int .i64 n9, .int .u64 0, .string T9, .slice none 0 0] 26)) := (Below.refl _ _).alloc (Nat.le_refl _) _
        replace HX := Lib.hid (HX.out.below hbv)
        replace HY := Lib.hid (HY.out.below hbv)
        replace HN6 := Lib.hid (HN6.out.below hbv)
        replace HN7 := Lib.hid (HN7.out.below hbv)
        replace HN8 := Lib.hid (HN8.out.below hbv)
        replace HW := Lib.hid (HW.out.trans (hbv.mono HW.out.size))
        replace HWR := Lib.hid (HWR.out.trans (hbv.mono HWR.out.size))
        clear hbv
        obtain ⟨n90, n91, n92, n93, n94, _, _, _, _, _⟩ := HN9.out.cells
        obtain ⟨x0, x1, x2, x3, x4, _, _, _, _, _⟩ := HX.out.cells
        go_wp2_with fail
        clear hqs
        have hsm := HC.out.sameA _ _ _ HL9.out
        rw [HT9.out] at hsm
        refine (hsm _).mono ?_
        rintro e w24 ⟨rfl, hb⟩
        replace HX := Lib.hid (HX.out.below hb)
        replace HY := Lib.hid (HY.out.below hb)
        replace HN6 := Lib.hid (HN6.out.below hb)
        replace HN7 := Lib.hid (HN7.out.below hb)
        replace HN8 := Lib.hid (HN8.out.below hb)
        replace HN9 := Lib.hid (HN9.out.below hb)
        replace HW := Lib.hid (HW.out.trans (hb.mono HW.out.size))
        replace HWR := Lib.hid (HWR.out.trans (hb.mono HWR.out.size))
        clear hb
        clear n90 n91 n92 n93 n94 x0 x1 x2 x3 x4
        go_wp2_with fail
        clear hsm
        go_roundw
        case rel => exact ⟨2, by omega, by go_num, HWR.out⟩
        case measure => simp [RowKit.intOf]
      · clear HYZ
        obtain ⟨Q, R, hq1, hq2, hq3, hq4⟩ := HC.out.quo h0 13 14 (by omega)
        have HQ1 := Lib.hid hq1
        have HQ2 := Lib.hid hq2
        have HQ3 := Lib.hid hq3
        have HQ4 := Lib.hid hq4
        clear hq1 hq2 hq3 hq4
        obtain ⟨x0, x1, x2, x3, x4, _, _, _, _, _⟩ := HX.out.cells
        obtain ⟨y0, y1, y2, y3, y4, _, _, _, _, _⟩ := HY.out.cells
        go_wp2_with fail
        refine (HQ1.out _).mono ?_
        rintro e w20 ⟨k6, n6, b6, t6, z6, ⟨s6, hil6, rfl, rfl, rfl⟩, rfl, hb⟩
        unfold litv
        have HL6 := Lib.hid hil6
        replace HX := Lib.hid (HX.out.below hb)
        replace HY := Lib.hid (HY.out.below hb)
        replace HW := Lib.hid (HW.out.trans (hb.mono HW.out.size))
        replace HWR := Lib.hid (HWR.out.trans (hb.mono HWR.out.size))
        clear hb hil6
        clear x0 x1 x2 x3 x4 y0 y1 y2 y3 y4
        obtain ⟨T6, hT6⟩ : ∃ T, bs s6 = T := ⟨_, rfl⟩
        have HT6 := Lib.hid hT6
        rw [hT6]
        clear hT6
        have HN6 : Hid (P5 (w20.alloc (.cells #[.int .u8 k6, .int .i64 n6, .int .u64 0, .string T6, .slice none 0 0] 26)) w20.heap.size (.int .u8 k6) (.int .i64 n6) (.int .u64 0) (.string T6) (.slice none 0 0)) := Lib.hid (P5.new _ _ _ _ _ _)
        have hbv : Below w20.heap.size w20 (w20.alloc (.cells #[.int .u8 k6, .int .i64 n6, .int .u64 0, .string T6, .slice none 0 0] 26)) := (Below.refl _ _).alloc (Nat.le_refl _) _
        replace HX := Lib.hid (HX.out.below hbv)
        replace HY := Lib.hid (HY.out.below hbv)
        replace HW := Lib.hid (HW.out.trans (hbv.mono HW.out.size))
        replace HWR := Lib.hid (HWR.out.trans (hbv.mono HWR.out.size))
        clear hbv
        obtain ⟨n60, n61, n62, n63, n64, _, _, _, _, _⟩ := HN6.out.cells
        obtain ⟨x0, x1, x2, x3, x4, _, _, _, _, _⟩ := HX.out.cells
        obtain ⟨y0, y1, y2, y3, y4, _, _, _, _, _⟩ := HY.out.cells
        go_wp2_with fail
        clear n60 n61 n62 n63 n64
        refine (HQ2.out _).mono ?_
        rintro e w21 ⟨k7, n7, b7, t7, z7, ⟨s7, hil7, rfl, rfl, rfl⟩, rfl, hb⟩
        unfold litv
        have HL7 := Lib.hid hil7
        replace HX := Lib.hid (HX.out.below hb)
        replace HY := Lib.hid (HY.out.below hb)
        replace HN6 := Lib.hid (HN6.out.below hb)
        replace HW := Lib.hid (HW.out.trans (hb.mono HW.out.size))
        replace HWR := Lib.hid (HWR.out.trans (hb.mono HWR.out.size))
        clear hb hil7
        clear x0 x1 x2 x3 x4 y0 y1 y2 y3 y4
        obtain ⟨T7, hT7⟩ : ∃ T, bs s7 = T := ⟨_, rfl⟩
        have HT7 := Lib.hid hT7
        rw [hT7]
        clear hT7
        have HN7 : Hid (P5 (w21.alloc (.cells #[.int .u8 k7, .int .i64 n7, .int .u64 0, .string T7, .slice none 0 0] 26)) w21.heap.size (.int .u8 k7) (.int .i64 n7) (.int .u64 0) (.string T7) (.slice none 0 0)) := Lib.hid (P5.new _ _ _ _ _ _)
        have hbv : Below w21.heap.size w21 (w21.alloc (.cells #[.int .u8 k7, .int .i64 n7, .int .u64 0, .string T7, .slice none 0 0] 26)) := (Below.refl _ _).alloc (Nat.le_refl _) _
        replace HX := Lib.hid (HX.out.below hbv)
        replace HY := Lib.hid (HY.out.below hbv)
        replace HN6 := Lib.hid (HN6.out.below hbv)
        replace HW := Lib.hid (HW.out.trans (hbv.mono HW.out.size))
        replace HWR := Lib.hid (HWR.out.trans (hbv.mono HWR.out.size))
        clear hbv
        obtain ⟨n60, n61, n62, n63, n64, _, _, _, _, _⟩ := HN6.out.cells
        obtain ⟨n70, n71, n72, n73, n74, _, _, _, _, _⟩ := HN7.out.cells
        obtain ⟨y0, y1, y2, y3, y4, _, _, _, _, _⟩ := HY.out.cells
        go_wp2_with fail
        clear n70 n71 n72 n73 n74
        have hqm := HQ3.out _ _ _ HL6.out
        rw [HT6.out] at hqm
        refine (hqm _).mono ?_
        rintro e w22 ⟨k8, n8, b8, t8, z8, ⟨s8, hil8, rfl, rfl, rfl⟩, rfl, hb⟩
        unfold litv
        have HL8 := Lib.hid hil8
        replace HX := Lib.hid (HX.out.below hb)
        replace HY := Lib.hid (HY.out.below hb)
        replace HN6 := Lib.hid (HN6.out.below hb)
        replace HN7 := Lib.hid (HN7.out.below hb)
        replace HW := Lib.hid (HW.out.trans (hb.mono HW.out.size))
        replace HWR := Lib.hid (HWR.out.trans (hb.mono HWR.out.size))
        clear hb hil8
        clear y0 y1 y2 y3 y4 n60 n61 n62 n63 n64
        obtain ⟨T8, hT8⟩ : ∃ T, bs s8 = T := ⟨_, rfl⟩
        have HT8 := Lib.hid hT8
        rw [hT8]
        clear hT8
        have HN8 : Hid (P5 (w22.alloc (.cells #[.int .u8 k8, .int .i64 n8, .int .u64 0, .string T8, .slice none 0 0] 26)) w22.heap.size (.int .u8 k8) (.int .i64 n8) (.int .u64 0) (.string T8) (.slice none 0 0)) := Lib.hid (P5.new _ _ _ _ _ _)
        have hbv : Below w22.heap.size w22 (w22.alloc (.cells #[.int .u8 k8, .int .i64 n8, .int .u64 0, .string T8, .slice none 0 0] 26)) := (Below.refl _ _).alloc (Nat.le_refl _) _
        replace HX := Lib.hid (HX.out.below hbv)
        replace HY := Lib.hid (HY.out.below hbv)
        replace HN6 := Lib.hid (HN6.out.below hbv)
        replace HN7 := Lib.hid (HN7.out.below hbv)
        replace HW := Lib.hid (HW.out.trans (hbv.mono HW.out.size))
        replace HWR := Lib.hid (HWR.out.trans (hbv.mono HWR.out.size))
        clear hbv
        obtain ⟨n70, n71, n72, n73, n74, _, _, _, _, _⟩ := HN7.out.cells
        obtain ⟨n80, n81, n82, n83, n84, _, _, _, _, _⟩ := HN8.out.cells
        go_wp2_with fail
        clear hqm
        have hqs := HQ4.out _ _ _ _ _ _ HL8.out HL7.out
        rw [HT8.out, HT7.out] at hqs
        refine (hqs _).mono ?_
        rintro e w23 ⟨k9, n9, b9, t9, z9, ⟨s9, hil9, rfl, rfl, rfl⟩, rfl, hb⟩
        unfold litv
        have HL9 := Lib.hid hil9
        replace HX := Lib.hid (HX.out.below hb)
        replace HY := Lib.hid (HY.out.below hb)
        replace HN6 := Lib.hid (HN6.out.below hb)
        replace HN7 := Lib.hid (HN7.out.below hb)
        replace HN8 := Lib.hid (HN8.out.below hb)
        replace HW := Lib.hid (HW.out.trans (hb.mono HW.out.size))
        replace HWR := Lib.hid (HWR.out.trans (hb.mono HWR.out.size))
        clear hb hil9
        clear n80 n81 n82 n83 n84 n70 n71 n72 n73 n74
        obtain ⟨T9, hT9⟩ : ∃ T, bs s9 = T := ⟨_, rfl⟩
        have HT9 := Lib.hid hT9
        rw [hT9]
        clear hT9
        have HN9 : Hid (P5 (w23.alloc (.cells #[.int .u8 k9, .int .i64 n9, .int .u64 0, .string T9, .slice none 0 0] 26)) w23.heap.size (.int .u8 k9) (.int .i64 n9) (.int .u64 0) (.string T9) (.slice none 0 0)) := Lib.hid (P5.new _ _ _ _ _ _)
        have hbv : Below w23.heap.size w23 (w23.alloc (.cells #[.int .u8 k9, .int .i64 n9, .int .u64 0, .string T9, .slice none 0 0] 26)) := (Below.refl _ _).alloc (Nat.le_refl _) _
        replace HX := Lib.hid (HX.out.below hbv)
        replace HY := Lib.hid (HY.out.below hbv)
        replace HN6 := Lib.hid (HN6.out.below hbv)
        replace HN7 := Lib.hid (HN7.out.below hbv)
        replace HN8 := Lib.hid (HN8.out.below hbv)
        replace HW := Lib.hid (HW.out.trans (hbv.mono HW.out.size))
        replace HWR := Lib.hid (HWR.out.trans (hbv.mono HWR.out.size))
        clear hbv
        obtain ⟨n90, n91, n92, n93, n94, _, _, _, _, _⟩ := HN9.out.cells
        obtain ⟨x0, x1, x2, x3, x4, _, _, _, _, _⟩ := HX.out.cells
        go_wp2_with fail
        clear hqs
        have hsm := HC.out.sameA _ _ _ HL9.out
        rw [HT9.out] at hsm
        refine (hsm _).mono ?_
        rintro e w24 ⟨rfl, hb⟩
        replace HX := Lib.hid (HX.out.below hb)
        replace HY := Lib.hid (HY.out.below hb)
        replace HN6 := Lib.hid (HN6.out.below hb)
        replace HN7 := Lib.hid (HN7.out.below hb)
        replace HN8 := Lib.hid (HN8.out.below hb)
        replace HN9 := Lib.hid (HN9.out.below hb)
        replace HW := Lib.hid (HW.out.trans (hb.mono HW.out.size))
        replace HWR := Lib.hid (HWR.out.trans (hb.mono HWR.out.size))
        clear hb
        clear n90 n91 n92 n93 n94 x0 x1 x2 x3 x4
        go_wp2_with fail
        clear hsm
        go_roundw
        case rel => exact ⟨2, by omega, by go_num, HWR.out⟩
        case measure => simp [RowKit.intOf]
    · go_wp2_with fail
      go_ret
      exact ⟨rfl, HW.out⟩
end Go.Proofs.YtlodbibagmblkaaGreatDoor
