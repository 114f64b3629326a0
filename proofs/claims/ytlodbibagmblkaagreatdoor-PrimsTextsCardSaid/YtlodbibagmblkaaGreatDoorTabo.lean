/- Numbers' texts read again: the walk of PrimsTexts (printed by gen_ptx.py). -/
import Derived.Test.YtlodbibagmblkaaGreatDoorTabn
import Derived.Test.YtlodbibagmblkaaGreatDoorTaam
namespace Go.Proofs.YtlodbibagmblkaaGreatDoor
open Go Go.RowKit Go.Lib
set_option maxRecDepth 4000 in
set_option maxHeartbeats 16000000 in
/-- A number's text is read as that number, a float's as that float -/
theorem texts_law (kx nx bx : Int) (lx : List UInt8) (ax : Option Addr) (nlx cx bits : Nat) (w : World) (q1 : -9223372036854775808 ≤ nx) (q2 : nx ≤ 9223372036854775807) (hbits : bits < 18446744073709551616) (he : Env w)
    (hfar : ∀ W, Below w.heap.size w W → Calls Tryz.prog 7 #[.slice (some ⟨W.heap.size, 0, none⟩) 1 1] (W.alloc (.cells #[.int .u8 kx, .int .i64 nx, .int .u64 bx, .string (bs lx), .slice ax nlx cx] 26)) fun e w' => (∃ t : Bool, e = .returned (.bool t) ∧ (t = false → lx.length ≤ 300000)) ∧ Below W.heap.size W w') :
    Calls Tryz.prog 4 #[litv kx nx bx (bs lx) (.slice ax nlx cx), .int .u64 bits] w fun e w' => e = .returned (.bool true) ∧ Below w.heap.size w w' := by
  have HAW := Lib.hid (fun W => law21_awake W)
  have HFAR := Lib.hid hfar
  have HSM := Lib.hid (fun n W => lsm_any n W)
  have HVX := Lib.hid (fun (h : lx.length ≤ 300000) W => rvalueI_any kx nx bx lx ax nlx cx W h q1 q2)
  have HWT := Lib.hid (fun (A : Int) (h : IsI kx nx bx lx nlx A) (hl : lx.length ≤ 300000) => (show ∃ e : nlx = 0, _ from ⟨h.1, whole_texts (ax := ax) (cx := cx) (by have := h; rw [h.1] at this; exact this) hl⟩))
  obtain ⟨s6, num, k6, b6, hnum, hk6, hs6, h56, h71⟩ := float_texts hbits
  have HD56 := Lib.hid h56
  have HD71 := Lib.hid h71
  have HE := Lib.hid he
  have HNB : Hid (num = true → ∀ W, Calls Tryz.prog 10 #[litv 6 0 bits ⟨#[]⟩ (.slice none 0 0), litv k6 0 b6 ⟨#[]⟩ (.slice none 0 0)] W fun e w' => e = .returned (.bool true) ∧ Below W.heap.size W w') := Lib.hid (fun h W => by
    obtain ⟨rfl, rfl⟩ := hk6 h
    have := slf_any 6 0 bits 6 0 bits ⟨#[]⟩ ⟨#[]⟩ none none 0 0 W
    rwa [decide_eq_true ⟨rfl, rfl, rfl, rfl⟩] at this)
  have hnb : (Go.bits .and .u64 ((bits : Int) / 4503599627370496) 2047 != 2047) = num := by
    rw [bits_exu bits hbits, hnum, Bool.eq_iff_iff, bne_iff_ne, decide_eq_true_iff]
    omega
  have hsx : (bs lx).size = lx.length := rfl
  have HSX := Lib.hid (show bs lx = bs lx from rfl)
  unfold litv at *
  obtain ⟨sx, hsxe⟩ : ∃ x, bs lx = x := ⟨_, rfl⟩
  rw [hsxe] at HFAR HVX HWT hsx ⊢
  clear hsxe HSX hfar q1 q2 he h56 h71 hnum hk6
  obtain ⟨W2, hW2⟩ : ∃ W2, w.alloc (.cells #[.int .u8 kx, .int .i64 nx, .int .u64 bx, .string sx, .slice ax nlx cx] 26) = W2 := ⟨_, rfl⟩
  have HX : Hid (P5 W2 w.heap.size (.int .u8 kx) (.int .i64 nx) (.int .u64 bx) (.string sx) (.slice ax nlx cx)) := Lib.hid (by rw [← hW2]; exact P5.new _ _ _ _ _ _)
  have HW : Hid (Below w.heap.size w W2) := Lib.hid (by rw [← hW2]; exact (Below.refl _ _).alloc (Nat.le_refl _) _)
  replace HE := Lib.hid (HE.out.below HW.out)
  go_enter Tryz.func4, Tryz.ntmps4
  go_wp2_with fail
  refine (HAW.out _).mono ?_
  rintro e w1 ⟨rfl, hb⟩
  replace HX := Lib.hid (HX.out.below hb)
  replace HE := Lib.hid (HE.out.below hb)
  replace HW := Lib.hid (HW.out.trans (hb.mono HW.out.size))
  clear hb hW2
  obtain ⟨x0, x1, x2, x3, x4, _, _, _, _, _⟩ := HX.out.cells
  go_wp2_with fail
  refine (HFAR.out _ HW.out).mono ?_
  rintro e w2 ⟨⟨t, rfl, ht⟩, hb⟩
  replace HX := Lib.hid (HX.out.below hb)
  replace HE := Lib.hid (HE.out.below hb)
  replace HW := Lib.hid (HW.out.trans (hb.mono HW.out.size))
  clear hb
  clear x0 x1 x2 x3 x4
  cases t
  case true =>
    clear ht
    go_wp2_with fail
    go_ret
    exact ⟨rfl, HW.out⟩
  have g1 := ht rfl
  replace HVX := Lib.hid (HVX.out g1)
  replace HWT := Lib.hid (fun A h => HWT.out A h g1)
  have hz1 : sx.size ≤ 300000 := by omega
  clear ht g1
  have HF : Hid (P5 (w2.alloc (.cells #[.int .u8 6, .int .i64 0, .int .u64 bits, .string ⟨#[]⟩, .slice none 0 0] 26)) w2.heap.size (.int .u8 6) (.int .i64 0) (.int .u64 bits) (.string ⟨#[]⟩) (.slice none 0 0)) := Lib.hid (P5.new _ _ _ _ _ _)
  have hbv : Below w2.heap.size w2 (w2.alloc (.cells #[.int .u8 6, .int .i64 0, .int .u64 bits, .string ⟨#[]⟩, .slice none 0 0] 26)) := (Below.refl _ _).alloc (Nat.le_refl _) _
  replace HX := Lib.hid (HX.out.below hbv)
  replace HE := Lib.hid (HE.out.below hbv)
  replace HW := Lib.hid (HW.out.trans (hbv.mono HW.out.size))
  clear hbv
  obtain ⟨f0, f1, f2, f3, f4, _, _, _, _, _⟩ := HF.out.cells
  go_wp2_with fail
  refine (HD56.out _ (HE.out.below ((Below.refl _ _).alloc (Nat.le_refl _) _)) _ (trow_c _ _ [tfl bits] _ _ rfl _ rfl)).mono ?_
  rintro e w3 ⟨k, n, b, t, z, ⟨rfl, rfl, rfl, ht, rfl⟩, rfl, hb0⟩
  have ht2 := ht.symm
  subst ht2
  clear ht
  unfold litv
  have hb := (((Below.refl _ _).alloc (Nat.le_refl _) _).trans (hb0.mono (by simp)) : Below (w2.alloc (.cells #[.int .u8 6, .int .i64 0, .int .u64 bits, .string ⟨#[]⟩, .slice none 0 0] 26)).heap.size (w2.alloc (.cells #[.int .u8 6, .int .i64 0, .int .u64 bits, .string ⟨#[]⟩, .slice none 0 0] 26)) w3)
  replace HX := Lib.hid (HX.out.below hb)
  replace HF := Lib.hid (HF.out.below hb)
  replace HE := Lib.hid (HE.out.below hb)
  replace HW := Lib.hid (HW.out.trans (hb.mono HW.out.size))
  clear hb hb0
  clear f0 f1 f2 f3 f4
  have HS : Hid (P5 (w3.alloc (.cells #[.int .u8 8, .int .i64 0, .int .u64 0, .string s6, .slice none 0 0] 26)) w3.heap.size (.int .u8 8) (.int .i64 0) (.int .u64 0) (.string s6) (.slice none 0 0)) := Lib.hid (P5.new _ _ _ _ _ _)
  have hbv : Below w3.heap.size w3 (w3.alloc (.cells #[.int .u8 8, .int .i64 0, .int .u64 0, .string s6, .slice none 0 0] 26)) := (Below.refl _ _).alloc (Nat.le_refl _) _
  replace HX := Lib.hid (HX.out.below hbv)
  replace HF := Lib.hid (HF.out.below hbv)
  replace HE := Lib.hid (HE.out.below hbv)
  replace HW := Lib.hid (HW.out.trans (hbv.mono HW.out.size))
  clear hbv
  obtain ⟨s0, s1, s2, s3, s4, _, _, _, _, _⟩ := HS.out.cells
  go_wp2_with fail
  refine (HD71.out _ (HE.out.below ((Below.refl _ _).alloc (Nat.le_refl _) _)) _ (trow_c _ _ [tst _] _ _ rfl _ rfl)).mono ?_
  rintro e w4 ⟨k, n, b, t, z, ⟨rfl, rfl, rfl, rfl, rfl⟩, rfl, hb0⟩
  unfold litv
  have hb := (((Below.refl _ _).alloc (Nat.le_refl _) _).trans (hb0.mono (by simp)) : Below (w3.alloc (.cells #[.int .u8 8, .int .i64 0, .int .u64 0, .string s6, .slice none 0 0] 26)).heap.size (w3.alloc (.cells #[.int .u8 8, .int .i64 0, .int .u64 0, .string s6, .slice none 0 0] 26)) w4)
  replace HX := Lib.hid (HX.out.below hb)
  replace HF := Lib.hid (HF.out.below hb)
  replace HE := Lib.hid (HE.out.below hb)
  replace HW := Lib.hid (HW.out.trans (hb.mono HW.out.size))
  clear hb hb0 HS
  clear s0 s1 s2 s3 s4
  have HG : Hid (P5 (w4.alloc (.cells #[.int .u8 k6, .int .i64 0, .int .u64 b6, .string ⟨#[]⟩, .slice none 0 0] 26)) w4.heap.size (.int .u8 k6) (.int .i64 0) (.int .u64 b6) (.string ⟨#[]⟩) (.slice none 0 0)) := Lib.hid (P5.new _ _ _ _ _ _)
  have hbv : Below w4.heap.size w4 (w4.alloc (.cells #[.int .u8 k6, .int .i64 0, .int .u64 b6, .string ⟨#[]⟩, .slice none 0 0] 26)) := (Below.refl _ _).alloc (Nat.le_refl _) _
  replace HX := Lib.hid (HX.out.below hbv)
  replace HF := Lib.hid (HF.out.below hbv)
  replace HE := Lib.hid (HE.out.below hbv)
  replace HW := Lib.hid (HW.out.trans (hbv.mono HW.out.size))
  clear hbv
  obtain ⟨x0, x1, x2, x3, x4, _, _, _, _, _⟩ := HX.out.cells
  obtain ⟨f0, f1, f2, f3, f4, _, _, _, _, _⟩ := HF.out.cells
  obtain ⟨g0, g1, g2, g3, g4, _, _, _, _, _⟩ := HG.out.cells
  cases num
  case' true =>
    go_wp2_with fail
    refine ((HNB.out trivial) _).mono ?_
    rintro e w5 ⟨rfl, hb⟩
    replace HX := Lib.hid (HX.out.below hb)
    replace HE := Lib.hid (HE.out.below hb)
    replace HW := Lib.hid (HW.out.trans (hb.mono HW.out.size))
    clear hb
    clear x0 x1 x2 x3 x4 f0 f1 f2 f3 f4 g0 g1 g2 g3 g4
    obtain ⟨x0, x1, x2, x3, x4, _, _, _, _, _⟩ := HX.out.cells
    go_wp2_with fail
  case' false =>
    clear f0 f1 f2 f3 f4 g0 g1 g2 g3 g4
    go_wp2_with fail
  all_goals
    refine (HVX.out _).mono ?_
    rintro e w6 ⟨⟨t, rfl, ht⟩, hb⟩
    have HTX := Lib.hid ht
    replace HX := Lib.hid (HX.out.below hb)
    replace HE := Lib.hid (HE.out.below hb)
    replace HW := Lib.hid (HW.out.trans (hb.mono HW.out.size))
    clear hb ht
    clear x0 x1 x2 x3 x4
    cases t
    case false =>
      go_wp2_with fail
      go_ret
      exact ⟨rfl, HW.out⟩
    obtain ⟨A, hA⟩ := HTX.out.1 (by first | trivial | rfl)
    obtain ⟨he0, h20, h70, hsm⟩ := HWT.out A hA
    subst he0
    have HD20 := Lib.hid h20
    have HD70 := Lib.hid h70
    have HSL := Lib.hid hsm
    clear hA h20 h70 hsm HTX HWT HVX HNB HD56 HD71 HFAR HAW HF HG hnb
    unfold litv at HD20 HSL
    obtain ⟨x0, x1, x2, x3, x4, _, _, _, _, _⟩ := HX.out.cells
    go_wp2_with fail
    have hxl := HX.out.lt
    have HS : Hid (∀ W, Below w6.heap.size w6 W → W.cell? ⟨w.heap.size, 0, none⟩ = some (.int .u8 kx) ∧ W.cell? ⟨w.heap.size, 1, none⟩ = some (.int .i64 nx) ∧ W.cell? ⟨w.heap.size, 2, none⟩ = some (.int .u64 bx) ∧ W.cell? ⟨w.heap.size, 3, none⟩ = some (.string sx) ∧ W.cell? ⟨w.heap.size, 4, none⟩ = some (.slice ax 0 cx)) := Lib.hid (fun W hb => by obtain ⟨x0, x1, x2, x3, x4, _, _, _, _, _⟩ := (HX.out.below hb).cells; exact ⟨x0, x1, x2, x3, x4⟩)
    have BD := Lib.hid (show Below w6.heap.size w6 w6.drew from (Below.refl _ w6).drew)
    have BA := Lib.hid (show ∀ o, Below w6.heap.size w6 (w6.alloc o).drew from fun o => ((Below.refl _ w6).alloc (Nat.le_refl _) o).drew)
    go_cut [13, 14] from 65 to 93 (fun s13 s14 wx => ∃ (k : Nat) (q : List UInt8), s13 = .pointer (some ⟨k, 0, none⟩) ∧ s14 = .bool true ∧ P5 wx k (.int .u8 8) (.int .i64 0) (.int .u64 0) (.string (bs q)) (.slice none 0 0) ∧ Pl.IntT 10 q A ∧ q.length ≤ 40000 ∧ Below w6.heap.size w6 wx)
    case first =>
      go_region_held3 (fun W => W.cell? ⟨w.heap.size, 0, none⟩ = some (.int .u8 kx) ∧ W.cell? ⟨w.heap.size, 1, none⟩ = some (.int .i64 nx) ∧ W.cell? ⟨w.heap.size, 2, none⟩ = some (.int .u64 bx) ∧ W.cell? ⟨w.heap.size, 3, none⟩ = some (.string sx) ∧ W.cell? ⟨w.heap.size, 4, none⟩ = some (.slice ax 0 cx)) (first | with_reducible exact ⟨x0, x1, x2, x3, x4⟩ | with_reducible exact HS.out _ BD.out | with_reducible exact HS.out _ (BA.out _) | with_reducible exact HS.out _ hb4 | with_reducible exact HS.out _ (hb4.alloc hb4.size _) | with_reducible exact HS.out _ hb6 | with_reducible exact HS.out _ (hb6.alloc hb6.size _) | with_reducible exact HS.out _ (below_set5 hb6 (by omega) _ _ _ _ _)) (first
        | (go_at_call 12; (with_reducible refine (HSM.out _ _).mono ?_); rintro e w40 ⟨rfl, hb4d⟩; (first | (have hb4 : Below w6.heap.size w6 w40 := BD.out.trans hb4d) | (have hb4 : Below w6.heap.size w6 w40 := (BA.out _).trans (hb4d.mono (by simp)); have LA4 : P5 w40 w6.heap.size (.int .u8 0) (.int .i64 0) (.int .u64 0) (.string ⟨#[]⟩) (.slice none 0 0) := (P5.new w6 _ _ _ _ _).drew.below hb4d; obtain ⟨z0, z1, z2, z3, z4, y0, y1, y2, y3, y4⟩ := LA4.cells)); have hs4 := hb4.size; clear hb4d)
        | (go_at_call 9; (with_reducible refine (HD20.out _).mono ?_); rintro e w41 ⟨k3, n3, b3, t3, is3, hP, rfl, hb5⟩; (first | (have hb6 : Below w6.heap.size w6 w41 := hb4.trans (hb5.mono hs4); (first | (have LA5 : P5 w41 w6.heap.size (.int .u8 0) (.int .i64 0) (.int .u64 0) (.string ⟨#[]⟩) (.slice none 0 0) := LA4.below hb5; obtain ⟨z0, z1, z2, z3, z4, y0, y1, y2, y3, y4⟩ := LA5.cells) | skip)) | (have hb6 : Below w6.heap.size w6 w41 := (hb4.alloc hs4 _).trans (hb5.mono (by simp; omega)); have LA5 : P5 w41 w40.heap.size (.int .u8 0) (.int .i64 0) (.int .u64 0) (.string ⟨#[]⟩) (.slice none 0 0) := (P5.new w40 _ _ _ _ _).below hb5; obtain ⟨z0, z1, z2, z3, z4, y0, y1, y2, y3, y4⟩ := LA5.cells)); obtain ⟨q8, rfl, rfl, rfl, rfl, rfl, hq1, hq2⟩ := hP; have HQ1 := Lib.hid hq1; have HQ2 := Lib.hid hq2; clear hq1 hq2; unfold litv))
      all_goals
        go_wp2_with fail
        go_meet
        case rel => first | exact ⟨_, q8, rfl, rfl, LA5.set _ _ _ _ _, HQ1.out, HQ2.out, below_set5 hb6 (by omega) _ _ _ _ _⟩ | exact ⟨_, q8, rfl, rfl, P5.new w41 _ _ _ _ _, HQ1.out, HQ2.out, hb6.alloc hb6.size _⟩
    case rest =>
      obtain ⟨kc, q, rfl, rfl, hC, hq1, hq2, hb⟩ := hcut
      have HC := Lib.hid hC
      have HD7 := Lib.hid (HD70.out q hq1 hq2)
      replace HX := Lib.hid (HX.out.below hb)
      replace HE := Lib.hid (HE.out.below hb)
      replace HW := Lib.hid (HW.out.trans (hb.mono HW.out.size))
      clear hb hC HS BD BA HD20 HD70 hq1 hq2
      clear x0 x1 x2 x3 x4
      obtain ⟨c0, c1, c2, c3, c4, _, _, _, _, _⟩ := HC.out.cells
      go_wp2_with fail
      refine (HD7.out _ (HE.out.below ((Below.refl _ _).alloc (Nat.le_refl _) _)) _ (trow_new _ [tst _] _ _ rfl _ rfl)).mono ?_
      rintro e w8 ⟨k, n, b, t, z, ⟨rfl, p, rfl, hp⟩, rfl, hb0⟩
      have HPP : Hid (255 < lx.length ∨ (z = true ∧ IntLit A k n p)) := Lib.hid (by rcases hp with h | h; exact .inr h; exact .inl h.2.1)
      unfold litv
      have hb := (((Below.refl _ _).alloc (Nat.le_refl _) _).trans (hb0.mono (by simp)) : Below wc.heap.size wc w8)
      replace HX := Lib.hid (HX.out.below hb)
      replace HE := Lib.hid (HE.out.below hb)
      replace HW := Lib.hid (HW.out.trans (hb.mono HW.out.size))
      clear hb hb0 hp HC HD7
      clear c0 c1 c2 c3 c4
      obtain ⟨P, hP⟩ : ∃ P, bs p = P := ⟨_, rfl⟩
      have HP := Lib.hid hP
      rw [hP]
      clear hP
      have HN : Hid (P5 (w8.alloc (.cells #[.int .u8 k, .int .i64 n, .int .u64 0, .string P, .slice none 0 0] 26)) w8.heap.size (.int .u8 k) (.int .i64 n) (.int .u64 0) (.string P) (.slice none 0 0)) := Lib.hid (P5.new _ _ _ _ _ _)
      have hbv : Below w8.heap.size w8 (w8.alloc (.cells #[.int .u8 k, .int .i64 n, .int .u64 0, .string P, .slice none 0 0] 26)) := (Below.refl _ _).alloc (Nat.le_refl _) _
      replace HX := Lib.hid (HX.out.below hbv)
      replace HE := Lib.hid (HE.out.below hbv)
      replace HW := Lib.hid (HW.out.trans (hbv.mono HW.out.size))
      clear hbv
      obtain ⟨x0, x1, x2, x3, x4, _, _, _, _, _⟩ := HX.out.cells
      obtain ⟨n0, n1, n2, n3, n4, _, _, _, _, _⟩ := HN.out.cells
      by_cases hlg : 255 < lx.length
      case pos =>
        have hd : decide ((255 : Int) < (sx.size : Int)) = true := decide_eq_true (by omega)
        clear hsx hlg
        go_wp2_with fail
        go_ret
        exact ⟨rfl, HW.out⟩
      have hd : decide ((255 : Int) < (sx.size : Int)) = false := decide_eq_false (by omega)
      obtain ⟨rfl, hil⟩ := HPP.out.resolve_left hlg
      have HSM2 := Lib.hid (HSL.out _ _ _ hil)
      rw [HP.out] at HSM2
      clear hsx hlg hil HSL HPP
      go_wp2_with fail
      refine (HSM2.out _).mono ?_
      rintro e w9 ⟨rfl, hb⟩
      replace HW := Lib.hid (HW.out.trans (hb.mono HW.out.size))
      clear hb
      go_wp2_with fail
      go_ret
      exact ⟨rfl, HW.out⟩
end Go.Proofs.YtlodbibagmblkaaGreatDoor
