/- scan.whole and scan.Integer of a whole number's digits (printed by gen_scw.py). Floats and texts done: Do at 20, 56, 70, 71. Plain facts: sums, products and quotients of floats are the exact ones, rounded once; where they fit they are exact. Plain: whole numbers times and by powers of ten, as floats. Plain: the exact road of reading: what stays small is exact. -/
import Derived.Test.YtlodbibagmblkaaGreatDoorTaba
import Derived.Test.YtlodbibagmblkaaGreatDoorTaas
import Derived.Test.YtlodbibagmblkaaGreatDoorTaat
import Derived.Test.YtlodbibagmblkaaGreatDoorTaam
import Derived.Test.YtlodbibagmblkaaGreatDoorTaab
namespace Go.Proofs.YtlodbibagmblkaaGreatDoor
open Go Go.RowKit Go.Lib
set_option maxRecDepth 4000 in
set_option maxHeartbeats 4000000 in
theorem swhole_pos (l : List UInt8) (V : Nat) (ev : Value) (w : World) (h : Pl.CanT 10 l V) (hl : l.length ≤ 300) (hv : w.cell? ⟨5, 0, none⟩ = some ev) (hg : 5 < w.heap.size) (hev : ev = .nilIface ∨ ∃ te pe, ev = .iface te pe) (ht : Pl.IntT 10 l (V : Int)) :
    Calls Tryz.prog 166 #[.string (bs l), .bool false] w fun e w' => ∃ k n s, IntLit (V : Int) k n s ∧ e = .returned (litv k n 0 (bs s) (.slice none 0 0)) ∧ Below w.heap.size w w' := by
  have hd := Pl.canT_digits h
  have hsz : (bs l).size = l.length := rfl
  obtain ⟨W1, hW1⟩ : ∃ W1, w.alloc (.cells #[.int .u8 0, .int .i64 0, .int .u64 0, .string ⟨#[]⟩, .slice none 0 0] 26) = W1 := ⟨_, rfl⟩
  have HP : Hid (P5 W1 w.heap.size (.int .u8 0) (.int .i64 0) (.int .u64 0) (.string ⟨#[]⟩) (.slice none 0 0)) := Lib.hid (by rw [← hW1]; exact P5.new _ _ _ _ _ _)
  have HB : Hid (Below w.heap.size w W1) := Lib.hid (by rw [← hW1]; exact (Below.refl _ _).alloc (Nat.le_refl _) _)
  have hv1 : W1.cell? ⟨5, 0, none⟩ = some ev := by rw [HB.out.cell (p := ⟨5, 0, none⟩) hg]; exact hv
  have HLG : Hid (¬ FitsI (V : Int) → IntLit (V : Int) 5 0 l) := Lib.hid (fun hf => .inr ⟨hf, rfl, rfl, ht, by first | omega | (simp only [List.length_cons]; omega)⟩)
  have hpars := fun hlen => Pl.parse_digits h hd hlen
  have hbig := fun hlen => Pl.canT_big h hlen
  have hsl : (bs l).size ≤ 300 := hl
  clear hd h ht hv hg
  obtain ⟨c0, c1, c2, c3, c4, f0, f1, f2, f3, f4⟩ := HP.out.cells
  unfold litv
  by_cases hlen : l.length ≤ 19
  · have hp := hpars hlen
    have hls : decide ((l.length : Int) ≤ 19) = true := decide_eq_true (by omega)
    by_cases hr : 9223372036854775808 ≤ V
    · rw [if_pos hr] at hp
      have HIL := Lib.hid (HLG.out (by unfold FitsI; omega))
      have HPI := Lib.hid (Tryz.strconv_ParseInt_range (bs l) (by omega) hp ev W1 hv1 hev)
      clear hpars hbig hp HLG hev
      rw [← hsz] at hls
      clear hsz hlen hl
      obtain ⟨S, hS⟩ : ∃ x, bs l = x := ⟨_, rfl⟩
      rw [hS] at hls hsl ⊢
      try rw [hS] at HPI
      have HS := Lib.hid hS
      clear hS
      go_enter Tryz.func166, Tryz.ntmps166
      go_wp2_with fail
      refine HPI.out.mono ?_
      rintro e w2 ⟨N, rfl, _, _, hb2⟩
      replace HP := Lib.hid (HP.out.below hb2)
      replace HB := Lib.hid (HB.out.trans (hb2.mono HB.out.size))
      clear hb2 c0 c1 c2 c3 c4 f0 f1 f2 f3 f4 hv1
      obtain ⟨c0, c1, c2, c3, c4, f0, f1, f2, f3, f4⟩ := HP.out.cells
      go_wp2_with fail
      obtain ⟨k0, k1, k2, k3, k4, _, _, _, _, _⟩ := (HP.out.set (.int .u8 5) (.int .i64 0) (.int .u64 0) (.string S) (.slice none 0 0)).cells
      exact bodyPost_ret (v := .agg #[.int .u8 5, .int .i64 0, .int .u64 0, .string S, .slice none 0 0]) (by simp [results, Tryz.results166, go_sem, k0, k1, k2, k3, k4]) rfl ⟨5, 0, l, HIL.out, by rw [HS.out], below_set5 HB.out (Nat.le_refl _) _ _ _ _ _⟩
    · rw [if_neg hr] at hp
      have HPI := Lib.hid (Tryz.strconv_ParseInt_ok (bs l) (by omega) V hp W1)
      rw [← hsz] at hls
      have hwn : IntKind.i64.wrap (-(V : Int)) = -(V : Int) := by rw [IntKind.wrap_i64]; omega
      clear hpars hbig hp hev hsz hlen hl
      by_cases hf : FitsI (V : Int)
      · have HIL : Hid (IntLit (V : Int) 4 (V : Int) []) := Lib.hid (.inl ⟨hf, rfl, rfl, rfl⟩)
        have d1 : decide (-1152921504606846976 ≤ (V : Int)) = true := decide_eq_true (by omega)
        have d2 : decide ((V : Int) ≤ 1152921504606846975) = true := decide_eq_true (by unfold FitsI at hf; omega)
        clear hf HLG hr
        obtain ⟨S, hS⟩ : ∃ x, bs l = x := ⟨_, rfl⟩
        rw [hS] at hls hsl ⊢
        try rw [hS] at HPI
        have HS := Lib.hid hS
        clear hS
        go_enter Tryz.func166, Tryz.ntmps166
        go_wp2_with fail
        refine HPI.out.mono ?_
        rintro e w2 ⟨rfl, hbw⟩
        have hb2 : Below W1.heap.size W1 w2 := bytesWorld_low _ _ _ hbw
        replace HP := Lib.hid (HP.out.below hb2)
        replace HB := Lib.hid (HB.out.trans (hb2.mono HB.out.size))
        clear hbw hb2 c0 c1 c2 c3 c4 f0 f1 f2 f3 f4 hv1
        obtain ⟨c0, c1, c2, c3, c4, f0, f1, f2, f3, f4⟩ := HP.out.cells
        go_wp2_with fail
        obtain ⟨k0, k1, k2, k3, k4, _, _, _, _, _⟩ := (HP.out.set (.int .u8 4) (.int .i64 (V : Int)) (.int .u64 0) (.string ⟨#[]⟩) (.slice none 0 0)).cells
        exact bodyPost_ret (v := .agg #[.int .u8 4, .int .i64 (V : Int), .int .u64 0, .string ⟨#[]⟩, .slice none 0 0]) (by simp [results, Tryz.results166, go_sem, k0, k1, k2, k3, k4]) rfl ⟨4, (V : Int), [], HIL.out, rfl, below_set5 HB.out (Nat.le_refl _) _ _ _ _ _⟩
      · have HIL := Lib.hid (HLG.out hf)
        have d1 : decide (-1152921504606846976 ≤ (V : Int)) = true := decide_eq_true (by omega)
        have d2 : decide ((V : Int) ≤ 1152921504606846975) = false := decide_eq_false (by unfold FitsI at hf; omega)
        clear hf HLG hr
        obtain ⟨S, hS⟩ : ∃ x, bs l = x := ⟨_, rfl⟩
        rw [hS] at hls hsl ⊢
        try rw [hS] at HPI
        have HS := Lib.hid hS
        clear hS
        go_enter Tryz.func166, Tryz.ntmps166
        go_wp2_with fail
        refine HPI.out.mono ?_
        rintro e w2 ⟨rfl, hbw⟩
        have hb2 : Below W1.heap.size W1 w2 := bytesWorld_low _ _ _ hbw
        replace HP := Lib.hid (HP.out.below hb2)
        replace HB := Lib.hid (HB.out.trans (hb2.mono HB.out.size))
        clear hbw hb2 c0 c1 c2 c3 c4 f0 f1 f2 f3 f4 hv1
        obtain ⟨c0, c1, c2, c3, c4, f0, f1, f2, f3, f4⟩ := HP.out.cells
        go_wp2_with fail
        obtain ⟨k0, k1, k2, k3, k4, _, _, _, _, _⟩ := (HP.out.set (.int .u8 5) (.int .i64 0) (.int .u64 0) (.string S) (.slice none 0 0)).cells
        exact bodyPost_ret (v := .agg #[.int .u8 5, .int .i64 0, .int .u64 0, .string S, .slice none 0 0]) (by simp [results, Tryz.results166, go_sem, k0, k1, k2, k3, k4]) rfl ⟨5, 0, l, HIL.out, by rw [HS.out], below_set5 HB.out (Nat.le_refl _) _ _ _ _ _⟩
  · have hb3 := hbig (by omega)
    have hls : decide ((l.length : Int) ≤ 19) = false := decide_eq_false (by omega)
    have HIL := Lib.hid (HLG.out (by unfold FitsI; omega))
    rw [← hsz] at hls
    clear hpars hbig hb3 HLG hev hsz hlen hl
    obtain ⟨S, hS⟩ : ∃ x, bs l = x := ⟨_, rfl⟩
    rw [hS] at hls hsl ⊢
    try rw [hS] at HPI
    have HS := Lib.hid hS
    clear hS
    go_enter Tryz.func166, Tryz.ntmps166
    go_wp2_with fail
    obtain ⟨k0, k1, k2, k3, k4, _, _, _, _, _⟩ := (HP.out.set (.int .u8 5) (.int .i64 0) (.int .u64 0) (.string S) (.slice none 0 0)).cells
    exact bodyPost_ret (v := .agg #[.int .u8 5, .int .i64 0, .int .u64 0, .string S, .slice none 0 0]) (by simp [results, Tryz.results166, go_sem, k0, k1, k2, k3, k4]) rfl ⟨5, 0, l, HIL.out, by rw [HS.out], below_set5 HB.out (Nat.le_refl _) _ _ _ _ _⟩
set_option maxRecDepth 4000 in
set_option maxHeartbeats 4000000 in
theorem swhole_neg (l : List UInt8) (V : Nat) (ev : Value) (w : World) (h : Pl.CanT 10 l V) (hl : l.length ≤ 300) (hv : w.cell? ⟨5, 0, none⟩ = some ev) (hg : 5 < w.heap.size) (hev : ev = .nilIface ∨ ∃ te pe, ev = .iface te pe) (ht : Pl.IntT 10 (45 :: l) (-(V : Int))) :
    Calls Tryz.prog 166 #[.string (bs l), .bool true] w fun e w' => ∃ k n s, IntLit (-(V : Int)) k n s ∧ e = .returned (litv k n 0 (bs s) (.slice none 0 0)) ∧ Below w.heap.size w w' := by
  have hd := Pl.canT_digits h
  have hsz : (bs l).size = l.length := rfl
  obtain ⟨W1, hW1⟩ : ∃ W1, w.alloc (.cells #[.int .u8 0, .int .i64 0, .int .u64 0, .string ⟨#[]⟩, .slice none 0 0] 26) = W1 := ⟨_, rfl⟩
  have HP : Hid (P5 W1 w.heap.size (.int .u8 0) (.int .i64 0) (.int .u64 0) (.string ⟨#[]⟩) (.slice none 0 0)) := Lib.hid (by rw [← hW1]; exact P5.new _ _ _ _ _ _)
  have HB : Hid (Below w.heap.size w W1) := Lib.hid (by rw [← hW1]; exact (Below.refl _ _).alloc (Nat.le_refl _) _)
  have hv1 : W1.cell? ⟨5, 0, none⟩ = some ev := by rw [HB.out.cell (p := ⟨5, 0, none⟩) hg]; exact hv
  have HLG : Hid (¬ FitsI (-(V : Int)) → IntLit (-(V : Int)) 5 0 (45 :: l)) := Lib.hid (fun hf => .inr ⟨hf, rfl, rfl, ht, by first | omega | (simp only [List.length_cons]; omega)⟩)
  have hpars := fun hlen => Pl.parse_digits h hd hlen
  have hbig := fun hlen => Pl.canT_big h hlen
  have hsl : (bs l).size ≤ 300 := hl
  have HTX := Lib.hid (bs_app [45] l)
  have hadd : Op.stringOp .add ⟨#[45]⟩ (bs l) = pure (.string (bs (45 :: l))) := by
    have hmax : IntKind.i64.max = 9223372036854775807 := rfl
    unfold Op.stringOp
    simp only
    rw [if_neg (by rw [hmax]; rw [show (⟨#[45]⟩ : ByteArray).size = 1 from rfl]; omega)]
    exact congrArg (fun z => pure (Value.string z)) HTX.out
  clear hd h ht hv hg
  obtain ⟨c0, c1, c2, c3, c4, f0, f1, f2, f3, f4⟩ := HP.out.cells
  unfold litv
  by_cases hlen : l.length ≤ 19
  · have hp := hpars hlen
    have hls : decide ((l.length : Int) ≤ 19) = true := decide_eq_true (by omega)
    by_cases hr : 9223372036854775808 ≤ V
    · rw [if_pos hr] at hp
      have HIL := Lib.hid (HLG.out (by unfold FitsI; omega))
      have HPI := Lib.hid (Tryz.strconv_ParseInt_range (bs l) (by omega) hp ev W1 hv1 hev)
      clear hpars hbig hp HLG hev
      rw [← hsz] at hls
      clear hsz hlen hl
      obtain ⟨S, hS⟩ : ∃ x, bs l = x := ⟨_, rfl⟩
      rw [hS] at hls hsl ⊢
      rw [hS] at hadd
      try rw [hS] at HPI
      have HS := Lib.hid hS
      clear hS
      obtain ⟨S2, hS2⟩ : ∃ x, bs (45 :: l) = x := ⟨_, rfl⟩
      rw [hS2] at hadd
      have HS2 := Lib.hid hS2
      clear hS2 HTX
      go_enter Tryz.func166, Tryz.ntmps166
      go_wp2_with fail
      refine HPI.out.mono ?_
      rintro e w2 ⟨N, rfl, _, _, hb2⟩
      replace HP := Lib.hid (HP.out.below hb2)
      replace HB := Lib.hid (HB.out.trans (hb2.mono HB.out.size))
      clear hb2 c0 c1 c2 c3 c4 f0 f1 f2 f3 f4 hv1
      obtain ⟨c0, c1, c2, c3, c4, f0, f1, f2, f3, f4⟩ := HP.out.cells
      go_wp2_with fail
      obtain ⟨k0, k1, k2, k3, k4, _, _, _, _, _⟩ := (HP.out.set (.int .u8 5) (.int .i64 0) (.int .u64 0) (.string S2) (.slice none 0 0)).cells
      exact bodyPost_ret (v := .agg #[.int .u8 5, .int .i64 0, .int .u64 0, .string S2, .slice none 0 0]) (by simp [results, Tryz.results166, go_sem, k0, k1, k2, k3, k4]) rfl ⟨5, 0, (45 :: l), HIL.out, by rw [HS2.out], below_set5 HB.out (Nat.le_refl _) _ _ _ _ _⟩
    · rw [if_neg hr] at hp
      have HPI := Lib.hid (Tryz.strconv_ParseInt_ok (bs l) (by omega) V hp W1)
      rw [← hsz] at hls
      have hwn : IntKind.i64.wrap (-(V : Int)) = -(V : Int) := by rw [IntKind.wrap_i64]; omega
      clear hpars hbig hp hev hsz hlen hl
      by_cases hf : FitsI (-(V : Int))
      · have HIL : Hid (IntLit (-(V : Int)) 4 (-(V : Int)) []) := Lib.hid (.inl ⟨hf, rfl, rfl, rfl⟩)
        have d1 : decide (-1152921504606846976 ≤ (-(V : Int))) = true := decide_eq_true (by unfold FitsI at hf; omega)
        have d3 : decide ((V : Int) ≤ 1152921504606846976) = true := decide_eq_true (by unfold FitsI at hf; omega)
        have d2 : decide ((-(V : Int)) ≤ 1152921504606846975) = true := decide_eq_true (by omega)
        have d4 : decide (-1152921504606846975 ≤ (V : Int)) = true := decide_eq_true (by omega)
        clear hf HLG hr
        obtain ⟨S, hS⟩ : ∃ x, bs l = x := ⟨_, rfl⟩
        rw [hS] at hls hsl ⊢
        rw [hS] at hadd
        try rw [hS] at HPI
        have HS := Lib.hid hS
        clear hS
        obtain ⟨S2, hS2⟩ : ∃ x, bs (45 :: l) = x := ⟨_, rfl⟩
        rw [hS2] at hadd
        have HS2 := Lib.hid hS2
        clear hS2 HTX
        go_enter Tryz.func166, Tryz.ntmps166
        go_wp2_with fail
        refine HPI.out.mono ?_
        rintro e w2 ⟨rfl, hbw⟩
        have hb2 : Below W1.heap.size W1 w2 := bytesWorld_low _ _ _ hbw
        replace HP := Lib.hid (HP.out.below hb2)
        replace HB := Lib.hid (HB.out.trans (hb2.mono HB.out.size))
        clear hbw hb2 c0 c1 c2 c3 c4 f0 f1 f2 f3 f4 hv1
        obtain ⟨c0, c1, c2, c3, c4, f0, f1, f2, f3, f4⟩ := HP.out.cells
        go_wp2_with fail
        obtain ⟨k0, k1, k2, k3, k4, _, _, _, _, _⟩ := (HP.out.set (.int .u8 4) (.int .i64 (-(V : Int))) (.int .u64 0) (.string ⟨#[]⟩) (.slice none 0 0)).cells
        exact bodyPost_ret (v := .agg #[.int .u8 4, .int .i64 (-(V : Int)), .int .u64 0, .string ⟨#[]⟩, .slice none 0 0]) (by simp [results, Tryz.results166, go_sem, k0, k1, k2, k3, k4]) rfl ⟨4, (-(V : Int)), [], HIL.out, rfl, below_set5 HB.out (Nat.le_refl _) _ _ _ _ _⟩
      · have HIL := Lib.hid (HLG.out hf)
        have d1 : decide (-1152921504606846976 ≤ (-(V : Int))) = false := decide_eq_false (by unfold FitsI at hf; omega)
        have d3 : decide ((V : Int) ≤ 1152921504606846976) = false := decide_eq_false (by unfold FitsI at hf; omega)
        clear hf HLG hr
        obtain ⟨S, hS⟩ : ∃ x, bs l = x := ⟨_, rfl⟩
        rw [hS] at hls hsl ⊢
        rw [hS] at hadd
        try rw [hS] at HPI
        have HS := Lib.hid hS
        clear hS
        obtain ⟨S2, hS2⟩ : ∃ x, bs (45 :: l) = x := ⟨_, rfl⟩
        rw [hS2] at hadd
        have HS2 := Lib.hid hS2
        clear hS2 HTX
        go_enter Tryz.func166, Tryz.ntmps166
        go_wp2_with fail
        refine HPI.out.mono ?_
        rintro e w2 ⟨rfl, hbw⟩
        have hb2 : Below W1.heap.size W1 w2 := bytesWorld_low _ _ _ hbw
        replace HP := Lib.hid (HP.out.below hb2)
        replace HB := Lib.hid (HB.out.trans (hb2.mono HB.out.size))
        clear hbw hb2 c0 c1 c2 c3 c4 f0 f1 f2 f3 f4 hv1
        obtain ⟨c0, c1, c2, c3, c4, f0, f1, f2, f3, f4⟩ := HP.out.cells
        go_wp2_with fail
        obtain ⟨k0, k1, k2, k3, k4, _, _, _, _, _⟩ := (HP.out.set (.int .u8 5) (.int .i64 0) (.int .u64 0) (.string S2) (.slice none 0 0)).cells
        exact bodyPost_ret (v := .agg #[.int .u8 5, .int .i64 0, .int .u64 0, .string S2, .slice none 0 0]) (by simp [results, Tryz.results166, go_sem, k0, k1, k2, k3, k4]) rfl ⟨5, 0, (45 :: l), HIL.out, by rw [HS2.out], below_set5 HB.out (Nat.le_refl _) _ _ _ _ _⟩
  · have hb3 := hbig (by omega)
    have hls : decide ((l.length : Int) ≤ 19) = false := decide_eq_false (by omega)
    have HIL := Lib.hid (HLG.out (by unfold FitsI; omega))
    rw [← hsz] at hls
    clear hpars hbig hb3 HLG hev hsz hlen hl
    obtain ⟨S, hS⟩ : ∃ x, bs l = x := ⟨_, rfl⟩
    rw [hS] at hls hsl ⊢
    rw [hS] at hadd
    try rw [hS] at HPI
    have HS := Lib.hid hS
    clear hS
    obtain ⟨S2, hS2⟩ : ∃ x, bs (45 :: l) = x := ⟨_, rfl⟩
    rw [hS2] at hadd
    have HS2 := Lib.hid hS2
    clear hS2 HTX
    go_enter Tryz.func166, Tryz.ntmps166
    go_wp2_with fail
    obtain ⟨k0, k1, k2, k3, k4, _, _, _, _, _⟩ := (HP.out.set (.int .u8 5) (.int .i64 0) (.int .u64 0) (.string S2) (.slice none 0 0)).cells
    exact bodyPost_ret (v := .agg #[.int .u8 5, .int .i64 0, .int .u64 0, .string S2, .slice none 0 0]) (by simp [results, Tryz.results166, go_sem, k0, k1, k2, k3, k4]) rfl ⟨5, 0, (45 :: l), HIL.out, by rw [HS2.out], below_set5 HB.out (Nat.le_refl _) _ _ _ _ _⟩
set_option maxRecDepth 4000 in
set_option maxHeartbeats 4000000 in
theorem sint_neg (t : List UInt8) (V : Nat) (ev : Value) (w : World) (h : Pl.CanT 10 t V) (hl : t.length ≤ 1000000) (ht : Pl.IntT 10 (45 :: t) (-(V : Int))) (hv : w.cell? ⟨5, 0, none⟩ = some ev) (hg : 5 < w.heap.size) (hev : ev = .nilIface ∨ ∃ te pe, ev = .iface te pe) :
    Calls Tryz.prog 121 #[.string (bs (45 :: t))] w fun e w' => ∃ k n s en, ((en = 0 ∧ IntLit (-(V : Int)) k n s) ∨ (255 < t.length ∧ en = 144 ∧ k = 0 ∧ n = 0 ∧ s = [])) ∧ e = .returned (.tuple #[litv k n 0 (bs s) (.slice none 0 0), .int .i64 en]) ∧ Below w.heap.size w w' := by
  have hd := Pl.canT_digits h
  have h0 : t ≠ [] := fun e => h.ne (by rw [e]; rfl)
  have hne : (bs t).toList.isEmpty = false := by
    rw [ByteArray.toList_eq]
    cases t with
    | nil => exact absurd rfl h0
    | cons c r => rfl
  have hsz : (bs t).size = t.length := rfl
  obtain ⟨W1, hW1⟩ : ∃ W1, w.alloc (.cells #[.int .u8 0, .int .i64 0, .int .u64 0, .string ⟨#[]⟩, .slice none 0 0] 26) = W1 := ⟨_, rfl⟩
  have HP : Hid (P5 W1 w.heap.size (.int .u8 0) (.int .i64 0) (.int .u64 0) (.string ⟨#[]⟩) (.slice none 0 0)) := Lib.hid (by rw [← hW1]; exact P5.new _ _ _ _ _ _)
  have HB : Hid (Below w.heap.size w W1) := Lib.hid (by rw [← hW1]; exact (Below.refl _ _).alloc (Nat.le_refl _) _)
  have hv1 : W1.cell? ⟨5, 0, none⟩ = some ev := by rw [HB.out.cell (p := ⟨5, 0, none⟩) hg]; exact hv
  have hg1 : 5 < W1.heap.size := Nat.lt_of_lt_of_le hg HB.out.size
  have HC : Hid (∀ W, Calls Tryz.prog 156 #[.string (bs (45 :: t)), .string ⟨#[45]⟩] W fun e w' => e = .returned (.tuple #[.string (bs t), .bool true]) ∧ w' = W) := Lib.hid (fun W => by
    have := cutP (45 :: t) [45] W
    rw [show Lib.trimPrefix (45 :: t) [45] = t by simp [Lib.trimPrefix, Lib.hasPrefix], show Lib.hasPrefix (45 :: t) [45] = true by simp [Lib.hasPrefix]] at this
    exact this)
  have HPL := Lib.hid (fun W => splain_any t W (by omega) h0 (Pl.canT_head48 h))
  have HRN := Lib.hid (fun W => srun_digits t W (by omega) hd)
  have HWH := Lib.hid (fun (hq : t.length ≤ 300) => swhole_neg t V ev W1 h hq hv1 hg1 hev ht)
  obtain ⟨S0, hS0⟩ : ∃ x, bs (45 :: t) = x := ⟨_, rfl⟩
  rw [hS0] at HC ⊢
  clear hS0 hd h0 h ht hv hg hv1 hg1 hev
  obtain ⟨S, hS⟩ : ∃ x, bs t = x := ⟨_, rfl⟩
  rw [hS] at hne hsz HC HPL HRN HWH
  obtain ⟨N, hN⟩ : ∃ x, t.length = x := ⟨_, rfl⟩
  rw [hN] at hl hsz HRN HWH ⊢
  clear hS hN
  obtain ⟨c0, c1, c2, c3, c4, f0, f1, f2, f3, f4⟩ := HP.out.cells
  by_cases hlen : N ≤ 255
  · have hd1 : decide ((255 : Int) < (S.size : Int)) = false := decide_eq_false (by omega)
    have hq1 : ((N : Int) == (S.size : Int)) = true := by rw [beq_iff_eq]; omega
    have HWW := Lib.hid (HWH.out (by omega))
    clear HWH hsz hl hlen
    go_enter Tryz.func121, Tryz.ntmps121
    go_wp2_with fail
    refine (HC.out _).mono ?_
    rintro e w' ⟨rfl, rfl⟩
    go_wp2_with fail
    refine (HPL.out _).mono ?_
    rintro e w' ⟨rfl, rfl⟩
    go_wp2_with fail
    refine (HRN.out _).mono ?_
    rintro e w' ⟨rfl, rfl⟩
    go_wp2_with fail
    refine (HWW.out).mono ?_
    rintro e w2 ⟨k, n, s, hil, rfl, hb2⟩
    have HIL := Lib.hid hil
    replace HP := Lib.hid (HP.out.below hb2)
    replace HB := Lib.hid (HB.out.trans (hb2.mono HB.out.size))
    obtain ⟨T, hT⟩ : ∃ x, bs s = x := ⟨_, rfl⟩
    have HT := Lib.hid hT
    unfold litv
    rw [hT]
    clear hb2 hil hT c0 c1 c2 c3 c4 f0 f1 f2 f3 f4
    obtain ⟨c0, c1, c2, c3, c4, f0, f1, f2, f3, f4⟩ := HP.out.cells
    go_wp2_with fail
    obtain ⟨k0, k1, k2, k3, k4, _, _, _, _, _⟩ := (HP.out.set (.int .u8 k) (.int .i64 n) (.int .u64 0) (.string T) (.slice none 0 0)).cells
    exact bodyPost_ret (v := .tuple #[.agg #[.int .u8 k, .int .i64 n, .int .u64 0, .string T, .slice none 0 0], .int .i64 0]) (by simp [results, Tryz.results121, go_sem, k0, k1, k2, k3, k4]) rfl ⟨k, n, s, 0, .inl ⟨rfl, HIL.out⟩, by rw [HT.out]; rfl, below_set5 HB.out (Nat.le_refl _) _ _ _ _ _⟩
  · have hd1 : decide ((255 : Int) < (S.size : Int)) = true := decide_eq_true (by omega)
    have HLEN := Lib.hid (show 255 < N by omega)
    clear HWH HRN hsz hl hlen
    go_enter Tryz.func121, Tryz.ntmps121
    go_wp2_with fail
    refine (HC.out _).mono ?_
    rintro e w' ⟨rfl, rfl⟩
    go_wp2_with fail
    refine (HPL.out _).mono ?_
    rintro e w' ⟨rfl, rfl⟩
    go_wp2_with fail
    obtain ⟨k0, k1, k2, k3, k4, _, _, _, _, _⟩ := (HP.out.set (.int .u8 0) (.int .i64 0) (.int .u64 0) (.string ⟨#[]⟩) (.slice none 0 0)).cells
    exact bodyPost_ret (v := .tuple #[.agg #[.int .u8 0, .int .i64 0, .int .u64 0, .string ⟨#[]⟩, .slice none 0 0], .int .i64 144]) (by simp [results, Tryz.results121, go_sem, k0, k1, k2, k3, k4]) rfl ⟨0, 0, [], 144, .inr ⟨HLEN.out, rfl, rfl, rfl, rfl⟩, rfl, below_set5 HB.out (Nat.le_refl _) _ _ _ _ _⟩
set_option maxRecDepth 4000 in
set_option maxHeartbeats 4000000 in
theorem sint_pos (l : List UInt8) (V : Nat) (ev : Value) (w : World) (h : Pl.CanT 10 l V) (hl : l.length ≤ 1000000) (ht : Pl.IntT 10 l (V : Int)) (hv : w.cell? ⟨5, 0, none⟩ = some ev) (hg : 5 < w.heap.size) (hev : ev = .nilIface ∨ ∃ te pe, ev = .iface te pe) :
    Calls Tryz.prog 121 #[.string (bs l)] w fun e w' => ∃ k n s en, ((en = 0 ∧ IntLit (V : Int) k n s) ∨ (255 < l.length ∧ en = 144 ∧ k = 0 ∧ n = 0 ∧ s = [])) ∧ e = .returned (.tuple #[litv k n 0 (bs s) (.slice none 0 0), .int .i64 en]) ∧ Below w.heap.size w w' := by
  have hd := Pl.canT_digits h
  have hpf : Lib.trimPrefix l [45] = l ∧ Lib.hasPrefix l [45] = false := by
    rcases prefix_one 45 l with ⟨_, r, hr, _⟩ | ⟨h1, h2, _⟩
    · have := hd 45 (by rw [hr]; simp)
      have := show (45 : UInt8).toNat = 45 from rfl
      omega
    · exact ⟨h2, h1⟩
  have h0 : l ≠ [] := fun e => h.ne (by rw [e]; rfl)
  have hne : (bs l).toList.isEmpty = false := by
    rw [ByteArray.toList_eq]
    cases l with
    | nil => exact absurd rfl h0
    | cons c r => rfl
  have hsz : (bs l).size = l.length := rfl
  obtain ⟨W1, hW1⟩ : ∃ W1, w.alloc (.cells #[.int .u8 0, .int .i64 0, .int .u64 0, .string ⟨#[]⟩, .slice none 0 0] 26) = W1 := ⟨_, rfl⟩
  have HP : Hid (P5 W1 w.heap.size (.int .u8 0) (.int .i64 0) (.int .u64 0) (.string ⟨#[]⟩) (.slice none 0 0)) := Lib.hid (by rw [← hW1]; exact P5.new _ _ _ _ _ _)
  have HB : Hid (Below w.heap.size w W1) := Lib.hid (by rw [← hW1]; exact (Below.refl _ _).alloc (Nat.le_refl _) _)
  have hv1 : W1.cell? ⟨5, 0, none⟩ = some ev := by rw [HB.out.cell (p := ⟨5, 0, none⟩) hg]; exact hv
  have hg1 : 5 < W1.heap.size := Nat.lt_of_lt_of_le hg HB.out.size
  have HC : Hid (∀ W, Calls Tryz.prog 156 #[.string (bs l), .string ⟨#[45]⟩] W fun e w' => e = .returned (.tuple #[.string (bs l), .bool false]) ∧ w' = W) := Lib.hid (fun W => by
    have := cutP l [45] W
    rw [hpf.1, hpf.2] at this
    exact this)
  have HPL := Lib.hid (fun W => splain_any l W (by omega) h0 (Pl.canT_head48 h))
  have HRN := Lib.hid (fun W => srun_digits l W (by omega) hd)
  have HWH := Lib.hid (fun (hq : l.length ≤ 300) => swhole_pos l V ev W1 h hq hv1 hg1 hev ht)
  clear hd h0 h ht hv hg hv1 hg1 hev
  obtain ⟨S, hS⟩ : ∃ x, bs l = x := ⟨_, rfl⟩
  rw [hS] at hne hsz HC HPL HRN HWH ⊢
  obtain ⟨N, hN⟩ : ∃ x, l.length = x := ⟨_, rfl⟩
  rw [hN] at hl hsz HRN HWH ⊢
  clear hS hN
  obtain ⟨c0, c1, c2, c3, c4, f0, f1, f2, f3, f4⟩ := HP.out.cells
  by_cases hlen : N ≤ 255
  · have hd1 : decide ((255 : Int) < (S.size : Int)) = false := decide_eq_false (by omega)
    have hq1 : ((N : Int) == (S.size : Int)) = true := by rw [beq_iff_eq]; omega
    have HWW := Lib.hid (HWH.out (by omega))
    clear HWH hsz hl hlen
    go_enter Tryz.func121, Tryz.ntmps121
    go_wp2_with fail
    refine (HC.out _).mono ?_
    rintro e w' ⟨rfl, rfl⟩
    go_wp2_with fail
    refine (HPL.out _).mono ?_
    rintro e w' ⟨rfl, rfl⟩
    go_wp2_with fail
    refine (HRN.out _).mono ?_
    rintro e w' ⟨rfl, rfl⟩
    go_wp2_with fail
    refine (HWW.out).mono ?_
    rintro e w2 ⟨k, n, s, hil, rfl, hb2⟩
    have HIL := Lib.hid hil
    replace HP := Lib.hid (HP.out.below hb2)
    replace HB := Lib.hid (HB.out.trans (hb2.mono HB.out.size))
    obtain ⟨T, hT⟩ : ∃ x, bs s = x := ⟨_, rfl⟩
    have HT := Lib.hid hT
    unfold litv
    rw [hT]
    clear hb2 hil hT c0 c1 c2 c3 c4 f0 f1 f2 f3 f4
    obtain ⟨c0, c1, c2, c3, c4, f0, f1, f2, f3, f4⟩ := HP.out.cells
    go_wp2_with fail
    obtain ⟨k0, k1, k2, k3, k4, _, _, _, _, _⟩ := (HP.out.set (.int .u8 k) (.int .i64 n) (.int .u64 0) (.string T) (.slice none 0 0)).cells
    exact bodyPost_ret (v := .tuple #[.agg #[.int .u8 k, .int .i64 n, .int .u64 0, .string T, .slice none 0 0], .int .i64 0]) (by simp [results, Tryz.results121, go_sem, k0, k1, k2, k3, k4]) rfl ⟨k, n, s, 0, .inl ⟨rfl, HIL.out⟩, by rw [HT.out]; rfl, below_set5 HB.out (Nat.le_refl _) _ _ _ _ _⟩
  · have hd1 : decide ((255 : Int) < (S.size : Int)) = true := decide_eq_true (by omega)
    have HLEN := Lib.hid (show 255 < N by omega)
    clear HWH HRN hsz hl hlen
    go_enter Tryz.func121, Tryz.ntmps121
    go_wp2_with fail
    refine (HC.out _).mono ?_
    rintro e w' ⟨rfl, rfl⟩
    go_wp2_with fail
    refine (HPL.out _).mono ?_
    rintro e w' ⟨rfl, rfl⟩
    go_wp2_with fail
    obtain ⟨k0, k1, k2, k3, k4, _, _, _, _, _⟩ := (HP.out.set (.int .u8 0) (.int .i64 0) (.int .u64 0) (.string ⟨#[]⟩) (.slice none 0 0)).cells
    exact bodyPost_ret (v := .tuple #[.agg #[.int .u8 0, .int .i64 0, .int .u64 0, .string ⟨#[]⟩, .slice none 0 0], .int .i64 144]) (by simp [results, Tryz.results121, go_sem, k0, k1, k2, k3, k4]) rfl ⟨0, 0, [], 144, .inr ⟨HLEN.out, rfl, rfl, rfl, rfl⟩, rfl, below_set5 HB.out (Nat.le_refl _) _ _ _ _ _⟩
/-- a whole number's text is read as that number, if it has not too many digits -/
theorem sint_any (l : List UInt8) (A : Int) (ev : Value) (w : World) (h : Pl.IntT 10 l A) (hl : l.length ≤ 1000000) (hv : w.cell? ⟨5, 0, none⟩ = some ev) (hg : 5 < w.heap.size) (hev : ev = .nilIface ∨ ∃ te pe, ev = .iface te pe) :
    Calls Tryz.prog 121 #[.string (bs l)] w fun e w' => ∃ k n s en, ((en = 0 ∧ IntLit A k n s) ∨ (255 < l.length ∧ en = 144 ∧ k = 0 ∧ n = 0 ∧ s = [])) ∧ e = .returned (.tuple #[litv k n 0 (bs s) (.slice none 0 0), .int .i64 en]) ∧ Below w.heap.size w w' := by
  have h2 := h
  unfold Pl.IntT at h
  by_cases hA : A < 0
  · rw [if_pos hA] at h
    obtain ⟨t, rfl, ht⟩ := h
    have e : -((A.natAbs : Nat) : Int) = A := by omega
    have := sint_neg t A.natAbs ev w ht (by simp at hl; omega) (by rw [e]; exact h2) hv hg hev
    rw [e] at this
    refine this.mono ?_
    rintro e w' ⟨k, n, s, en, h1, h3, h4⟩
    refine ⟨k, n, s, en, h1.imp id (fun ⟨a, b⟩ => ⟨by simp; omega, b⟩), h3, h4⟩
  · rw [if_neg hA] at h
    have e : ((A.natAbs : Nat) : Int) = A := by omega
    have := sint_pos l A.natAbs ev w h hl (by rw [e]; exact h2) hv hg hev
    rwa [e] at this
end Go.Proofs.YtlodbibagmblkaaGreatDoor
namespace Go.Proofs.YtlodbibagmblkaaGreatDoor
open Go Go.RowKit Go.Lib
def tfl (b : Int) : PT := ⟨6, 0, b, ⟨#[]⟩, .slice none 0 0⟩
def vfl (b : Int) : PV := ⟨6, 0, b, ⟨#[]⟩, .slice none 0 0, false, ⟨#[]⟩⟩
theorem of_tfl (b : Int) : OfV (tfl b) 70 (vfl b) true := fun W => of_flt b none 0 W
/-- a float comes out for sure -/
def JustF (r : Int) (is0 : Bool) (k n b : Int) (t : ByteArray) (is : Bool) : Prop := k = 6 ∧ n = 0 ∧ b = r ∧ t = ⟨#[]⟩ ∧ is = is0
theorem justf_ok {r : Int} {is : Bool} {w w' : World} {e : Ending} (h : Came w (Fin (JustF r is)) e w') (his : is = true) : Came w (JustF r true) e w' := by
  subst his
  obtain ⟨a, b, c, d, f, h1, h2, h3⟩ := h
  refine ⟨a, b, c, d, f, ?_, h2, h3⟩
  rcases h1 with ⟨rfl, h⟩ | ⟨rfl, ⟨_, _, _, _, h⟩, _⟩
  · exact h
  · exact absurd h.2.2.2.2 (by simp)
theorem justf_no {r : Int} {is : Bool} {w w' : World} {e : Ending} (h : Came w (Fin (JustF r is)) e w') (his : is = false) : Came w (Just 0 0 ⟨#[]⟩ false) e w' := by
  subst his
  obtain ⟨a, b, c, d, f, h1, h2, h3⟩ := h
  refine ⟨a, b, c, d, f, ?_, h2, h3⟩
  rcases h1 with ⟨rfl, h⟩ | ⟨rfl, _, rfl, rfl, rfl, rfl⟩
  · exact absurd h.2.2.2.2 (by simp)
  · exact ⟨rfl, rfl, rfl, rfl, rfl⟩
theorem do56 (b : Int) (s : ByteArray) (av : Value) (w : World) (hs : s.size ≤ 65536) (hq : ∀ W, Below w.heap.size w W → Calls Tryz.prog 108 #[.int .u64 b] W fun e w' => e = .returned (.string s) ∧ Below W.heap.size W w') (h : TRow w av [tfl b]) :
    Calls Tryz.prog 11 #[.int .i64 56, av] w (Came w (Just 8 0 s true)) :=
  (do_ok 56 ⟨#[70]⟩ 107 [vfl b] [tfl b] (Just 8 0 s true) av w (by omega) h rfl rfl (by simp) (by simp) (fun args W => callFunc_go Tryz.func107 rfl rfl args W)
    (has_entry (fun w L h => h.fl.f56) (fun W v hW hv => (cl56 (vfl b) s v W hv hs (fun W2 hb => hq W2 (hW.trans (hb.mono hW.size)))).mono fun e w' h => came_just h)) (by simp [vfl]) (by simp [tfl]) (hof1 (of_tfl b))).mono fun e w' h => just_ok h rfl
theorem do71 (s : ByteArray) (r en : Int) (av : Value) (w : World) (hs : s.size ≤ 65536) (hq : ∀ W, Below w.heap.size w W → Calls Tryz.prog 123 #[.string s] W fun e w' => e = .returned (.tuple #[.int .u64 r, .int .i64 en]) ∧ Below W.heap.size W w') (h : TRow w av [tst s]) :
    Calls Tryz.prog 11 #[.int .i64 71, av] w (Came w (Fin (JustF r (en == 0)))) :=
  (do_ok 71 ⟨#[83]⟩ 122 [vst s] [tst s] (JustF r (en == 0)) av w (by omega) h rfl rfl (by simp) (by simp) (fun args W => callFunc_go Tryz.func122 rfl rfl args W)
    (has_entry (fun w L h => h.tx 71 _ rfl) (fun W v hW hv => (cl71 (vst s) r en v W hv (fun W2 hb => hq W2 (hW.trans (hb.mono hW.size)))).mono fun e w' h => ⟨_, _, _, _, _, ⟨rfl, rfl, rfl, rfl, rfl⟩, h.1, h.2⟩)) (by simp [vst]) (by simp [tst]) (hof1 (of_tst s hs)))
/-- a whole number comes out, or nothing -/
def IntE (R : Int → Int → ByteArray → Int → Prop) (k n b : Int) (t : ByteArray) (is : Bool) : Prop := b = 0 ∧ ∃ en, R k n t en ∧ is = (en == 0)
theorem do70 (s : ByteArray) (R : Int → Int → ByteArray → Int → Prop) (av : Value) (w : World) (hs : s.size ≤ 65536) (hq : ∀ W, Below w.heap.size w W → Calls Tryz.prog 121 #[.string s] W fun e w' => ∃ k n t en, R k n t en ∧ e = .returned (.tuple #[litv k n 0 t (.slice none 0 0), .int .i64 en]) ∧ Below W.heap.size W w') (h : TRow w av [tst s]) :
    Calls Tryz.prog 11 #[.int .i64 70, av] w (Came w (Fin (IntE R))) :=
  (do_ok 70 ⟨#[83]⟩ 120 [vst s] [tst s] (IntE R) av w (by omega) h rfl rfl (by simp) (by simp) (fun args W => callFunc_go Tryz.func120 rfl rfl args W)
    (has_entry (fun w L h => h.tx 70 _ rfl) (fun W v hW hv => (cl70 (vst s) R v W hv (fun W2 hb => hq W2 (hW.trans (hb.mono hW.size)))).mono fun e w' ⟨k, n, t, en, hR, h1, h2⟩ => ⟨k, n, 0, t, _, ⟨rfl, en, hR, rfl⟩, h1, h2⟩)) (by simp [vst]) (by simp [tst]) (hof1 (of_tst s hs)))
/-- a whole number's text to the base ten -/
def TextP (A : Int) (k n b : Int) (t : ByteArray) (is : Bool) : Prop := ∃ s, k = 8 ∧ n = 0 ∧ b = 0 ∧ t = bs s ∧ is = true ∧ Pl.IntT 10 s A ∧ s.length ≤ 40000
theorem do20 (x : PT) (y : PV) (A : Int) (av : Value) (w : World) (h1 : ArgI x y A) (h : TRow w av [x, tsm 10]) : Calls Tryz.prog 11 #[.int .i64 20, av] w (Came w (TextP A)) :=
  (do_all 20 ⟨#[73, 76]⟩ 49 [y, vsm 10] [x, tsm 10] (TextP A) av w (by omega) h rfl rfl (by simp) (by simp) (fun args W => callFunc_go Tryz.func49 rfl rfl args W)
    (has_entry (fun w L h => h.i20) (fun W v hW hv => (cl20 y (vsm 10) (fun t => ∃ s, t = bs s ∧ Pl.IntT 10 s A ∧ s.length ≤ 40000) v W hv (by show (2 : Int) ≤ 10; omega) (by show (10 : Int) ≤ 36; omega) (fun W2 => by
      rw [h1.2.1]
      refine (ltext_any A 10 W2 h1.2.2.1 (by decide) (by decide)).mono ?_
      rintro e w' ⟨s, rfl, hs1, hb, hs2⟩
      exact ⟨bs s, ⟨⟨s, rfl, hs1, hs2⟩, by show s.length ≤ 65536; omega⟩, rfl, hb⟩)).mono fun e w' ⟨t, ⟨s, ht, hs1, hs2⟩, h3, h4⟩ => ⟨8, 0, 0, t, true, ⟨s, rfl, rfl, rfl, ht, rfl, hs1, hs2⟩, h3, h4⟩)) (two_all h1.2.2.2.2 ⟨_, _, _, rfl⟩) (two_all h1.2.2.2.1 ⟨_, _, _, rfl⟩) (hof2 h1.1 (of_tsmF 10 76 (.inr rfl) (by unfold FitsI; omega)))).mono fun e w' h => by
    obtain ⟨a, b, c, d, f, h1, h2, h3⟩ := done_came h
    refine ⟨a, b, c, d, f, ?_, h2, h3⟩
    rcases h1 with ⟨rfl, h⟩ | ⟨_, ⟨_, _, _, _, _, _, _, _, _, h, _⟩, _⟩
    · exact h
    · cases h
end Go.Proofs.YtlodbibagmblkaaGreatDoor
namespace Go.Proofs.YtlodbibagmblkaaGreatDoor.Fl
open Ieee
theorem some_E74 : ∃ n : Nat, n = 1074 := ⟨_, rfl⟩
/-- 1074, told so that nobody reckons the power. -/
noncomputable def E74 : Nat := Classical.choose some_E74
theorem E74_is : E74 = 1074 := Classical.choose_spec some_E74
/-- The sign's bit. -/
def sg (a : Nat) : Bool := a / 9223372036854775808 % 2 == 1
/-- The number, told in units of the least float. -/
def V (a : Nat) : Int := val (D.read a)
theorem signed_is (s : Bool) (m u : Nat) : signed s m u = if s then -((m * 2 ^ u : Nat) : Int) else ((m * 2 ^ u : Nat) : Int) := by
  unfold signed; rw [Nat.shiftLeft_eq]
theorem signed_abs (s : Bool) (m u : Nat) : (signed s m u).natAbs = m * 2 ^ u := by
  rw [signed_is]; split <;> omega
theorem fin_read {a : Nat} (h : a % 9223372036854775808 < 9218868437227405312) :
    ∃ m i, D.read a = .number (sg a) m i ∧ m < 9007199254740992 ∧ -1074 ≤ i ∧ i ≤ 971 ∧ V a = signed (sg a) m (i + 1074).toNat ∧ (V a).natAbs = m * 2 ^ (i + 1074).toNat := by
  have hg := good_read (a := a) (by simp [isNan]; omega)
  have hr := read_eq a
  by_cases h1 : a % 9223372036854775808 < 4503599627370496
  · rw [if_pos h1] at hr
    refine ⟨_, _, hr, by omega, by omega, by omega, ?_, ?_⟩
    · unfold V; rw [hr]; rfl
    · unfold V; rw [hr]; exact signed_abs _ _ _
  · rw [if_neg h1, if_pos h] at hr
    rw [hr] at hg
    obtain ⟨g1, g2, g3⟩ := hg
    refine ⟨_, _, hr, g3, g1, g2, ?_, ?_⟩
    · unfold V; rw [hr]; rfl
    · unfold V; rw [hr]; exact signed_abs _ _ _
theorem word_sg (s : Bool) {r : Nat} (h : r < 9223372036854775808) : sg (D.word s r) = s := (word_mod s h).2.1
theorem rung_pow (m q : Nat) {x y x' y' : Nat} (h : x + y' = x' + y) : rung (m * 2 ^ x) (q * 2 ^ y) = rung (m * 2 ^ x') (q * 2 ^ y') := by
  rw [← rung_scale (m * 2 ^ x) (q * 2 ^ y) (Nat.two_pow_pos y'), ← rung_scale (m * 2 ^ x') (q * 2 ^ y') (Nat.two_pow_pos y)]
  rw [Nat.mul_assoc, Nat.mul_assoc, Nat.mul_assoc, Nat.mul_assoc, ← Nat.pow_add, ← Nat.pow_add, ← Nat.pow_add, ← Nat.pow_add, h, Nat.add_comm y y']
theorem some_word {s : Bool} {r r' : Nat} (h : r = r') : some (D.word s r) = some (D.word s r') := by rw [h]
theorem fmul_rung {a b : Nat} (ha : a % 9223372036854775808 < 9218868437227405312) (hb : b % 9223372036854775808 < 9218868437227405312) :
    D.mul a b = some (D.word (sg a ^^ sg b) (rung ((V a).natAbs * (V b).natAbs) (2 ^ E74))) := by
  obtain ⟨m, i, hr, _, hi, _, hv, hA⟩ := fin_read ha
  obtain ⟨n, j, hr', _, hj, _, hv', hA'⟩ := fin_read hb
  unfold Format.mul
  rw [hr, hr', hA, hA']
  simp only [Datum.product, Option.map_some, Format.write]
  rw [nearest_rung]
  refine some_word ?_
  have e1 : m * 2 ^ (i + 1074).toNat * (n * 2 ^ (j + 1074).toNat) = m * n * 2 ^ ((i + 1074).toNat + (j + 1074).toNat) := by
    rw [Nat.pow_add]; ac_rfl
  have hE := E74_is
  rw [e1, ← Nat.one_mul (2 ^ (-(i + j + 1074)).toNat), ← Nat.one_mul (2 ^ E74)]
  exact rung_pow _ _ (by omega)
theorem stick_zero (q : Nat) : stick 0 q = 0 := by unfold stick; simp
theorem rung_zero (q : Nat) : rung 0 q = 0 := by unfold rung rhe; simp
theorem fdiv_rung {a b : Nat} (ha : a % 9223372036854775808 < 9218868437227405312) (hb : b % 9223372036854775808 < 9218868437227405312) (h0 : V b ≠ 0) :
    D.div a b = some (D.word (sg a ^^ sg b) (rung ((V a).natAbs * 2 ^ E74) (V b).natAbs)) := by
  obtain ⟨m, i, hr, hm, hi, _, hv, hA⟩ := fin_read ha
  obtain ⟨n, j, hr', hn, hj, _, hv', hA'⟩ := fin_read hb
  have hn0 : n ≠ 0 := by
    intro h; subst h; apply h0; rw [hv', signed_is]; simp
  unfold Format.div
  rw [hr, hr', hA, hA']
  simp only [Datum.quotient, if_neg hn0, Option.map_some, Format.write]
  have hstick : 2 * (m <<< (D.fractionBits + 2 + n.log2 - m.log2) / n) + (m <<< (D.fractionBits + 2 + n.log2 - m.log2) % n != 0).toNat = stick (m * 2 ^ (54 + n.log2 - m.log2)) n := by
    unfold stick; rw [Nat.shiftLeft_eq]; rfl
  rw [hstick, show D.fractionBits + 2 + n.log2 - m.log2 = 54 + n.log2 - m.log2 from rfl, nearest_rung]
  refine some_word ?_
  by_cases hm0 : m = 0
  · subst hm0
    simp only [Nat.zero_mul, stick_zero, rung_zero]
  have hl := (Nat.log2_lt hm0).2 (show m < 2 ^ 53 by simpa using hm)
  obtain ⟨k, hk⟩ : ∃ k, 54 + n.log2 - m.log2 = k := ⟨_, rfl⟩
  rw [hk]
  have hk2 : m.log2 + k = 54 + n.log2 := by omega
  have p1 := Nat.log2_self_le hm0
  have p2 : n < 2 ^ (n.log2 + 1) := Nat.lt_log2_self
  have hbig : 9007199254740992 ≤ m * 2 ^ k / n := by
    rw [Nat.le_div_iff_mul_le (by omega)]
    have q1 : 2 ^ m.log2 * 2 ^ k ≤ m * 2 ^ k := Nat.mul_le_mul_right _ p1
    rw [← Nat.pow_add, hk2, show 54 + n.log2 = 53 + (n.log2 + 1) by omega, Nat.pow_add] at q1
    have q2 : 2 ^ 53 * n ≤ 2 ^ 53 * 2 ^ (n.log2 + 1) := Nat.mul_le_mul_left _ (by omega)
    have q3 : (2 : Nat) ^ 53 = 9007199254740992 := by decide
    rw [q3] at q1 q2
    exact Nat.le_trans q2 q1
  obtain ⟨x, y, hxy⟩ : ∃ x y : Nat, (x : Int) - y = i - j - k - 1 + 1074 := ⟨(i - j - k - 1 + 1074).toNat, (-(i - j - k - 1 + 1074)).toNat, by omega⟩
  have e1 : rung (stick (m * 2 ^ k) n * 2 ^ (i - j - k - 1 + 1074).toNat) (2 ^ (-(i - j - k - 1 + 1074)).toNat) = rung (stick (m * 2 ^ k) n * 2 ^ x) (2 ^ y) := by
    rw [← Nat.one_mul (2 ^ (-(i - j - k - 1 + 1074)).toNat), ← Nat.one_mul (2 ^ y)]
    exact rung_pow _ _ (by omega)
  have hE := E74_is
  rw [e1, ← rung_stick _ _ _ _ (by omega) hbig, Nat.mul_assoc, Nat.mul_assoc, ← Nat.pow_add, ← Nat.pow_add]
  exact rung_pow _ _ (by omega)
theorem told_word (s : Bool) (p q : Nat) : told (D.word s (rung p q)) = D.word s (rung p q) := by unfold told; rw [rung_not_nan, if_neg (by decide)]
theorem is_V {a : Nat} {x : Int} (h : Is a x) : V a = x := h.val
/-- An integer as a float. -/
def fint (n : Int) : Nat := D.nearest (decide (n < 0)) n.natAbs 0
theorem fint_rung (n : Int) : fint n = D.word (decide (n < 0)) (rung (n.natAbs * 2 ^ E74) 1) := by
  unfold fint
  have hE := E74_is
  rw [nearest_rung, show ((0 : Int) + 1074).toNat = E74 by omega, show (-((0 : Int) + 1074)).toNat = 0 by omega, Nat.pow_zero]
end Go.Proofs.YtlodbibagmblkaaGreatDoor.Fl
namespace Go.Proofs.YtlodbibagmblkaaGreatDoor.Fl
open Ieee
theorem fits_ten {k : Nat} (hk : k ≤ 22) : Fits (10 ^ k * 2 ^ E74) := by
  refine ⟨5 ^ k, k + E74, ?_, ?_, ?_⟩
  · rw [Nat.pow_add, ← Nat.mul_assoc, ← Nat.mul_pow]
  · have : 5 ^ k ≤ 5 ^ 22 := Nat.pow_le_pow_right (by decide) hk
    have e : (5 : Nat) ^ 22 = 2384185791015625 := rfl
    omega
  · rw [E74_is]; omega
theorem fits_nat {n : Nat} (h : n < 9007199254740992) : Fits (n * 2 ^ E74) := ⟨n, E74, rfl, h, by rw [E74_is]; omega⟩
/-- a whole number with a sign, as a float -/
def sx (neg : Bool) (d : Nat) : Nat := if neg then fint (d : Int) ^^^ 9223372036854775808 else fint (d : Int)
theorem fint_nat (d : Nat) : fint (d : Int) = D.word false (rung (d * 2 ^ E74) 1) := by
  rw [fint_rung]
  have : decide ((d : Int) < 0) = false := decide_eq_false (by omega)
  rw [this]; rfl
theorem word_flip {r : Nat} (hr : r ≤ 9218868437227405312) : D.word false r ^^^ 9223372036854775808 = D.word true r := by
  obtain ⟨a1, a2, a3⟩ := word_mod false (r := r) (by omega)
  obtain ⟨b1, b2, b3⟩ := word_mod true (r := r) (by omega)
  generalize D.word false r = x at a1 a2 a3 ⊢
  generalize D.word true r = y at b1 b2 b3 ⊢
  have c1 : x < 9223372036854775808 := by
    rw [beq_eq_false_iff_ne] at a2; omega
  rw [xor_low c1]
  rw [beq_iff_eq] at b2
  omega
theorem sx_word (neg : Bool) (d : Nat) : sx neg d = D.word neg (rung (d * 2 ^ E74) 1) := by
  have hr := rung_le (d * 2 ^ E74) 1
  have hf := fint_nat d
  unfold sx
  rw [hf]
  obtain ⟨r, h⟩ : ∃ r, rung (d * 2 ^ E74) 1 = r := ⟨_, rfl⟩
  rw [h] at hr ⊢
  cases neg
  · simp
  · simp only [if_true]
    exact word_flip hr
theorem is_sx (neg : Bool) {d : Nat} (h : d < 9007199254740992) : Is (sx neg d) (if neg then -((d * 2 ^ E74 : Nat) : Int) else (d * 2 ^ E74 : Nat)) := by
  rw [sx_word]
  exact is_rung neg (by decide) (Nat.mul_one _).symm (fits_nat h)
theorem is_ten {k : Nat} (hk : k ≤ 22) : Is (fint ((10 ^ k : Nat) : Int)) ((10 ^ k * 2 ^ E74 : Nat) : Int) := by
  rw [fint_nat]
  exact is_rung false (by decide) (Nat.mul_one _).symm (fits_ten hk)
theorem sg_sx (neg : Bool) (d : Nat) : sg (sx neg d) = neg := by
  rw [sx_word]; exact word_sg neg (Nat.lt_of_le_of_lt (rung_le _ _) (by decide))
theorem sg_ten (k : Nat) : sg (fint ((10 ^ k : Nat) : Int)) = false := by
  rw [fint_nat]; exact word_sg false (Nat.lt_of_le_of_lt (rung_le _ _) (by decide))
theorem abs_sx (neg : Bool) {d : Nat} (h : d < 9007199254740992) : (V (sx neg d)).natAbs = d * 2 ^ E74 := by
  rw [is_V (is_sx neg h)]
  generalize d * 2 ^ E74 = n
  cases neg <;> simp
theorem abs_ten {k : Nat} (hk : k ≤ 22) : (V (fint ((10 ^ k : Nat) : Int))).natAbs = 10 ^ k * 2 ^ E74 := by
  rw [is_V (is_ten hk)]
  generalize 10 ^ k * 2 ^ E74 = n
  simp
theorem mul_ten (neg : Bool) {d k : Nat} (h : d < 9007199254740992) (hk : k ≤ 22) : D.mul (sx neg d) (fint ((10 ^ k : Nat) : Int)) = some (D.word neg (rung (d * 10 ^ k * 2 ^ E74) 1)) := by
  rw [fmul_rung (is_sx neg h).fin (is_ten hk).fin, sg_sx, sg_ten, Bool.xor_false, abs_sx neg h, abs_ten hk]
  have := rung_scale (d * 10 ^ k * 2 ^ E74) 1 (c := 2 ^ E74) (Nat.two_pow_pos _)
  rw [Nat.one_mul] at this
  rw [← this]
  congr 3
  ac_rfl
theorem mul_exact (neg : Bool) {d k : Nat} (h : d < 9007199254740992) (hk : k ≤ 22) (h2 : d * 10 ^ k < 9007199254740992) : D.mul (sx neg d) (fint ((10 ^ k : Nat) : Int)) = some (sx neg (d * 10 ^ k)) := by
  rw [mul_ten neg h hk, sx_word]
theorem div_ten (neg : Bool) {d k : Nat} (h : d < 9007199254740992) (hk : k ≤ 22) : D.div (sx neg d) (fint ((10 ^ k : Nat) : Int)) = some (D.word neg (rung (d * 2 ^ E74) (10 ^ k))) := by
  have h0 : 0 < 10 ^ k * 2 ^ E74 := Nat.mul_pos (Nat.pow_pos (by decide)) (Nat.two_pow_pos _)
  rw [fdiv_rung (is_sx neg h).fin (is_ten hk).fin (by rw [is_V (is_ten hk)]; omega), sg_sx, sg_ten, Bool.xor_false, abs_sx neg h, abs_ten hk]
  rw [← rung_scale (d * 2 ^ E74) (10 ^ k) (c := 2 ^ E74) (Nat.two_pow_pos _)]
/-- great products stay great -/
theorem rung_great {n : Nat} (h : 9007199254740992 ≤ n) : 4845873199050653696 ≤ rung (n * 2 ^ E74) 1 := by
  unfold rung
  rw [Nat.div_one]
  have hp : 2 ^ (53 + E74) ≤ n * 2 ^ E74 := by
    rw [Nat.pow_add]
    exact Nat.mul_le_mul_right _ h
  have h0 : n * 2 ^ E74 ≠ 0 := by
    have : 0 < n * 2 ^ E74 := Nat.mul_pos (by omega) (Nat.two_pow_pos _)
    omega
  have hl := (Nat.le_log2 h0).2 hp
  have hE := E74_is
  generalize n * 2 ^ E74 = P at hp h0 hl
  clear hp h
  generalize E74 = E at hl hE
  obtain ⟨k, hk⟩ : ∃ k, P.log2 = 52 + k := ⟨P.log2 - 52, by omega⟩
  rw [hk, show 52 + k - 52 = k by omega, Nat.one_mul]
  have h1 : 2 ^ (52 + k) ≤ P := by rw [← hk]; exact Nat.log2_self_le h0
  have h2 : 4503599627370496 ≤ rhe P (2 ^ k) := by
    unfold rhe
    have : 4503599627370496 ≤ P / 2 ^ k := by
      rw [Nat.le_div_iff_mul_le (Nat.two_pow_pos k)]
      rw [Nat.pow_add] at h1
      exact h1
    omega
  omega
theorem val_great {neg : Bool} {r : Nat} (h : 4845873199050653696 ≤ r) (h2 : r < 9218868437227405312) : ∃ n : Nat, V (D.word neg r) = (if neg then -((n * 2 ^ E74 : Nat) : Int) else (n * 2 ^ E74 : Nat)) ∧ 9007199254740992 ≤ n := by
  obtain ⟨u, m, e, h3, h4⟩ : ∃ u m, r = u * 4503599627370496 + m ∧ 4503599627370496 ≤ m ∧ m < 9007199254740992 := ⟨r / 4503599627370496 - 1, r % 4503599627370496 + 4503599627370496, by omega, by omega, by omega⟩
  have hu : 1075 ≤ u ∧ u ≤ 2045 := by omega
  obtain ⟨a1, a2, a3⟩ := read_full neg (m := m) (z := u) h3 h4 hu.2
  refine ⟨m * 2 ^ (u - 1074), ?_, ?_⟩
  · unfold V
    rw [e, a1]
    have hz : m * 2 ^ (u - 1074) * 2 ^ E74 = m * 2 ^ u := by rw [Nat.mul_assoc, ← Nat.pow_add, E74_is, show u - 1074 + 1074 = u by omega]
    rw [hz]
    show signed neg m ((u : Int) - 1074 + 1074).toNat = _
    rw [show ((u : Int) - 1074 + 1074).toNat = u by omega, signed_is]
  · have : 2 ^ 1 ≤ 2 ^ (u - 1074) := Nat.pow_le_pow_right (by decide) (by omega)
    have := Nat.mul_le_mul h3 this
    omega
end Go.Proofs.YtlodbibagmblkaaGreatDoor.Fl
namespace Go.Proofs.YtlodbibagmblkaaGreatDoor.Fl
open Ieee
theorem rung_small {n : Nat} (h : n < 2 ^ 200) : rung (n * 2 ^ E74) 1 < 9218868437227405312 := by
  unfold rung
  rw [Nat.div_one]
  have hp : n * 2 ^ E74 < 2 ^ (200 + E74) := by
    rw [Nat.pow_add]
    exact Nat.mul_lt_mul_of_pos_right h (Nat.two_pow_pos _)
  have hE := E74_is
  generalize n * 2 ^ E74 = P at hp
  generalize E74 = E at hp hE
  rcases Nat.eq_zero_or_pos P with h0 | h0
  · subst h0
    simp [rhe]
  · have hl := (Nat.log2_lt (by omega)).2 hp
    obtain ⟨k, hk⟩ : ∃ k, P.log2 - 52 = k := ⟨_, rfl⟩
    rw [hk, Nat.one_mul]
    have h1 : P < 2 ^ (53 + k) := Nat.lt_of_lt_of_le Nat.lt_log2_self (Nat.pow_le_pow_right (by decide) (by omega))
    have h2 : rhe P (2 ^ k) ≤ 9007199254740992 := by
      unfold rhe
      have : P / 2 ^ k < 9007199254740992 := by
        rw [Nat.div_lt_iff_lt_mul (Nat.two_pow_pos k)]
        rw [Nat.pow_add] at h1
        exact h1
      have := Bool.toNat_le (decide (2 ^ k < 2 * (P % 2 ^ k)) || (2 ^ k == 2 * (P % 2 ^ k) && P / 2 ^ k % 2 == 1))
      omega
    have hk2 : k ≤ 1222 := by omega
    clear hp hl hk h1 hE h
    omega
theorem rung_small_quo {n q : Nat} (h : n < 2 ^ 200) (hq : 0 < q) : rung (n * 2 ^ E74) q < 9218868437227405312 := by
  unfold rung
  have hp : n * 2 ^ E74 / q < 2 ^ (200 + E74) := by
    rw [Nat.pow_add]
    exact Nat.lt_of_le_of_lt (Nat.div_le_self _ _) (Nat.mul_lt_mul_of_pos_right h (Nat.two_pow_pos _))
  have hE := E74_is
  generalize n * 2 ^ E74 = P at hp ⊢
  generalize E74 = E at hp hE
  obtain ⟨f, hf⟩ : ∃ f, P / q = f := ⟨_, rfl⟩
  rw [hf] at hp ⊢
  obtain ⟨k, hk⟩ : ∃ k, f.log2 - 52 = k := ⟨_, rfl⟩
  have hk2 : k ≤ 1222 := by
    rcases Nat.eq_zero_or_pos f with h0 | h0
    · subst h0; simp at hk; omega
    · have := (Nat.log2_lt (by omega)).2 hp
      omega
  have h1 : f < 2 ^ (53 + k) := by
    rcases Nat.eq_zero_or_pos f with h0 | h0
    · subst h0; exact Nat.two_pow_pos _
    · exact Nat.lt_of_lt_of_le Nat.lt_log2_self (Nat.pow_le_pow_right (by decide) (by omega))
  have h2 : rhe P (q * 2 ^ k) ≤ 9007199254740992 := by
    unfold rhe
    have : P / (q * 2 ^ k) < 9007199254740992 := by
      rw [← Nat.div_div_eq_div_mul, hf, Nat.div_lt_iff_lt_mul (Nat.two_pow_pos k)]
      rw [Nat.pow_add] at h1
      exact h1
    have := Bool.toNat_le (decide (q * 2 ^ k < 2 * (P % (q * 2 ^ k))) || (q * 2 ^ k == 2 * (P % (q * 2 ^ k)) && P / (q * 2 ^ k) % 2 == 1))
    omega
  rw [hk]
  clear hp hk hE h h1 hf
  omega
theorem order_some {a b : Nat} (ha : isNan a = false) (hb : isNan b = false) : ∃ o, D.order a b = some o := ⟨_, order_key ha hb⟩
theorem fint15 : fint ((10 ^ 15 : Nat) : Int) = 4831355200913801216 := by decide +kernel
theorem f10_fin : ∀ k : _root_.Fin 23, Go.Proofs.YtlodbibagmblkaaGreatDoor.Pl.f10[k.val]? = some (fint ((10 ^ k.val : Nat) : Int)) := by decide +kernel
theorem val15 : val (D.read 4831355200913801216) = ((1000000000000000 * 2 ^ E74 : Nat) : Int) := by
  have := (is_ten (k := 15) (by omega)).val
  rw [fint15] at this
  exact this
theorem val15n : val (D.read 14054727237768577024) = -((1000000000000000 * 2 ^ E74 : Nat) : Int) := by
  have h := read_xor (a := 4831355200913801216) (by decide)
  rw [show (4831355200913801216 : Nat) ^^^ 9223372036854775808 = 14054727237768577024 by decide] at h
  rw [h, val_opp, val15]
/-- what stays below 10 to the 15 was exact -/
theorem small_of_order (neg : Bool) {d j y : Nat} (hd : d < 4503599627370496) (hj : j ≤ 15) (hy : D.mul (sx neg d) (fint ((10 ^ j : Nat) : Int)) = some y) (h1 : D.order y 4831355200913801216 ≠ some .gt) (h2 : D.order y 14054727237768577024 ≠ some .lt) : d * 10 ^ j < 9007199254740992 := by
  rcases Nat.lt_or_ge (d * 10 ^ j) 9007199254740992 with h | h
  · exact h
  · exfalso
    have hn := mul_not_nan hy
    rw [mul_ten neg (by omega) (by omega)] at hy
    have hy' := Option.some.inj hy
    have hbig : d * 10 ^ j < 2 ^ 200 := by
      have a1 : 10 ^ j ≤ 10 ^ 15 := Nat.pow_le_pow_right (by decide) hj
      have a2 : d * 10 ^ j ≤ 4503599627370496 * 10 ^ 15 := Nat.mul_le_mul (by omega) a1
      exact Nat.lt_of_le_of_lt a2 (by decide)
    obtain ⟨n, hv, hn2⟩ := val_great (neg := neg) (rung_great h) (rung_small hbig)
    rw [hy'] at hv
    unfold V at hv
    have hlt : 1000000000000000 * 2 ^ E74 < n * 2 ^ E74 := Nat.mul_lt_mul_of_pos_right (by omega) (Nat.two_pow_pos _)
    generalize n * 2 ^ E74 = N at hv hlt
    cases neg
    · rw [order_key hn (by decide), hv, val15] at h1
      apply h1
      generalize 1000000000000000 * 2 ^ E74 = M at hlt
      rw [cmp_gt (by simp; omega)]
    · rw [order_key hn (by decide), hv, val15n] at h2
      apply h2
      generalize 1000000000000000 * 2 ^ E74 = M at hlt
      rw [cmp_lt (by simp; omega)]
end Go.Proofs.YtlodbibagmblkaaGreatDoor.Fl
