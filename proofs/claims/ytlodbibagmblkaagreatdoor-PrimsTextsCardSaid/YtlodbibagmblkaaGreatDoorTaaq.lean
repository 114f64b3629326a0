/- What the primitives of two integers do: the closure table$1$1 (printed by gen_cli.py). What the primitives of strings do: the closures 61, 68 (printed by gen_cls.py). Quotients of large numbers: the contract of Quo. A quotient cut down, where nothing is to be mended: the contract of Div; what the primitive 10 asks. -/
import Derived.Test.YtlodbibagmblkaaGreatDoorTaan
import Derived.Test.YtlodbibagmblkaaGreatDoorTaap
import Derived.Test.YtlodbibagmblkaaGreatDoorTaak
namespace Go.Proofs.YtlodbibagmblkaaGreatDoor
open Go Go.RowKit Go.Lib
set_option maxRecDepth 4000 in
set_option maxHeartbeats 4000000 in
theorem cl_add (p : Nat) (R : Int) (x y : PV) (v : Value) (w : World) (h : VRow w v [x, y]) (hp : w.cell? ⟨p, 0, none⟩ = some (.func (.func 26) #[] #[])) (hpl : p < w.heap.size)
    (HF : ∀ W, Calls Tryz.prog 26 #[.agg #[.bool x.g, .string x.s], .agg #[.bool y.g, .string y.s]] W fun e w' => e = .returned (.tuple #[lof R, .int .i64 0]) ∧ Below W.heap.size W w') (hR : Pl.Big R) :
    Calls Tryz.prog 24 #[v, .pointer (some ⟨p, 0, none⟩)] w (WhoOk w R) := by
  have HWH := Lib.hid (fun W => whole_any R W hR)
  obtain ⟨rg, rs, hr⟩ : ∃ g S, lof R = .agg #[.bool g, .string S] := ⟨_, _, rfl⟩
  rw [hr] at HWH
  have HFF := Lib.hid HF
  simp only [hr] at HFF
  clear HF hR hr
  unfold WhoOk LitOk litv at *
  obtain ⟨W1, hW1⟩ : ∃ W1, w.alloc (.cells #[.int .u8 0, .int .i64 0, .int .u64 0, .string ⟨#[]⟩, .slice none 0 0] 26) = W1 := ⟨_, rfl⟩
  have HP : Hid (P5 W1 w.heap.size (.int .u8 0) (.int .i64 0) (.int .u64 0) (.string ⟨#[]⟩) (.slice none 0 0)) := Lib.hid (by rw [← hW1]; exact P5.new _ _ _ _ _ _)
  have HB : Hid (Below w.heap.size w W1) := Lib.hid (by rw [← hW1]; exact (Below.refl _ _).alloc (Nat.le_refl _) _)
  have hs1 : w.heap.size + 1 ≤ W1.heap.size := by rw [← hW1]; simp
  obtain ⟨gv, cv, rfl, hg0, hc0⟩ := h
  have hx5 : W1.cell? ⟨gv, 5, none⟩ = some (.bool x.g) := by rw [HB.out.cell (p := ⟨gv, 5, none⟩) hg0]; exact hc0 0 x rfl 5 _ rfl
  have hx6 : W1.cell? ⟨gv, 6, none⟩ = some (.string x.s) := by rw [HB.out.cell (p := ⟨gv, 6, none⟩) hg0]; exact hc0 0 x rfl 6 _ rfl
  have hy5 : W1.cell? ⟨gv, 12, none⟩ = some (.bool y.g) := by rw [HB.out.cell (p := ⟨gv, 12, none⟩) hg0]; exact hc0 1 y rfl 5 _ rfl
  have hy6 : W1.cell? ⟨gv, 13, none⟩ = some (.string y.s) := by rw [HB.out.cell (p := ⟨gv, 13, none⟩) hg0]; exact hc0 1 y rfl 6 _ rfl
  have hp1 : W1.cell? ⟨p, 0, none⟩ = some (.func (.func 26) #[] #[]) := by rw [HB.out.cell (p := ⟨p, 0, none⟩) hpl]; exact hp
  simp only [List.length_cons, List.length_nil] at *
  clear hc0 hp
  have HS : Hid (∀ W, Below W1.heap.size W1 W → W.cell? ⟨p, 0, none⟩ = some (.func (.func 26) #[] #[]) ∧ W.cell? ⟨gv, 5, none⟩ = some (.bool x.g) ∧ W.cell? ⟨gv, 6, none⟩ = some (.string x.s) ∧ W.cell? ⟨gv, 12, none⟩ = some (.bool y.g) ∧ W.cell? ⟨gv, 13, none⟩ = some (.string y.s)) := Lib.hid (fun W hb => ⟨by rw [hb.cell (p := ⟨p, 0, none⟩) (by show p < _; omega)]; exact hp1, by rw [hb.cell (p := ⟨gv, 5, none⟩) (by show gv < _; omega)]; exact hx5, by rw [hb.cell (p := ⟨gv, 6, none⟩) (by show gv < _; omega)]; exact hx6, by rw [hb.cell (p := ⟨gv, 12, none⟩) (by show gv < _; omega)]; exact hy5, by rw [hb.cell (p := ⟨gv, 13, none⟩) (by show gv < _; omega)]; exact hy6⟩)
  have cellset : ∀ (W : World) (q i : Nat) (u a b c d e : Value), q < w.heap.size → W.cell? ⟨q, i, none⟩ = some u → (set5 W w.heap.size a b c d e).cell? ⟨q, i, none⟩ = some u := fun W q i u a b c d e hq hu => by
    unfold set5
    rw [World.cell?_setCell_other _ _ _ _ (by intro z; injection z with z; omega), World.cell?_setCell_other _ _ _ _ (by intro z; injection z with z; omega), World.cell?_setCell_other _ _ _ _ (by intro z; injection z with z; omega), World.cell?_setCell_other _ _ _ _ (by intro z; injection z with z; omega), World.cell?_setCell_other _ _ _ _ (by intro z; injection z with z; omega)]
    exact hu
  have HS5 : Hid (∀ W, Below W1.heap.size W1 W → ∀ a b c d e, (set5 W w.heap.size a b c d e).cell? ⟨p, 0, none⟩ = some (.func (.func 26) #[] #[]) ∧ (set5 W w.heap.size a b c d e).cell? ⟨gv, 5, none⟩ = some (.bool x.g) ∧ (set5 W w.heap.size a b c d e).cell? ⟨gv, 6, none⟩ = some (.string x.s) ∧ (set5 W w.heap.size a b c d e).cell? ⟨gv, 12, none⟩ = some (.bool y.g) ∧ (set5 W w.heap.size a b c d e).cell? ⟨gv, 13, none⟩ = some (.string y.s)) := Lib.hid (fun W hb a b c d e => ⟨cellset W p 0 _ a b c d e hpl (HS.out W hb).1, cellset W gv 5 _ a b c d e hg0 (HS.out W hb).2.1, cellset W gv 6 _ a b c d e hg0 (HS.out W hb).2.2.1, cellset W gv 12 _ a b c d e hg0 (HS.out W hb).2.2.2.1, cellset W gv 13 _ a b c d e hg0 (HS.out W hb).2.2.2.2⟩)
  have BD := Lib.hid (show Below W1.heap.size W1 W1.drew from (Below.refl _ W1).drew)
  clear cellset
  unfold set5 at HS5
  obtain ⟨c0, c1, c2, c3, c4, f0, f1, f2, f3, f4⟩ := HP.out.cells
  go_enter Tryz.func24, Tryz.ntmps24
  go_wp2_with fail
  go_region_held3 (fun W => W.cell? ⟨p, 0, none⟩ = some (.func (.func 26) #[] #[]) ∧ W.cell? ⟨gv, 5, none⟩ = some (.bool x.g) ∧ W.cell? ⟨gv, 6, none⟩ = some (.string x.s) ∧ W.cell? ⟨gv, 12, none⟩ = some (.bool y.g) ∧ W.cell? ⟨gv, 13, none⟩ = some (.string y.s)) (first | with_reducible exact ⟨hp1, hx5, hx6, hy5, hy6⟩ | with_reducible exact HS.out _ BD.out | with_reducible exact HS.out _ hb4 | with_reducible exact HS.out _ hb54 | with_reducible exact HS5.out _ hb54 _ _ _ _ _) (first
    | (go_at_call 25; (with_reducible refine (HWH.out _).mono ?_); rintro e w5 ⟨rk, rn, rt, hil, rfl, hb5⟩; have HIL := Lib.hid hil; obtain ⟨rT, hrT⟩ : ∃ rT, bs rt = rT := ⟨_, rfl⟩; have HRT := Lib.hid hrT; rw [hrT]; clear hil hrT; have hb54 : Below W1.heap.size W1 w5 := hb4.trans (hb5.mono hb4.size); have HP5 := Lib.hid (HP.out.below hb54); obtain ⟨d0, d1, d2, d3, d4, e0, e1, e2, e3, e4⟩ := HP5.out.cells)
    | (go_at_call 26; (with_reducible refine (HFF.out _).mono ?_); rintro e w4 ⟨rfl, hb4d⟩; have hb4 : Below W1.heap.size W1 w4 := BD.out.trans hb4d; clear hb4d))
  all_goals
    have HB5 := Lib.hid (HB.out.trans (hb54.mono (by omega)))
    obtain ⟨k0, k1, k2, k3, k4, _, _, _, _, _⟩ := (HP5.out.set (.int .u8 rk) (.int .i64 rn) (.int .u64 0) (.string rT) (.slice none 0 0)).cells
    go_wp2_with fail
    exact bodyPost_ret (v := .tuple #[.agg #[.int .u8 rk, .int .i64 rn, .int .u64 0, .string rT, .slice none 0 0], .bool true]) (by simp [results, Tryz.results24, go_sem, k0, k1, k2, k3, k4]) rfl ⟨rk, rn, rt, HIL.out, by rw [HRT.out]; exact ⟨rfl, below_set5 HB5.out (Nat.le_refl _) _ _ _ _ _⟩⟩
set_option maxRecDepth 4000 in
set_option maxHeartbeats 4000000 in
theorem cl_sub (p : Nat) (R : Int) (x y : PV) (v : Value) (w : World) (h : VRow w v [x, y]) (hp : w.cell? ⟨p, 0, none⟩ = some (.func (.func 27) #[] #[])) (hpl : p < w.heap.size)
    (HF : ∀ W, Calls Tryz.prog 27 #[.agg #[.bool x.g, .string x.s], .agg #[.bool y.g, .string y.s]] W fun e w' => e = .returned (.tuple #[lof R, .int .i64 0]) ∧ Below W.heap.size W w') (hR : Pl.Big R) :
    Calls Tryz.prog 24 #[v, .pointer (some ⟨p, 0, none⟩)] w (WhoOk w R) := by
  have HWH := Lib.hid (fun W => whole_any R W hR)
  obtain ⟨rg, rs, hr⟩ : ∃ g S, lof R = .agg #[.bool g, .string S] := ⟨_, _, rfl⟩
  rw [hr] at HWH
  have HFF := Lib.hid HF
  simp only [hr] at HFF
  clear HF hR hr
  unfold WhoOk LitOk litv at *
  obtain ⟨W1, hW1⟩ : ∃ W1, w.alloc (.cells #[.int .u8 0, .int .i64 0, .int .u64 0, .string ⟨#[]⟩, .slice none 0 0] 26) = W1 := ⟨_, rfl⟩
  have HP : Hid (P5 W1 w.heap.size (.int .u8 0) (.int .i64 0) (.int .u64 0) (.string ⟨#[]⟩) (.slice none 0 0)) := Lib.hid (by rw [← hW1]; exact P5.new _ _ _ _ _ _)
  have HB : Hid (Below w.heap.size w W1) := Lib.hid (by rw [← hW1]; exact (Below.refl _ _).alloc (Nat.le_refl _) _)
  have hs1 : w.heap.size + 1 ≤ W1.heap.size := by rw [← hW1]; simp
  obtain ⟨gv, cv, rfl, hg0, hc0⟩ := h
  have hx5 : W1.cell? ⟨gv, 5, none⟩ = some (.bool x.g) := by rw [HB.out.cell (p := ⟨gv, 5, none⟩) hg0]; exact hc0 0 x rfl 5 _ rfl
  have hx6 : W1.cell? ⟨gv, 6, none⟩ = some (.string x.s) := by rw [HB.out.cell (p := ⟨gv, 6, none⟩) hg0]; exact hc0 0 x rfl 6 _ rfl
  have hy5 : W1.cell? ⟨gv, 12, none⟩ = some (.bool y.g) := by rw [HB.out.cell (p := ⟨gv, 12, none⟩) hg0]; exact hc0 1 y rfl 5 _ rfl
  have hy6 : W1.cell? ⟨gv, 13, none⟩ = some (.string y.s) := by rw [HB.out.cell (p := ⟨gv, 13, none⟩) hg0]; exact hc0 1 y rfl 6 _ rfl
  have hp1 : W1.cell? ⟨p, 0, none⟩ = some (.func (.func 27) #[] #[]) := by rw [HB.out.cell (p := ⟨p, 0, none⟩) hpl]; exact hp
  simp only [List.length_cons, List.length_nil] at *
  clear hc0 hp
  have HS : Hid (∀ W, Below W1.heap.size W1 W → W.cell? ⟨p, 0, none⟩ = some (.func (.func 27) #[] #[]) ∧ W.cell? ⟨gv, 5, none⟩ = some (.bool x.g) ∧ W.cell? ⟨gv, 6, none⟩ = some (.string x.s) ∧ W.cell? ⟨gv, 12, none⟩ = some (.bool y.g) ∧ W.cell? ⟨gv, 13, none⟩ = some (.string y.s)) := Lib.hid (fun W hb => ⟨by rw [hb.cell (p := ⟨p, 0, none⟩) (by show p < _; omega)]; exact hp1, by rw [hb.cell (p := ⟨gv, 5, none⟩) (by show gv < _; omega)]; exact hx5, by rw [hb.cell (p := ⟨gv, 6, none⟩) (by show gv < _; omega)]; exact hx6, by rw [hb.cell (p := ⟨gv, 12, none⟩) (by show gv < _; omega)]; exact hy5, by rw [hb.cell (p := ⟨gv, 13, none⟩) (by show gv < _; omega)]; exact hy6⟩)
  have cellset : ∀ (W : World) (q i : Nat) (u a b c d e : Value), q < w.heap.size → W.cell? ⟨q, i, none⟩ = some u → (set5 W w.heap.size a b c d e).cell? ⟨q, i, none⟩ = some u := fun W q i u a b c d e hq hu => by
    unfold set5
    rw [World.cell?_setCell_other _ _ _ _ (by intro z; injection z with z; omega), World.cell?_setCell_other _ _ _ _ (by intro z; injection z with z; omega), World.cell?_setCell_other _ _ _ _ (by intro z; injection z with z; omega), World.cell?_setCell_other _ _ _ _ (by intro z; injection z with z; omega), World.cell?_setCell_other _ _ _ _ (by intro z; injection z with z; omega)]
    exact hu
  have HS5 : Hid (∀ W, Below W1.heap.size W1 W → ∀ a b c d e, (set5 W w.heap.size a b c d e).cell? ⟨p, 0, none⟩ = some (.func (.func 27) #[] #[]) ∧ (set5 W w.heap.size a b c d e).cell? ⟨gv, 5, none⟩ = some (.bool x.g) ∧ (set5 W w.heap.size a b c d e).cell? ⟨gv, 6, none⟩ = some (.string x.s) ∧ (set5 W w.heap.size a b c d e).cell? ⟨gv, 12, none⟩ = some (.bool y.g) ∧ (set5 W w.heap.size a b c d e).cell? ⟨gv, 13, none⟩ = some (.string y.s)) := Lib.hid (fun W hb a b c d e => ⟨cellset W p 0 _ a b c d e hpl (HS.out W hb).1, cellset W gv 5 _ a b c d e hg0 (HS.out W hb).2.1, cellset W gv 6 _ a b c d e hg0 (HS.out W hb).2.2.1, cellset W gv 12 _ a b c d e hg0 (HS.out W hb).2.2.2.1, cellset W gv 13 _ a b c d e hg0 (HS.out W hb).2.2.2.2⟩)
  have BD := Lib.hid (show Below W1.heap.size W1 W1.drew from (Below.refl _ W1).drew)
  clear cellset
  unfold set5 at HS5
  obtain ⟨c0, c1, c2, c3, c4, f0, f1, f2, f3, f4⟩ := HP.out.cells
  go_enter Tryz.func24, Tryz.ntmps24
  go_wp2_with fail
  go_region_held3 (fun W => W.cell? ⟨p, 0, none⟩ = some (.func (.func 27) #[] #[]) ∧ W.cell? ⟨gv, 5, none⟩ = some (.bool x.g) ∧ W.cell? ⟨gv, 6, none⟩ = some (.string x.s) ∧ W.cell? ⟨gv, 12, none⟩ = some (.bool y.g) ∧ W.cell? ⟨gv, 13, none⟩ = some (.string y.s)) (first | with_reducible exact ⟨hp1, hx5, hx6, hy5, hy6⟩ | with_reducible exact HS.out _ BD.out | with_reducible exact HS.out _ hb4 | with_reducible exact HS.out _ hb54 | with_reducible exact HS5.out _ hb54 _ _ _ _ _) (first
    | (go_at_call 25; (with_reducible refine (HWH.out _).mono ?_); rintro e w5 ⟨rk, rn, rt, hil, rfl, hb5⟩; have HIL := Lib.hid hil; obtain ⟨rT, hrT⟩ : ∃ rT, bs rt = rT := ⟨_, rfl⟩; have HRT := Lib.hid hrT; rw [hrT]; clear hil hrT; have hb54 : Below W1.heap.size W1 w5 := hb4.trans (hb5.mono hb4.size); have HP5 := Lib.hid (HP.out.below hb54); obtain ⟨d0, d1, d2, d3, d4, e0, e1, e2, e3, e4⟩ := HP5.out.cells)
    | (go_at_call 27; (with_reducible refine (HFF.out _).mono ?_); rintro e w4 ⟨rfl, hb4d⟩; have hb4 : Below W1.heap.size W1 w4 := BD.out.trans hb4d; clear hb4d))
  all_goals
    have HB5 := Lib.hid (HB.out.trans (hb54.mono (by omega)))
    obtain ⟨k0, k1, k2, k3, k4, _, _, _, _, _⟩ := (HP5.out.set (.int .u8 rk) (.int .i64 rn) (.int .u64 0) (.string rT) (.slice none 0 0)).cells
    go_wp2_with fail
    exact bodyPost_ret (v := .tuple #[.agg #[.int .u8 rk, .int .i64 rn, .int .u64 0, .string rT, .slice none 0 0], .bool true]) (by simp [results, Tryz.results24, go_sem, k0, k1, k2, k3, k4]) rfl ⟨rk, rn, rt, HIL.out, by rw [HRT.out]; exact ⟨rfl, below_set5 HB5.out (Nat.le_refl _) _ _ _ _ _⟩⟩
set_option maxRecDepth 4000 in
set_option maxHeartbeats 4000000 in
theorem cl_quo_err (p : Nat) (rg : Bool) (rs : ByteArray) (en : Int) (x y : PV) (v : Value) (w : World) (h : VRow w v [x, y]) (hp : w.cell? ⟨p, 0, none⟩ = some (.func (.func 29) #[] #[])) (hpl : p < w.heap.size)
    (HF : ∀ W, Calls Tryz.prog 29 #[.agg #[.bool x.g, .string x.s], .agg #[.bool y.g, .string y.s]] W fun e w' => e = .returned (.tuple #[.agg #[.bool rg, .string rs], .int .i64 en]) ∧ Below W.heap.size W w') (he : en ≠ 0) :
    Calls Tryz.prog 24 #[v, .pointer (some ⟨p, 0, none⟩)] w (LitOk w nolit false) := by
  have HWH := Lib.hid (fun W => whole_err rg rs en W he)
  have HFF := Lib.hid HF
  clear HF he
  unfold LitOk nolit litv at *
  obtain ⟨W1, hW1⟩ : ∃ W1, w.alloc (.cells #[.int .u8 0, .int .i64 0, .int .u64 0, .string ⟨#[]⟩, .slice none 0 0] 26) = W1 := ⟨_, rfl⟩
  have HP : Hid (P5 W1 w.heap.size (.int .u8 0) (.int .i64 0) (.int .u64 0) (.string ⟨#[]⟩) (.slice none 0 0)) := Lib.hid (by rw [← hW1]; exact P5.new _ _ _ _ _ _)
  have HB : Hid (Below w.heap.size w W1) := Lib.hid (by rw [← hW1]; exact (Below.refl _ _).alloc (Nat.le_refl _) _)
  have hs1 : w.heap.size + 1 ≤ W1.heap.size := by rw [← hW1]; simp
  obtain ⟨gv, cv, rfl, hg0, hc0⟩ := h
  have hx5 : W1.cell? ⟨gv, 5, none⟩ = some (.bool x.g) := by rw [HB.out.cell (p := ⟨gv, 5, none⟩) hg0]; exact hc0 0 x rfl 5 _ rfl
  have hx6 : W1.cell? ⟨gv, 6, none⟩ = some (.string x.s) := by rw [HB.out.cell (p := ⟨gv, 6, none⟩) hg0]; exact hc0 0 x rfl 6 _ rfl
  have hy5 : W1.cell? ⟨gv, 12, none⟩ = some (.bool y.g) := by rw [HB.out.cell (p := ⟨gv, 12, none⟩) hg0]; exact hc0 1 y rfl 5 _ rfl
  have hy6 : W1.cell? ⟨gv, 13, none⟩ = some (.string y.s) := by rw [HB.out.cell (p := ⟨gv, 13, none⟩) hg0]; exact hc0 1 y rfl 6 _ rfl
  have hp1 : W1.cell? ⟨p, 0, none⟩ = some (.func (.func 29) #[] #[]) := by rw [HB.out.cell (p := ⟨p, 0, none⟩) hpl]; exact hp
  simp only [List.length_cons, List.length_nil] at *
  clear hc0 hp
  have HS : Hid (∀ W, Below W1.heap.size W1 W → W.cell? ⟨p, 0, none⟩ = some (.func (.func 29) #[] #[]) ∧ W.cell? ⟨gv, 5, none⟩ = some (.bool x.g) ∧ W.cell? ⟨gv, 6, none⟩ = some (.string x.s) ∧ W.cell? ⟨gv, 12, none⟩ = some (.bool y.g) ∧ W.cell? ⟨gv, 13, none⟩ = some (.string y.s)) := Lib.hid (fun W hb => ⟨by rw [hb.cell (p := ⟨p, 0, none⟩) (by show p < _; omega)]; exact hp1, by rw [hb.cell (p := ⟨gv, 5, none⟩) (by show gv < _; omega)]; exact hx5, by rw [hb.cell (p := ⟨gv, 6, none⟩) (by show gv < _; omega)]; exact hx6, by rw [hb.cell (p := ⟨gv, 12, none⟩) (by show gv < _; omega)]; exact hy5, by rw [hb.cell (p := ⟨gv, 13, none⟩) (by show gv < _; omega)]; exact hy6⟩)
  have cellset : ∀ (W : World) (q i : Nat) (u a b c d e : Value), q < w.heap.size → W.cell? ⟨q, i, none⟩ = some u → (set5 W w.heap.size a b c d e).cell? ⟨q, i, none⟩ = some u := fun W q i u a b c d e hq hu => by
    unfold set5
    rw [World.cell?_setCell_other _ _ _ _ (by intro z; injection z with z; omega), World.cell?_setCell_other _ _ _ _ (by intro z; injection z with z; omega), World.cell?_setCell_other _ _ _ _ (by intro z; injection z with z; omega), World.cell?_setCell_other _ _ _ _ (by intro z; injection z with z; omega), World.cell?_setCell_other _ _ _ _ (by intro z; injection z with z; omega)]
    exact hu
  have HS5 : Hid (∀ W, Below W1.heap.size W1 W → ∀ a b c d e, (set5 W w.heap.size a b c d e).cell? ⟨p, 0, none⟩ = some (.func (.func 29) #[] #[]) ∧ (set5 W w.heap.size a b c d e).cell? ⟨gv, 5, none⟩ = some (.bool x.g) ∧ (set5 W w.heap.size a b c d e).cell? ⟨gv, 6, none⟩ = some (.string x.s) ∧ (set5 W w.heap.size a b c d e).cell? ⟨gv, 12, none⟩ = some (.bool y.g) ∧ (set5 W w.heap.size a b c d e).cell? ⟨gv, 13, none⟩ = some (.string y.s)) := Lib.hid (fun W hb a b c d e => ⟨cellset W p 0 _ a b c d e hpl (HS.out W hb).1, cellset W gv 5 _ a b c d e hg0 (HS.out W hb).2.1, cellset W gv 6 _ a b c d e hg0 (HS.out W hb).2.2.1, cellset W gv 12 _ a b c d e hg0 (HS.out W hb).2.2.2.1, cellset W gv 13 _ a b c d e hg0 (HS.out W hb).2.2.2.2⟩)
  have BD := Lib.hid (show Below W1.heap.size W1 W1.drew from (Below.refl _ W1).drew)
  clear cellset
  unfold set5 at HS5
  obtain ⟨c0, c1, c2, c3, c4, f0, f1, f2, f3, f4⟩ := HP.out.cells
  go_enter Tryz.func24, Tryz.ntmps24
  go_wp2_with fail
  go_region_held3 (fun W => W.cell? ⟨p, 0, none⟩ = some (.func (.func 29) #[] #[]) ∧ W.cell? ⟨gv, 5, none⟩ = some (.bool x.g) ∧ W.cell? ⟨gv, 6, none⟩ = some (.string x.s) ∧ W.cell? ⟨gv, 12, none⟩ = some (.bool y.g) ∧ W.cell? ⟨gv, 13, none⟩ = some (.string y.s)) (first | with_reducible exact ⟨hp1, hx5, hx6, hy5, hy6⟩ | with_reducible exact HS.out _ BD.out | with_reducible exact HS.out _ hb4 | with_reducible exact HS.out _ hb54 | with_reducible exact HS5.out _ hb54 _ _ _ _ _) (first
    | (go_at_call 25; (with_reducible refine (HWH.out _).mono ?_); rintro e w5 ⟨rfl, hb5⟩; have hb54 : Below W1.heap.size W1 w5 := hb4.trans (hb5.mono hb4.size); have HP5 := Lib.hid (HP.out.below hb54); obtain ⟨d0, d1, d2, d3, d4, e0, e1, e2, e3, e4⟩ := HP5.out.cells)
    | (go_at_call 29; (with_reducible refine (HFF.out _).mono ?_); rintro e w4 ⟨rfl, hb4d⟩; have hb4 : Below W1.heap.size W1 w4 := BD.out.trans hb4d; clear hb4d))
  all_goals
    have HB5 := Lib.hid (HB.out.trans (hb54.mono (by omega)))
    obtain ⟨k0, k1, k2, k3, k4, _, _, _, _, _⟩ := (HP5.out.set (.int .u8 0) (.int .i64 0) (.int .u64 0) (.string ⟨#[]⟩) (.slice none 0 0)).cells
    go_wp2_with fail
    exact bodyPost_ret (v := .tuple #[.agg #[.int .u8 0, .int .i64 0, .int .u64 0, .string ⟨#[]⟩, .slice none 0 0], .bool false]) (by simp [results, Tryz.results24, go_sem, k0, k1, k2, k3, k4]) rfl ⟨rfl, below_set5 HB5.out (Nat.le_refl _) _ _ _ _ _⟩
end Go.Proofs.YtlodbibagmblkaaGreatDoor
namespace Go.Proofs.YtlodbibagmblkaaGreatDoor
open Go Go.RowKit Go.Lib
theorem P5.drew {W : World} {k : Nat} {a b c d e : Value} (h : P5 W k a b c d e) : P5 W.drew k a b c d e := h
set_option maxRecDepth 4000 in
set_option maxHeartbeats 4000000 in
theorem cl68 (x y z : PV) (a b : Nat) (v : Value) (w : World) (h : VRow w v [x, y, z]) (hy : y.n = (a : Int) + 1) (hz : z.n = (b : Int)) (hab : a ≤ b) (hb : b ≤ x.t.size) (hs : x.t.size ≤ 65536) :
    Calls Tryz.prog 117 #[v] w (LitOk w (litv 8 0 0 (x.t.extract a b) (.slice none 0 0)) true) := by
  obtain ⟨W1, hW1⟩ : ∃ W1, w.alloc (.cells #[.int .u8 0, .int .i64 0, .int .u64 0, .string ⟨#[]⟩, .slice none 0 0] 26) = W1 := ⟨_, rfl⟩
  have HP : Hid (P5 W1 w.heap.size (.int .u8 0) (.int .i64 0) (.int .u64 0) (.string ⟨#[]⟩) (.slice none 0 0)) := Lib.hid (by rw [← hW1]; exact P5.new _ _ _ _ _ _)
  have HB : Hid (Below w.heap.size w W1) := Lib.hid (by rw [← hW1]; exact (Below.refl _ _).alloc (Nat.le_refl _) _)
  obtain ⟨gv, cv, rfl, hg0, hc0⟩ := h
  have hc : ∀ (i : Nat) (q : PV), [x, y, z][i]? = some q → ∀ (j : Nat) (u : Value), q.cells[j]? = some u → W1.cell? ⟨gv, i * 7 + j, none⟩ = some u := fun i q hq j u hu => by rw [HB.out.cell (p := ⟨gv, i * 7 + j, none⟩) hg0]; exact hc0 i q hq j u hu
  have hg := Nat.lt_of_lt_of_le hg0 HB.out.size
  obtain ⟨c0, c1, c2, c3, c4, f0, f1, f2, f3, f4⟩ := HP.out.cells
  have v0n : W1.cell? ⟨gv, 1, none⟩ = _ := hc 0 _ rfl 1 _ rfl
  have v0t : W1.cell? ⟨gv, 3, none⟩ = _ := hc 0 _ rfl 3 _ rfl
  have v1n : W1.cell? ⟨gv, 8, none⟩ = _ := hc 1 _ rfl 1 _ rfl
  have v1t : W1.cell? ⟨gv, 10, none⟩ = _ := hc 1 _ rfl 3 _ rfl
  have v2n : W1.cell? ⟨gv, 15, none⟩ = _ := hc 2 _ rfl 1 _ rfl
  have v2t : W1.cell? ⟨gv, 17, none⟩ = _ := hc 2 _ rfl 3 _ rfl
  clear hc hc0
  simp only [List.length_cons, List.length_nil] at *
  have HSM := Lib.hid (fun W => ptext_any (x.t.extract a b) W (by rw [ByteArray.size_extract]; omega))
  unfold litv at HSM
  rw [hy] at v1n
  rw [hz] at v2n
  clear hy hz
  generalize x.t = T at *
  have d1 : decide ((a : Int) + 1 < 1) = false := decide_eq_false (by omega)
  have d2 : decide ((T.size : Int) < (b : Int)) = false := decide_eq_false (by omega)
  have d3 : decide ((b : Int) + 1 < (a : Int) + 1) = false := decide_eq_false (by omega)
  go_enter Tryz.func117, Tryz.ntmps117
  go_wp2_with fail
  go_region
  have HBD := Lib.hid HB.out.drew
  have HPD := Lib.hid HP.out.drew
  go_wp2_with fail
  refine (HSM.out _).mono ?_
  rintro e w2 ⟨rfl, hb2⟩
  have HP2 := Lib.hid (HPD.out.below hb2)
  have HB2 := Lib.hid (HBD.out.trans (hb2.mono (by have := HPD.out.lt; omega)))
  clear c0 c1 c2 c3 c4 f0 f1 f2 f3 f4
  obtain ⟨c0, c1, c2, c3, c4, f0, f1, f2, f3, f4⟩ := HP2.out.cells
  go_wp2_with fail
  obtain ⟨k0, k1, k2, k3, k4, _, _, _, _, _⟩ := (HP2.out.set (.int .u8 8) (.int .i64 0) (.int .u64 0) (.string (T.extract a b)) (.slice none 0 0)).cells
  exact bodyPost_ret (v := .tuple #[.agg #[.int .u8 8, .int .i64 0, .int .u64 0, .string (T.extract a b), .slice none 0 0], .bool true]) (by simp [results, Tryz.results117, go_sem, k0, k1, k2, k3, k4]) rfl ⟨rfl, below_set5 HB2.out (Nat.le_refl _) _ _ _ _ _⟩
end Go.Proofs.YtlodbibagmblkaaGreatDoor
namespace Go.Proofs.YtlodbibagmblkaaGreatDoor
open Go.RowKit Go.Lib
/-- div does as it should of two numbers -/
def DivHyp (A B : Nat) : Prop := ∀ (vx vy : Value) (w : World), Rd w vx (Pl.wd A) → Rd w vy (Pl.wd B) → Calls Tryz.prog 70 #[vx, vy] w (DivW w A B)
theorem divHyp_one {A B : Nat} (hA : A < 256 ^ 4096) (hB : (Pl.wd B).length = 1) : DivHyp A B := fun vx vy w hx hy => by
  have hl := Nat.le_trans (Pl.wd_len A hA) (show 1024 ≤ 2500 by decide)
  rcases Nat.lt_or_ge A B with h | h
  · exact ndiv_less vx vy A B w hx hy hl (by omega) h
  · exact ndiv_one vx vy A B w hx hy hl hB h
theorem large_any2 (v : Value) (neg : Bool) (V : Nat) (n : Int) (w : World) (hn : sg neg V = n) (h : Rd w v (Pl.wd V)) (hl : (Pl.wd V).length ≤ 10000) :
    Calls Tryz.prog 71 #[v, .bool neg] w fun e w' => e = .returned (lof n) ∧ Below w.heap.size w w' := by
  have h1 := large_any v (Pl.wd V) neg w h hl (Pl.wd_ws V)
  rw [show LargeOk w neg (Pl.wd V) = fun e w' => e = .returned (lv (neg && !(Pl.bytesOf (Pl.wd V)).isEmpty) (Pl.bytesOf (Pl.wd V))) ∧ Below w.heap.size w w' from rfl, Pl.bytesOf_wd, Pl.dgs_empty, lof_sg hn] at h1
  exact h1
theorem sg_quo (A B : Int) : sg (decide (A < 0) != decide (B < 0)) (A.natAbs / B.natAbs) = A.tdiv B := by
  have h : ∀ a b : Nat, (a : Int).tdiv (b : Int) = ((a / b : Nat) : Int) := fun a b => by simp
  unfold sg
  by_cases hA : A < 0 <;> by_cases hB : B < 0
  · rw [decide_eq_true hA, decide_eq_true hB]
    obtain ⟨a, ha⟩ : ∃ a : Nat, A = -(a : Int) := ⟨A.natAbs, by omega⟩
    obtain ⟨b, hb⟩ : ∃ b : Nat, B = -(b : Int) := ⟨B.natAbs, by omega⟩
    subst ha hb
    simp [Int.neg_tdiv, Int.tdiv_neg]
  · rw [decide_eq_true hA, decide_eq_false hB]
    obtain ⟨a, ha⟩ : ∃ a : Nat, A = -(a : Int) := ⟨A.natAbs, by omega⟩
    obtain ⟨b, hb⟩ : ∃ b : Nat, B = (b : Int) := ⟨B.natAbs, by omega⟩
    subst ha hb
    simp [Int.neg_tdiv]
  · rw [decide_eq_false hA, decide_eq_true hB]
    obtain ⟨a, ha⟩ : ∃ a : Nat, A = (a : Int) := ⟨A.natAbs, by omega⟩
    obtain ⟨b, hb⟩ : ∃ b : Nat, B = -(b : Int) := ⟨B.natAbs, by omega⟩
    subst ha hb
    simp [Int.tdiv_neg]
  · rw [decide_eq_false hA, decide_eq_false hB]
    obtain ⟨a, ha⟩ : ∃ a : Nat, A = (a : Int) := ⟨A.natAbs, by omega⟩
    obtain ⟨b, hb⟩ : ∃ b : Nat, B = (b : Int) := ⟨B.natAbs, by omega⟩
    subst ha hb
    simp
theorem sg_rem (A B : Int) : sg (decide (A < 0)) (A.natAbs % B.natAbs) = A.tmod B := by
  have key : ∀ a b : Nat, (a : Int).tmod (b : Int) = ((a % b : Nat) : Int) := fun a b => rfl
  obtain ⟨b, hb⟩ : ∃ b : Nat, B = (b : Int) ∨ B = -(b : Int) := ⟨B.natAbs, Int.natAbs_eq B⟩
  have e1 : A.tmod B = A.tmod (b : Int) := by rcases hb with rfl | rfl <;> simp
  have e2 : B.natAbs = b := by rcases hb with rfl | rfl <;> simp
  rw [e1, e2]
  unfold sg
  by_cases hA : A < 0
  · rw [decide_eq_true hA, if_pos rfl]
    obtain ⟨a, ha⟩ : ∃ a : Nat, A = -(a : Int) := ⟨A.natAbs, by omega⟩
    subst ha
    rw [Int.neg_tmod, key, Int.natAbs_neg, Int.natAbs_natCast]
  · rw [decide_eq_false hA]
    obtain ⟨a, ha⟩ : ∃ a : Nat, A = (a : Int) := ⟨A.natAbs, by omega⟩
    subst ha
    rw [key, Int.natAbs_natCast]; rfl
theorem P2.at1 {w W : World} {T T' : TypeId} {a b x y : Value} (hw : (w.alloc (.cells #[x, y] T')).alloc (.cells #[a, b] T) = W) : P2 W (w.heap.size + 1) T a b := by
  rw [← hw]
  have := P2.new (w.alloc (.cells #[x, y] T')) T a b
  simpa using this
set_option maxRecDepth 4000 in
set_option maxHeartbeats 4000000 in
theorem lquo_any (A B : Int) (w : World) (hA : Pl.Big A) (hB : Pl.Big B) (h0 : B ≠ 0) (hd : DivHyp A.natAbs B.natAbs) :
    Calls Tryz.prog 34 #[lof A, lof B] w fun e w' => e = .returned (.tuple #[lof (A.tdiv B), lof (A.tmod B), .int .i64 0]) ∧ Below w.heap.size w w' := by
  have HTW := Lib.hid (fun W => ltwo_any A B W hA hB)
  have HD := Lib.hid hd
  have hql : (Pl.wd (A.natAbs / B.natAbs)).length ≤ 10000 := Nat.le_trans (Pl.wd_len _ (Nat.lt_of_le_of_lt (Nat.div_le_self _ _) hA)) (by decide)
  have hrl : (Pl.wd (A.natAbs % B.natAbs)).length ≤ 10000 := Nat.le_trans (Pl.wd_len _ (Nat.lt_of_le_of_lt (Nat.mod_le _ _) hA)) (by decide)
  have HLQ : Hid (∀ W v, Rd W v (Pl.wd (A.natAbs / B.natAbs)) → Calls Tryz.prog 71 #[v, .bool (!(decide (A < 0) == decide (B < 0)))] W fun e w' => e = .returned (lof (A.tdiv B)) ∧ Below W.heap.size W w') := Lib.hid (fun W v h => large_any2 v _ _ _ W (sg_quo A B) h hql)
  have HLR : Hid (∀ W v, Rd W v (Pl.wd (A.natAbs % B.natAbs)) → Calls Tryz.prog 71 #[v, .bool (decide (A < 0))] W fun e w' => e = .returned (lof (A.tmod B)) ∧ Below W.heap.size W w') := Lib.hid (fun W v h => large_any2 v _ _ _ W (sg_rem A B) h hrl)
  have hne : Pl.wd B.natAbs ≠ [] := fun e => by
    have := Pl.wd_num B.natAbs
    rw [e] at this
    simp [Pl.num] at this
    omega
  have hlb : 0 < (Pl.wd B.natAbs).length := List.length_pos_iff.2 hne
  obtain ⟨na, hna⟩ : ∃ na, decide (A < 0) = na := ⟨_, rfl⟩
  obtain ⟨nb, hnb⟩ : ∃ nb, decide (B < 0) = nb := ⟨_, rfl⟩
  have ha : lof A = .agg #[.bool na, .string (bs (Pl.dgs A.natAbs))] := by unfold lof lv; rw [hna]
  have hb : lof B = .agg #[.bool nb, .string (bs (Pl.dgs B.natAbs))] := by unfold lof lv; rw [hnb]
  rw [ha] at HTW ⊢
  rw [hb] at HTW ⊢
  rw [hna] at HTW HLQ HLR
  rw [hnb] at HTW HLQ
  generalize bs (Pl.dgs A.natAbs) = sa at *
  generalize bs (Pl.dgs B.natAbs) = sb at *
  generalize A.natAbs = U at *
  generalize B.natAbs = V at *
  obtain ⟨qf, qs, hqv⟩ : ∃ f s, lof (A.tdiv B) = .agg #[.bool f, .string s] := ⟨_, _, rfl⟩
  obtain ⟨rf, rs, hrv⟩ : ∃ f s, lof (A.tmod B) = .agg #[.bool f, .string s] := ⟨_, _, rfl⟩
  rw [hqv] at HLQ ⊢
  rw [hrv] at HLR ⊢
  clear ha hb hna hnb hA hB hqv hrv hd hql hrl hne h0
  obtain ⟨W3, hW3⟩ : ∃ W3, (((w.alloc (.cells #[.bool na, .string sa] 43)).alloc (.cells #[.bool nb, .string sb] 43)).alloc (.cells #[.bool false, .string ⟨#[]⟩] 43)).alloc (.cells #[.bool false, .string ⟨#[]⟩] 43) = W3 := ⟨_, rfl⟩
  have P0 : Hid (P2 W3 w.heap.size 43 (.bool na) (.string sa)) := Lib.hid (by rw [← hW3]; exact (((P2.new _ _ _ _).alloc _).alloc _).alloc _)
  have P1 : Hid (P2 W3 (w.heap.size + 1) 43 (.bool nb) (.string sb)) := Lib.hid (by
    rw [← hW3]
    have := ((P2.new (w.alloc (.cells #[.bool na, .string sa] 43)) 43 (.bool nb) (.string sb)).alloc (.cells #[.bool false, .string ⟨#[]⟩] 43)).alloc (.cells #[.bool false, .string ⟨#[]⟩] 43)
    simpa using this)
  have R0 : Hid (P2 W3 (w.heap.size + 2) 43 (.bool false) (.string ⟨#[]⟩)) := Lib.hid (by
    rw [← hW3]
    have := (P2.new ((w.alloc (.cells #[.bool na, .string sa] 43)).alloc (.cells #[.bool nb, .string sb] 43)) 43 (.bool false) (.string ⟨#[]⟩)).alloc (.cells #[.bool false, .string ⟨#[]⟩] 43)
    simpa using this)
  have R1 : Hid (P2 W3 (w.heap.size + 3) 43 (.bool false) (.string ⟨#[]⟩)) := Lib.hid (by
    rw [← hW3]
    have := P2.new (((w.alloc (.cells #[.bool na, .string sa] 43)).alloc (.cells #[.bool nb, .string sb] 43)).alloc (.cells #[.bool false, .string ⟨#[]⟩] 43)) 43 (.bool false) (.string ⟨#[]⟩)
    simpa using this)
  have HB3 : Hid (Below w.heap.size w W3) := Lib.hid (by rw [← hW3]; exact ((((Below.refl _ _).alloc (Nat.le_refl _) _).alloc (by simp) _).alloc (by simp; omega) _).alloc (by simp; omega) _)
  have hs3 : w.heap.size + 4 ≤ W3.heap.size := by rw [← hW3]; simp
  obtain ⟨p0, p1, _, _⟩ := P0.out.cells
  obtain ⟨q0, q1, _, _⟩ := P1.out.cells
  go_enter Tryz.func34, Tryz.ntmps34
  go_wp2_with fail
  refine (HTW.out _).mono ?_
  rintro e w4 ⟨va, vb, rfl, hra, hrb, hb4⟩
  obtain ⟨aa, ac, rfl⟩ := hra.form
  obtain ⟨ba, bc, rfl⟩ := hrb.form
  generalize (Pl.wd U).length = lu at *
  generalize (Pl.wd V).length = lv' at *
  have hl0 : ((lv' : Int) == 0) = false := by rw [beq_eq_false_iff_ne]; omega
  obtain ⟨W5, hW5⟩ : ∃ W5, (w4.alloc (.cells #[.slice aa lu ac, .bool na] 92)).alloc (.cells #[.slice ba lv' bc, .bool nb] 92) = W5 := ⟨_, rfl⟩
  have hb5 : Below w4.heap.size w4 W5 := by rw [← hW5]; exact ((Below.refl _ _).alloc (Nat.le_refl _) _).alloc (by simp) _
  have hs4 : w.heap.size + 4 ≤ w4.heap.size := Nat.le_trans hs3 hb4.size
  have HB5 := Lib.hid (chain (chain HB3.out hb4 (by omega)) hb5 (by omega))
  have R05 := Lib.hid ((R0.out.below hb4).below hb5)
  have R15 := Lib.hid ((R1.out.below hb4).below hb5)
  have RA := Lib.hid (hra.below hb5)
  have RB := Lib.hid (hrb.below hb5)
  have PA : Hid (P2 W5 w4.heap.size 92 (.slice aa lu ac) (.bool na)) := Lib.hid (by rw [← hW5]; exact (P2.new _ _ _ _).alloc _)
  have PB : Hid (P2 W5 (w4.heap.size + 1) 92 (.slice ba lv' bc) (.bool nb)) := Lib.hid (P2.at1 hW5)
  have hs5 : w.heap.size + 4 ≤ W5.heap.size := Nat.le_trans hs4 hb5.size
  clear p0 p1 q0 q1 P0 P1 R0 R1 HB3 hs3 hb4 hra hrb hW3 hb5
  obtain ⟨p0, p1, _, _⟩ := PA.out.cells
  obtain ⟨q0, q1, _, _⟩ := PB.out.cells
  go_wp2_with fail
  refine (HD.out _ _ _ (by exact RA.out) (by exact RB.out)).mono ?_
  rintro e w6 ⟨vq, vr, rfl, hq6, hr6, hb6⟩
  obtain ⟨qa, qc, rfl⟩ := hq6.form
  obtain ⟨ra, rc, rfl⟩ := hr6.form
  generalize (Pl.wd (U / V)).length = lq at *
  generalize (Pl.wd (U % V)).length = lr at *
  have PA6 := Lib.hid (PA.out.below hb6)
  have PB6 := Lib.hid (PB.out.below hb6)
  have R06 := Lib.hid (R05.out.below hb6)
  have R16 := Lib.hid (R15.out.below hb6)
  have HB6 := Lib.hid (chain HB5.out hb6 (by omega))
  have HQ6 := Lib.hid hq6
  have HR6 := Lib.hid hr6
  have hs6 : w.heap.size + 4 ≤ w6.heap.size := Nat.le_trans hs5 hb6.size
  clear p0 p1 q0 q1 hW5 hb6 hq6 hr6 PA PB R05 R15 HB5
  obtain ⟨_, p1, _, _⟩ := PA6.out.cells
  obtain ⟨_, q1, _, _⟩ := PB6.out.cells
  have BD := Lib.hid (show Below w6.heap.size w6 w6.drew from (Below.refl _ w6).drew)
  have HS : Hid (∀ W, Below w6.heap.size w6 W → W.cell? ⟨w4.heap.size, 1, none⟩ = some (.bool na) ∧ W.cell? ⟨w4.heap.size + 1, 1, none⟩ = some (.bool nb)) := Lib.hid (fun W hb => ⟨(PA6.out.below hb).cells.2.1, (PB6.out.below hb).cells.2.1⟩)
  have HS2 : Hid (∀ W, Below w6.heap.size w6 W → ∀ k, k ≠ w4.heap.size → k ≠ w4.heap.size + 1 → ∀ x y, ((W.setCell ⟨k, 0, none⟩ x).setCell ⟨k, 1, none⟩ y).cell? ⟨w4.heap.size, 1, none⟩ = some (.bool na) ∧ ((W.setCell ⟨k, 0, none⟩ x).setCell ⟨k, 1, none⟩ y).cell? ⟨w4.heap.size + 1, 1, none⟩ = some (.bool nb)) := Lib.hid (fun W hb k h1 h2 x y => ⟨((PA6.out.below hb).both h1).cells.2.1, ((PB6.out.below hb).both h2).cells.2.1⟩)
  have HS3 : Hid (∀ W, Below w6.heap.size w6 W → ∀ k, k ≠ w4.heap.size → k ≠ w4.heap.size + 1 → ∀ x y, ∀ j, j ≠ w4.heap.size → j ≠ w4.heap.size + 1 → ∀ x' y', ((((W.setCell ⟨k, 0, none⟩ x).setCell ⟨k, 1, none⟩ y).setCell ⟨j, 0, none⟩ x').setCell ⟨j, 1, none⟩ y').cell? ⟨w4.heap.size, 1, none⟩ = some (.bool na) ∧ ((((W.setCell ⟨k, 0, none⟩ x).setCell ⟨k, 1, none⟩ y).setCell ⟨j, 0, none⟩ x').setCell ⟨j, 1, none⟩ y').cell? ⟨w4.heap.size + 1, 1, none⟩ = some (.bool nb)) := Lib.hid (fun W hb k h1 h2 x y j h3 h4 x' y' => ⟨(((PA6.out.below hb).both h1).both h3).cells.2.1, (((PB6.out.below hb).both h2).both h4).cells.2.1⟩)
  go_wp2_with fail
  go_region_held3 (fun W => W.cell? ⟨w4.heap.size, 1, none⟩ = some (.bool na) ∧ W.cell? ⟨w4.heap.size + 1, 1, none⟩ = some (.bool nb)) (first | with_reducible exact ⟨p1, q1⟩ | with_reducible exact HS.out _ BD.out | with_reducible exact HS.out _ hKA | with_reducible exact HS.out _ hKB | (with_reducible refine HS2.out _ ?_ _ ?_ ?_ _ _; (first | exact hKA | exact hKB); omega; omega) | (with_reducible refine HS3.out _ ?_ _ ?_ ?_ _ _ _ ?_ ?_ _ _; (first | exact hKA | exact hKB); omega; omega; omega; omega)) (first
    | (go_at_call 71; (with_reducible refine (HLQ.out _ (.slice qa lq qc) ?_).mono ?_); (first | exact HQ6.out.below BD.out | exact HQ6.out.below hKB); rintro e wA ⟨rfl, hba⟩; (first | (have hKA : Below w6.heap.size w6 wA := hKB.trans (hba.mono hKB.size); have hZ := Lib.hid hKA; obtain ⟨r0, r1, f0, f1⟩ := (R06.out.below hKA).cells; obtain ⟨t0, t1, g0, g1⟩ := (R16.out.below hKA).cells) | (have hKA : Below w6.heap.size w6 wA := (Below.refl _ w6).drew.trans hba)))
    | (go_at_call 71; (with_reducible refine (HLR.out _ (.slice ra lr rc) ?_).mono ?_); (first | exact HR6.out.below BD.out | exact HR6.out.below hKA); rintro e wB ⟨rfl, hbb⟩; (first | (have hKB : Below w6.heap.size w6 wB := hKA.trans (hbb.mono hKA.size); have hZ := Lib.hid hKB; obtain ⟨r0, r1, f0, f1⟩ := (R06.out.below hKB).cells; obtain ⟨t0, t1, g0, g1⟩ := (R16.out.below hKB).cells) | (have hKB : Below w6.heap.size w6 wB := (Below.refl _ w6).drew.trans hbb))))
  all_goals
    have Q0 := R06.out.below hZ.out
    have Q1 := R16.out.below hZ.out
    have F0 := Lib.hid ((Q0.set (.bool qf) (.string qs)).both (k := w.heap.size + 2) (j := w.heap.size + 3) (x := .bool rf) (y := .string rs) (by omega))
    have F1 := Lib.hid ((Q1.both (k := w.heap.size + 3) (j := w.heap.size + 2) (x := .bool qf) (y := .string qs) (by omega)).set (.bool rf) (.string rs))
    have ZB := Lib.hid (below_set2 (below_set2 (HB6.out.trans (hZ.out.mono (by omega))) (show w.heap.size ≤ w.heap.size + 2 by omega) (.bool qf) (.string qs)) (show w.heap.size ≤ w.heap.size + 3 by omega) (.bool rf) (.string rs))
    obtain ⟨k0, k1, _, _⟩ := F0.out.cells
    obtain ⟨l0, l1, _, _⟩ := F1.out.cells
    clear Q0 Q1
    go_wp2_with fail
    refine bodyPost_ret (v := .tuple #[.agg #[.bool qf, .string qs], .agg #[.bool rf, .string rs], .int .i64 0]) (by simp [results, Tryz.results34, go_sem, k0, k1, l0, l1]) rfl ⟨rfl, ZB.out⟩
end Go.Proofs.YtlodbibagmblkaaGreatDoor
namespace Go.Proofs.YtlodbibagmblkaaGreatDoor
open Go.RowKit Go.Lib
set_option maxRecDepth 4000 in
set_option maxHeartbeats 4000000 in
theorem ldiv_same (ag bg qg rg : Bool) (as_ bs_ qs rs : ByteArray) (w : World) (hq : ∀ W, Calls Tryz.prog 34 #[.agg #[.bool ag, .string as_], .agg #[.bool bg, .string bs_]] W fun e w' => e = .returned (.tuple #[.agg #[.bool qg, .string qs], .agg #[.bool rg, .string rs], .int .i64 0]) ∧ Below W.heap.size W w')
    (hr : rs.toList.isEmpty = true ∨ rg = bg) :
    Calls Tryz.prog 30 #[.agg #[.bool ag, .string as_], .agg #[.bool bg, .string bs_]] w fun e w' => e = .returned (.tuple #[.agg #[.bool qg, .string qs], .agg #[.bool rg, .string rs], .int .i64 0]) ∧ Below w.heap.size w w' := by
  have HQ := Lib.hid hq
  clear hq
  obtain ⟨W3, hW3⟩ : ∃ W3, (((w.alloc (.cells #[.bool ag, .string as_] 43)).alloc (.cells #[.bool bg, .string bs_] 43)).alloc (.cells #[.bool false, .string ⟨#[]⟩] 43)).alloc (.cells #[.bool false, .string ⟨#[]⟩] 43) = W3 := ⟨_, rfl⟩
  have P0 : Hid (P2 W3 w.heap.size 43 (.bool ag) (.string as_)) := Lib.hid (by rw [← hW3]; exact (((P2.new _ _ _ _).alloc _).alloc _).alloc _)
  have P1 : Hid (P2 W3 (w.heap.size + 1) 43 (.bool bg) (.string bs_)) := Lib.hid (by
    rw [← hW3]
    have := ((P2.new (w.alloc (.cells #[.bool ag, .string as_] 43)) 43 (.bool bg) (.string bs_)).alloc (.cells #[.bool false, .string ⟨#[]⟩] 43)).alloc (.cells #[.bool false, .string ⟨#[]⟩] 43)
    simpa using this)
  have R0 : Hid (P2 W3 (w.heap.size + 2) 43 (.bool false) (.string ⟨#[]⟩)) := Lib.hid (by
    rw [← hW3]
    have := (P2.new ((w.alloc (.cells #[.bool ag, .string as_] 43)).alloc (.cells #[.bool bg, .string bs_] 43)) 43 (.bool false) (.string ⟨#[]⟩)).alloc (.cells #[.bool false, .string ⟨#[]⟩] 43)
    simpa using this)
  have R1 : Hid (P2 W3 (w.heap.size + 3) 43 (.bool false) (.string ⟨#[]⟩)) := Lib.hid (by
    rw [← hW3]
    have := P2.new (((w.alloc (.cells #[.bool ag, .string as_] 43)).alloc (.cells #[.bool bg, .string bs_] 43)).alloc (.cells #[.bool false, .string ⟨#[]⟩] 43)) 43 (.bool false) (.string ⟨#[]⟩)
    simpa using this)
  have HB3 : Hid (Below w.heap.size w W3) := Lib.hid (by rw [← hW3]; exact ((((Below.refl _ _).alloc (Nat.le_refl _) _).alloc (by simp) _).alloc (by simp; omega) _).alloc (by simp; omega) _)
  have hs3 : w.heap.size + 4 ≤ W3.heap.size := by rw [← hW3]; simp
  obtain ⟨p0, p1, _, _⟩ := P0.out.cells
  obtain ⟨q0, q1, _, _⟩ := P1.out.cells
  go_enter Tryz.func30, Tryz.ntmps30
  go_wp2_with fail
  refine (HQ.out _).mono ?_
  rintro e w4 ⟨rfl, hb4⟩
  have hs4 : w.heap.size + 4 ≤ w4.heap.size := Nat.le_trans hs3 hb4.size
  obtain ⟨W5, hW5⟩ : ∃ W5, (w4.alloc (.cells #[.bool qg, .string qs] 43)).alloc (.cells #[.bool rg, .string rs] 43) = W5 := ⟨_, rfl⟩
  have hb5 : Below w4.heap.size w4 W5 := by rw [← hW5]; exact ((Below.refl _ _).alloc (Nat.le_refl _) _).alloc (by simp) _
  have HB5 := Lib.hid (chain (chain HB3.out hb4 (by omega)) hb5 (by omega))
  have P15 := Lib.hid ((P1.out.below hb4).below hb5)
  have R05 := Lib.hid ((R0.out.below hb4).below hb5)
  have R15 := Lib.hid ((R1.out.below hb4).below hb5)
  have PQ : Hid (P2 W5 w4.heap.size 43 (.bool qg) (.string qs)) := Lib.hid (by rw [← hW5]; exact (P2.new _ _ _ _).alloc _)
  have PR : Hid (P2 W5 (w4.heap.size + 1) 43 (.bool rg) (.string rs)) := Lib.hid (P2.at1 hW5)
  clear p0 p1 q0 q1 P0 P1 R0 R1 HB3 hs3 hW3 hb4 hb5
  obtain ⟨q0, q1, _, _⟩ := P15.out.cells
  obtain ⟨a0, a1, _, _⟩ := PQ.out.cells
  obtain ⟨b0, b1, _, _⟩ := PR.out.cells
  obtain ⟨r0, r1, f0, f1⟩ := R05.out.cells
  obtain ⟨t0, t1, g0, g1⟩ := R15.out.cells
  have F0 := Lib.hid ((R05.out.set (.bool qg) (.string qs)).both (k := w.heap.size + 2) (j := w.heap.size + 3) (x := .bool rg) (y := .string rs) (by omega))
  have F1 := Lib.hid ((R15.out.both (k := w.heap.size + 3) (j := w.heap.size + 2) (x := .bool qg) (y := .string qs) (by omega)).set (.bool rg) (.string rs))
  have ZB := Lib.hid (below_set2 (below_set2 HB5.out (show w.heap.size ≤ w.heap.size + 2 by omega) (.bool qg) (.string qs)) (show w.heap.size ≤ w.heap.size + 3 by omega) (.bool rg) (.string rs))
  have hd : rs.toList.isEmpty = true ∨ (rs.toList.isEmpty = false ∧ rg = bg) := by
    cases h : rs.toList.isEmpty
    · rcases hr with hr | hr
      · rw [h] at hr; cases hr
      · exact .inr ⟨rfl, hr⟩
    · exact .inl rfl
  clear hr
  rcases hd with d1 | ⟨d1, rfl⟩
  all_goals
    go_wp2_with fail
    go_region
    go_wp2_with fail
    obtain ⟨k0, k1, _, _⟩ := F0.out.drew.cells
    obtain ⟨l0, l1, _, _⟩ := F1.out.drew.cells
    refine bodyPost_ret (v := .tuple #[.agg #[.bool qg, .string qs], .agg #[.bool rg, .string rs], .int .i64 0]) (by simp [results, Tryz.results30, go_sem, k0, k1, l0, l1]) rfl ⟨rfl, ZB.out.drew⟩
set_option maxRecDepth 4000 in
set_option maxHeartbeats 4000000 in
theorem whole_only (ag bg qg rg : Bool) (as_ bs_ qs rs : ByteArray) (w : World) (hq : ∀ W, Calls Tryz.prog 30 #[.agg #[.bool ag, .string as_], .agg #[.bool bg, .string bs_]] W fun e w' => e = .returned (.tuple #[.agg #[.bool qg, .string qs], .agg #[.bool rg, .string rs], .int .i64 0]) ∧ Below W.heap.size W w')
    (hr : rs.toList.isEmpty = false) :
    Calls Tryz.prog 29 #[.agg #[.bool ag, .string as_], .agg #[.bool bg, .string bs_]] w fun e w' => e = .returned (.tuple #[.agg #[.bool qg, .string qs], .int .i64 1]) ∧ Below w.heap.size w w' := by
  have HQ := Lib.hid hq
  clear hq
  obtain ⟨W3, hW3⟩ : ∃ W3, ((w.alloc (.cells #[.bool ag, .string as_] 43)).alloc (.cells #[.bool bg, .string bs_] 43)).alloc (.cells #[.bool false, .string ⟨#[]⟩] 43) = W3 := ⟨_, rfl⟩
  have P0 : Hid (P2 W3 w.heap.size 43 (.bool ag) (.string as_)) := Lib.hid (by rw [← hW3]; exact ((P2.new _ _ _ _).alloc _).alloc _)
  have P1 : Hid (P2 W3 (w.heap.size + 1) 43 (.bool bg) (.string bs_)) := Lib.hid (by
    rw [← hW3]
    have := (P2.new (w.alloc (.cells #[.bool ag, .string as_] 43)) 43 (.bool bg) (.string bs_)).alloc (.cells #[.bool false, .string ⟨#[]⟩] 43)
    simpa using this)
  have R0 : Hid (P2 W3 (w.heap.size + 2) 43 (.bool false) (.string ⟨#[]⟩)) := Lib.hid (by
    rw [← hW3]
    have := P2.new ((w.alloc (.cells #[.bool ag, .string as_] 43)).alloc (.cells #[.bool bg, .string bs_] 43)) 43 (.bool false) (.string ⟨#[]⟩)
    simpa using this)
  have HB3 : Hid (Below w.heap.size w W3) := Lib.hid (by rw [← hW3]; exact (((Below.refl _ _).alloc (Nat.le_refl _) _).alloc (by simp) _).alloc (by simp; omega) _)
  have hs3 : w.heap.size + 3 ≤ W3.heap.size := by rw [← hW3]; simp
  obtain ⟨p0, p1, _, _⟩ := P0.out.cells
  obtain ⟨q0, q1, _, _⟩ := P1.out.cells
  go_enter Tryz.func29, Tryz.ntmps29
  go_wp2_with fail
  refine (HQ.out _).mono ?_
  rintro e w4 ⟨rfl, hb4⟩
  have hs4 : w.heap.size + 3 ≤ w4.heap.size := Nat.le_trans hs3 hb4.size
  obtain ⟨W5, hW5⟩ : ∃ W5, (w4.alloc (.cells #[.bool qg, .string qs] 43)).alloc (.cells #[.bool rg, .string rs] 43) = W5 := ⟨_, rfl⟩
  have hb5 : Below w4.heap.size w4 W5 := by rw [← hW5]; exact ((Below.refl _ _).alloc (Nat.le_refl _) _).alloc (by simp) _
  have HB5 := Lib.hid (chain (chain HB3.out hb4 (by omega)) hb5 (by omega))
  have R05 := Lib.hid ((R0.out.below hb4).below hb5)
  have PQ : Hid (P2 W5 w4.heap.size 43 (.bool qg) (.string qs)) := Lib.hid (by rw [← hW5]; exact (P2.new _ _ _ _).alloc _)
  have PR : Hid (P2 W5 (w4.heap.size + 1) 43 (.bool rg) (.string rs)) := Lib.hid (P2.at1 hW5)
  clear p0 p1 q0 q1 P0 P1 R0 HB3 hs3 hW3 hb4 hb5
  obtain ⟨a0, a1, _, _⟩ := PQ.out.cells
  obtain ⟨b0, b1, _, _⟩ := PR.out.cells
  obtain ⟨r0, r1, f0, f1⟩ := R05.out.cells
  have F0 := Lib.hid (R05.out.set (.bool qg) (.string qs))
  have ZB := Lib.hid (below_set2 HB5.out (show w.heap.size ≤ w.heap.size + 2 by omega) (.bool qg) (.string qs))
  go_wp2_with fail
  obtain ⟨k0, k1, _, _⟩ := F0.out.cells
  refine bodyPost_ret (v := .tuple #[.agg #[.bool qg, .string qs], .int .i64 1]) (by simp [results, Tryz.results29, go_sem, k0, k1]) rfl ⟨rfl, ZB.out⟩
end Go.Proofs.YtlodbibagmblkaaGreatDoor
