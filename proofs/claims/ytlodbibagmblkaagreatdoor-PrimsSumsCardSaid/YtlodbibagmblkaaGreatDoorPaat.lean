/- The primitives 11 to 14: quotients of whole numbers and what they leave (printed by gen_cdv.py). -/
import Derived.Test.YtlodbibagmblkaaGreatDoorPaal
import Derived.Test.YtlodbibagmblkaaGreatDoorPaap
import Derived.Test.YtlodbibagmblkaaGreatDoorPaas
namespace Go.Proofs.YtlodbibagmblkaaGreatDoor
open Go Go.RowKit Go.Lib
set_option maxRecDepth 4000 in
set_option maxHeartbeats 4000000 in
theorem cl_11 (p : Nat) (R : Int) (x y : PV) (v : Value) (w : World) (h : VRow w v [x, y]) (hp : w.cell? ⟨p, 0, none⟩ = some (.func (.func 31) #[] #[])) (hpl : p < w.heap.size)
    (HF : ∀ W, Calls Tryz.prog 31 #[.agg #[.bool x.g, .string x.s], .agg #[.bool y.g, .string y.s]] W fun e w' => e = .returned (.tuple #[lof R, .int .i64 0]) ∧ Below W.heap.size W w') (hR : Pl.Big R) :
    Calls Tryz.prog 24 #[v, .pointer (some ⟨p, 0, none⟩)] w (WhoOk w R) := by
  have HWH := Lib.hid (fun W => whole_any R W hR)
  obtain ⟨rg, rs, hr⟩ : ∃ g S, lof R = .agg #[.bool g, .string S] := ⟨_, _, rfl⟩
  rw [hr] at HWH
  have HFF := Lib.hid HF
  simp only [hr] at HFF
  clear HF hR hr
  unfold WhoOk LitOk litv at *
  obtain ⟨W1, hW1⟩ : ∃ W1, w.alloc (.cells #[.int .u8 0, .int .i64 0, .int .u64 0, .string ⟨#[]⟩, .slice none 0 0] 26) = W1 := ⟨_, rfl⟩
  have HP : Hid (P5 W1 w.heap.size (.int .u8 0) (.int .i64 0) (.int .u64 0) (.string ⟨#[]⟩) (.slice none 0 0)) := Lib.hid (by rw [← hW1]; exact P5.new _ _ _ _ _ _)
  have HB : Hid (Below w.heap.size w W1) := Lib.hid (by rw [← hW1]; exact (Below.refl _ _).alloc (Nat.le_refl _) _)
  have hs1 : w.heap.size + 1 ≤ W1.heap.size := by rw [← hW1]; simp
  obtain ⟨gv, cv, rfl, hg0, hc0⟩ := h
  have hx5 : W1.cell? ⟨gv, 5, none⟩ = some (.bool x.g) := by rw [HB.out.cell (p := ⟨gv, 5, none⟩) hg0]; exact hc0 0 x rfl 5 _ rfl
  have hx6 : W1.cell? ⟨gv, 6, none⟩ = some (.string x.s) := by rw [HB.out.cell (p := ⟨gv, 6, none⟩) hg0]; exact hc0 0 x rfl 6 _ rfl
  have hy5 : W1.cell? ⟨gv, 12, none⟩ = some (.bool y.g) := by rw [HB.out.cell (p := ⟨gv, 12, none⟩) hg0]; exact hc0 1 y rfl 5 _ rfl
  have hy6 : W1.cell? ⟨gv, 13, none⟩ = some (.string y.s) := by rw [HB.out.cell (p := ⟨gv, 13, none⟩) hg0]; exact hc0 1 y rfl 6 _ rfl
  have hp1 : W1.cell? ⟨p, 0, none⟩ = some (.func (.func 31) #[] #[]) := by rw [HB.out.cell (p := ⟨p, 0, none⟩) hpl]; exact hp
  simp only [List.length_cons, List.length_nil] at *
  clear hc0 hp
  have HS : Hid (∀ W, Below W1.heap.size W1 W → W.cell? ⟨p, 0, none⟩ = some (.func (.func 31) #[] #[]) ∧ W.cell? ⟨gv, 5, none⟩ = some (.bool x.g) ∧ W.cell? ⟨gv, 6, none⟩ = some (.string x.s) ∧ W.cell? ⟨gv, 12, none⟩ = some (.bool y.g) ∧ W.cell? ⟨gv, 13, none⟩ = some (.string y.s)) := Lib.hid (fun W hb => ⟨by rw [hb.cell (p := ⟨p, 0, none⟩) (by show p < _; omega)]; exact hp1, by rw [hb.cell (p := ⟨gv, 5, none⟩) (by show gv < _; omega)]; exact hx5, by rw [hb.cell (p := ⟨gv, 6, none⟩) (by show gv < _; omega)]; exact hx6, by rw [hb.cell (p := ⟨gv, 12, none⟩) (by show gv < _; omega)]; exact hy5, by rw [hb.cell (p := ⟨gv, 13, none⟩) (by show gv < _; omega)]; exact hy6⟩)
  have cellset : ∀ (W : World) (q i : Nat) (u a b c d e : Value), q < w.heap.size → W.cell? ⟨q, i, none⟩ = some u → (set5 W w.heap.size a b c d e).cell? ⟨q, i, none⟩ = some u := fun W q i u a b c d e hq hu => by
    unfold set5
    rw [World.cell?_setCell_other _ _ _ _ (by intro z; injection z with z; omega), World.cell?_setCell_other _ _ _ _ (by intro z; injection z with z; omega), World.cell?_setCell_other _ _ _ _ (by intro z; injection z with z; omega), World.cell?_setCell_other _ _ _ _ (by intro z; injection z with z; omega), World.cell?_setCell_other _ _ _ _ (by intro z; injection z with z; omega)]
    exact hu
  have HS5 : Hid (∀ W, Below W1.heap.size W1 W → ∀ a b c d e, (set5 W w.heap.size a b c d e).cell? ⟨p, 0, none⟩ = some (.func (.func 31) #[] #[]) ∧ (set5 W w.heap.size a b c d e).cell? ⟨gv, 5, none⟩ = some (.bool x.g) ∧ (set5 W w.heap.size a b c d e).cell? ⟨gv, 6, none⟩ = some (.string x.s) ∧ (set5 W w.heap.size a b c d e).cell? ⟨gv, 12, none⟩ = some (.bool y.g) ∧ (set5 W w.heap.size a b c d e).cell? ⟨gv, 13, none⟩ = some (.string y.s)) := Lib.hid (fun W hb a b c d e => ⟨cellset W p 0 _ a b c d e hpl (HS.out W hb).1, cellset W gv 5 _ a b c d e hg0 (HS.out W hb).2.1, cellset W gv 6 _ a b c d e hg0 (HS.out W hb).2.2.1, cellset W gv 12 _ a b c d e hg0 (HS.out W hb).2.2.2.1, cellset W gv 13 _ a b c d e hg0 (HS.out W hb).2.2.2.2⟩)
  have BD := Lib.hid (show Below W1.heap.size W1 W1.drew from (Below.refl _ W1).drew)
  clear cellset
  unfold set5 at HS5
  obtain ⟨c0, c1, c2, c3, c4, f0, f1, f2, f3, f4⟩ := HP.out.cells
  go_enter Tryz.func24, Tryz.ntmps24
  go_wp2_with fail
  go_region_held3 (fun W => W.cell? ⟨p, 0, none⟩ = some (.func (.func 31) #[] #[]) ∧ W.cell? ⟨gv, 5, none⟩ = some (.bool x.g) ∧ W.cell? ⟨gv, 6, none⟩ = some (.string x.s) ∧ W.cell? ⟨gv, 12, none⟩ = some (.bool y.g) ∧ W.cell? ⟨gv, 13, none⟩ = some (.string y.s)) (first | with_reducible exact ⟨hp1, hx5, hx6, hy5, hy6⟩ | with_reducible exact HS.out _ BD.out | with_reducible exact HS.out _ hb4 | with_reducible exact HS.out _ hb54 | with_reducible exact HS5.out _ hb54 _ _ _ _ _) (first
    | (go_at_call 25; (with_reducible refine (HWH.out _).mono ?_); rintro e w5 ⟨rk, rn, rt, hil, rfl, hb5⟩; have HIL := Lib.hid hil; obtain ⟨rT, hrT⟩ : ∃ rT, bs rt = rT := ⟨_, rfl⟩; have HRT := Lib.hid hrT; rw [hrT]; clear hil hrT; have hb54 : Below W1.heap.size W1 w5 := hb4.trans (hb5.mono hb4.size); have HP5 := Lib.hid (HP.out.below hb54); obtain ⟨d0, d1, d2, d3, d4, e0, e1, e2, e3, e4⟩ := HP5.out.cells)
    | (go_at_call 31; (with_reducible refine (HFF.out _).mono ?_); rintro e w4 ⟨rfl, hb4d⟩; have hb4 : Below W1.heap.size W1 w4 := BD.out.trans hb4d; clear hb4d))
  all_goals
    have HB5 := Lib.hid (HB.out.trans (hb54.mono (by omega)))
    obtain ⟨k0, k1, k2, k3, k4, _, _, _, _, _⟩ := (HP5.out.set (.int .u8 rk) (.int .i64 rn) (.int .u64 0) (.string rT) (.slice none 0 0)).cells
    go_wp2_with fail
    exact bodyPost_ret (v := .tuple #[.agg #[.int .u8 rk, .int .i64 rn, .int .u64 0, .string rT, .slice none 0 0], .bool true]) (by simp [results, Tryz.results24, go_sem, k0, k1, k2, k3, k4]) rfl ⟨rk, rn, rt, HIL.out, by rw [HRT.out]; exact ⟨rfl, below_set5 HB5.out (Nat.le_refl _) _ _ _ _ _⟩⟩
set_option maxRecDepth 4000 in
set_option maxHeartbeats 4000000 in
theorem cl_11_err (p : Nat) (rg : Bool) (rs : ByteArray) (en : Int) (x y : PV) (v : Value) (w : World) (h : VRow w v [x, y]) (hp : w.cell? ⟨p, 0, none⟩ = some (.func (.func 31) #[] #[])) (hpl : p < w.heap.size)
    (HF : ∀ W, Calls Tryz.prog 31 #[.agg #[.bool x.g, .string x.s], .agg #[.bool y.g, .string y.s]] W fun e w' => e = .returned (.tuple #[.agg #[.bool rg, .string rs], .int .i64 en]) ∧ Below W.heap.size W w') (he : en ≠ 0) :
    Calls Tryz.prog 24 #[v, .pointer (some ⟨p, 0, none⟩)] w (LitOk w nolit false) := by
  have HWH := Lib.hid (fun W => whole_err rg rs en W he)
  have HFF := Lib.hid HF
  clear HF he
  unfold LitOk nolit litv at *
  obtain ⟨W1, hW1⟩ : ∃ W1, w.alloc (.cells #[.int .u8 0, .int .i64 0, .int .u64 0, .string ⟨#[]⟩, .slice none 0 0] 26) = W1 := ⟨_, rfl⟩
  have HP : Hid (P5 W1 w.heap.size (.int .u8 0) (.int .i64 0) (.int .u64 0) (.string ⟨#[]⟩) (.slice none 0 0)) := Lib.hid (by rw [← hW1]; exact P5.new _ _ _ _ _ _)
  have HB : Hid (Below w.heap.size w W1) := Lib.hid (by rw [← hW1]; exact (Below.refl _ _).alloc (Nat.le_refl _) _)
  have hs1 : w.heap.size + 1 ≤ W1.heap.size := by rw [← hW1]; simp
  obtain ⟨gv, cv, rfl, hg0, hc0⟩ := h
  have hx5 : W1.cell? ⟨gv, 5, none⟩ = some (.bool x.g) := by rw [HB.out.cell (p := ⟨gv, 5, none⟩) hg0]; exact hc0 0 x rfl 5 _ rfl
  have hx6 : W1.cell? ⟨gv, 6, none⟩ = some (.string x.s) := by rw [HB.out.cell (p := ⟨gv, 6, none⟩) hg0]; exact hc0 0 x rfl 6 _ rfl
  have hy5 : W1.cell? ⟨gv, 12, none⟩ = some (.bool y.g) := by rw [HB.out.cell (p := ⟨gv, 12, none⟩) hg0]; exact hc0 1 y rfl 5 _ rfl
  have hy6 : W1.cell? ⟨gv, 13, none⟩ = some (.string y.s) := by rw [HB.out.cell (p := ⟨gv, 13, none⟩) hg0]; exact hc0 1 y rfl 6 _ rfl
  have hp1 : W1.cell? ⟨p, 0, none⟩ = some (.func (.func 31) #[] #[]) := by rw [HB.out.cell (p := ⟨p, 0, none⟩) hpl]; exact hp
  simp only [List.length_cons, List.length_nil] at *
  clear hc0 hp
  have HS : Hid (∀ W, Below W1.heap.size W1 W → W.cell? ⟨p, 0, none⟩ = some (.func (.func 31) #[] #[]) ∧ W.cell? ⟨gv, 5, none⟩ = some (.bool x.g) ∧ W.cell? ⟨gv, 6, none⟩ = some (.string x.s) ∧ W.cell? ⟨gv, 12, none⟩ = some (.bool y.g) ∧ W.cell? ⟨gv, 13, none⟩ = some (.string y.s)) := Lib.hid (fun W hb => ⟨by rw [hb.cell (p := ⟨p, 0, none⟩) (by show p < _; omega)]; exact hp1, by rw [hb.cell (p := ⟨gv, 5, none⟩) (by show gv < _; omega)]; exact hx5, by rw [hb.cell (p := ⟨gv, 6, none⟩) (by show gv < _; omega)]; exact hx6, by rw [hb.cell (p := ⟨gv, 12, none⟩) (by show gv < _; omega)]; exact hy5, by rw [hb.cell (p := ⟨gv, 13, none⟩) (by show gv < _; omega)]; exact hy6⟩)
  have cellset : ∀ (W : World) (q i : Nat) (u a b c d e : Value), q < w.heap.size → W.cell? ⟨q, i, none⟩ = some u → (set5 W w.heap.size a b c d e).cell? ⟨q, i, none⟩ = some u := fun W q i u a b c d e hq hu => by
    unfold set5
    rw [World.cell?_setCell_other _ _ _ _ (by intro z; injection z with z; omega), World.cell?_setCell_other _ _ _ _ (by intro z; injection z with z; omega), World.cell?_setCell_other _ _ _ _ (by intro z; injection z with z; omega), World.cell?_setCell_other _ _ _ _ (by intro z; injection z with z; omega), World.cell?_setCell_other _ _ _ _ (by intro z; injection z with z; omega)]
    exact hu
  have HS5 : Hid (∀ W, Below W1.heap.size W1 W → ∀ a b c d e, (set5 W w.heap.size a b c d e).cell? ⟨p, 0, none⟩ = some (.func (.func 31) #[] #[]) ∧ (set5 W w.heap.size a b c d e).cell? ⟨gv, 5, none⟩ = some (.bool x.g) ∧ (set5 W w.heap.size a b c d e).cell? ⟨gv, 6, none⟩ = some (.string x.s) ∧ (set5 W w.heap.size a b c d e).cell? ⟨gv, 12, none⟩ = some (.bool y.g) ∧ (set5 W w.heap.size a b c d e).cell? ⟨gv, 13, none⟩ = some (.string y.s)) := Lib.hid (fun W hb a b c d e => ⟨cellset W p 0 _ a b c d e hpl (HS.out W hb).1, cellset W gv 5 _ a b c d e hg0 (HS.out W hb).2.1, cellset W gv 6 _ a b c d e hg0 (HS.out W hb).2.2.1, cellset W gv 12 _ a b c d e hg0 (HS.out W hb).2.2.2.1, cellset W gv 13 _ a b c d e hg0 (HS.out W hb).2.2.2.2⟩)
  have BD := Lib.hid (show Below W1.heap.size W1 W1.drew from (Below.refl _ W1).drew)
  clear cellset
  unfold set5 at HS5
  obtain ⟨c0, c1, c2, c3, c4, f0, f1, f2, f3, f4⟩ := HP.out.cells
  go_enter Tryz.func24, Tryz.ntmps24
  go_wp2_with fail
  go_region_held3 (fun W => W.cell? ⟨p, 0, none⟩ = some (.func (.func 31) #[] #[]) ∧ W.cell? ⟨gv, 5, none⟩ = some (.bool x.g) ∧ W.cell? ⟨gv, 6, none⟩ = some (.string x.s) ∧ W.cell? ⟨gv, 12, none⟩ = some (.bool y.g) ∧ W.cell? ⟨gv, 13, none⟩ = some (.string y.s)) (first | with_reducible exact ⟨hp1, hx5, hx6, hy5, hy6⟩ | with_reducible exact HS.out _ BD.out | with_reducible exact HS.out _ hb4 | with_reducible exact HS.out _ hb54 | with_reducible exact HS5.out _ hb54 _ _ _ _ _) (first
    | (go_at_call 25; (with_reducible refine (HWH.out _).mono ?_); rintro e w5 ⟨rfl, hb5⟩; have hb54 : Below W1.heap.size W1 w5 := hb4.trans (hb5.mono hb4.size); have HP5 := Lib.hid (HP.out.below hb54); obtain ⟨d0, d1, d2, d3, d4, e0, e1, e2, e3, e4⟩ := HP5.out.cells)
    | (go_at_call 31; (with_reducible refine (HFF.out _).mono ?_); rintro e w4 ⟨rfl, hb4d⟩; have hb4 : Below W1.heap.size W1 w4 := BD.out.trans hb4d; clear hb4d))
  all_goals
    have HB5 := Lib.hid (HB.out.trans (hb54.mono (by omega)))
    obtain ⟨k0, k1, k2, k3, k4, _, _, _, _, _⟩ := (HP5.out.set (.int .u8 0) (.int .i64 0) (.int .u64 0) (.string ⟨#[]⟩) (.slice none 0 0)).cells
    go_wp2_with fail
    exact bodyPost_ret (v := .tuple #[.agg #[.int .u8 0, .int .i64 0, .int .u64 0, .string ⟨#[]⟩, .slice none 0 0], .bool false]) (by simp [results, Tryz.results24, go_sem, k0, k1, k2, k3, k4]) rfl ⟨rfl, below_set5 HB5.out (Nat.le_refl _) _ _ _ _ _⟩
theorem do11 (x x2 : PT) (y y2 : PV) (A B : Int) (av : Value) (w : World) (h1 : ArgI x y A) (h2 : ArgI x2 y2 B) (h0 : B ≠ 0) (hR : Pl.Big (Pl.fr A B)) (h : TRow w av [x, x2]) : Calls Tryz.prog 11 #[.int .i64 11, av] w (Came w (IntP (Pl.fr A B))) :=
  (do_two 11 31 (IntP (Pl.fr A B)) x x2 y y2 A B av w (by omega) (fun w L h => h.i11) h1 h2 h (fun W v p hv hp hpl => (cl_11 p (Pl.fr A B) y y2 v W hv hp hpl (fun W => by
    rw [h1.2.1, h2.2.1]
    exact pick11 _ _ _ _ _ _ _ _ 0 W (fun W => ldiv_all A B W h1.2.2.1 h2.2.2.1 h0)) hR).mono fun e w' h => who_came h)).mono fun e w' h => fin_int h
theorem do11_zero (x x2 : PT) (y y2 : PV) (A B : Int) (av : Value) (w : World) (h1 : ArgI x y A) (h2 : ArgI x2 y2 B) (h0 : B = 0) (h : TRow w av [x, x2]) : Calls Tryz.prog 11 #[.int .i64 11, av] w (Came w (Just 0 0 ⟨#[]⟩ false)) :=
  (do_two 11 31 (Just 0 0 ⟨#[]⟩ false) x x2 y y2 A B av w (by omega) (fun w L h => h.i11) h1 h2 h (fun W v p hv hp hpl => (cl_11_err p false ⟨#[]⟩ 90 y y2 v W hv hp hpl (fun W => by
    rw [h1.2.1, h2.2.1]
    exact pick11 _ _ false false _ _ ⟨#[]⟩ ⟨#[]⟩ 90 W (fun W => ldiv_zero A B W h1.2.2.1 h2.2.2.1 h0)) (by omega)).mono fun e w' h => came_just h)).mono fun e w' h => just_no h rfl
set_option maxRecDepth 4000 in
set_option maxHeartbeats 4000000 in
theorem cl_12 (p : Nat) (R : Int) (x y : PV) (v : Value) (w : World) (h : VRow w v [x, y]) (hp : w.cell? ⟨p, 0, none⟩ = some (.func (.func 32) #[] #[])) (hpl : p < w.heap.size)
    (HF : ∀ W, Calls Tryz.prog 32 #[.agg #[.bool x.g, .string x.s], .agg #[.bool y.g, .string y.s]] W fun e w' => e = .returned (.tuple #[lof R, .int .i64 0]) ∧ Below W.heap.size W w') (hR : Pl.Big R) :
    Calls Tryz.prog 24 #[v, .pointer (some ⟨p, 0, none⟩)] w (WhoOk w R) := by
  have HWH := Lib.hid (fun W => whole_any R W hR)
  obtain ⟨rg, rs, hr⟩ : ∃ g S, lof R = .agg #[.bool g, .string S] := ⟨_, _, rfl⟩
  rw [hr] at HWH
  have HFF := Lib.hid HF
  simp only [hr] at HFF
  clear HF hR hr
  unfold WhoOk LitOk litv at *
  obtain ⟨W1, hW1⟩ : ∃ W1, w.alloc (.cells #[.int .u8 0, .int .i64 0, .int .u64 0, .string ⟨#[]⟩, .slice none 0 0] 26) = W1 := ⟨_, rfl⟩
  have HP : Hid (P5 W1 w.heap.size (.int .u8 0) (.int .i64 0) (.int .u64 0) (.string ⟨#[]⟩) (.slice none 0 0)) := Lib.hid (by rw [← hW1]; exact P5.new _ _ _ _ _ _)
  have HB : Hid (Below w.heap.size w W1) := Lib.hid (by rw [← hW1]; exact (Below.refl _ _).alloc (Nat.le_refl _) _)
  have hs1 : w.heap.size + 1 ≤ W1.heap.size := by rw [← hW1]; simp
  obtain ⟨gv, cv, rfl, hg0, hc0⟩ := h
  have hx5 : W1.cell? ⟨gv, 5, none⟩ = some (.bool x.g) := by rw [HB.out.cell (p := ⟨gv, 5, none⟩) hg0]; exact hc0 0 x rfl 5 _ rfl
  have hx6 : W1.cell? ⟨gv, 6, none⟩ = some (.string x.s) := by rw [HB.out.cell (p := ⟨gv, 6, none⟩) hg0]; exact hc0 0 x rfl 6 _ rfl
  have hy5 : W1.cell? ⟨gv, 12, none⟩ = some (.bool y.g) := by rw [HB.out.cell (p := ⟨gv, 12, none⟩) hg0]; exact hc0 1 y rfl 5 _ rfl
  have hy6 : W1.cell? ⟨gv, 13, none⟩ = some (.string y.s) := by rw [HB.out.cell (p := ⟨gv, 13, none⟩) hg0]; exact hc0 1 y rfl 6 _ rfl
  have hp1 : W1.cell? ⟨p, 0, none⟩ = some (.func (.func 32) #[] #[]) := by rw [HB.out.cell (p := ⟨p, 0, none⟩) hpl]; exact hp
  simp only [List.length_cons, List.length_nil] at *
  clear hc0 hp
  have HS : Hid (∀ W, Below W1.heap.size W1 W → W.cell? ⟨p, 0, none⟩ = some (.func (.func 32) #[] #[]) ∧ W.cell? ⟨gv, 5, none⟩ = some (.bool x.g) ∧ W.cell? ⟨gv, 6, none⟩ = some (.string x.s) ∧ W.cell? ⟨gv, 12, none⟩ = some (.bool y.g) ∧ W.cell? ⟨gv, 13, none⟩ = some (.string y.s)) := Lib.hid (fun W hb => ⟨by rw [hb.cell (p := ⟨p, 0, none⟩) (by show p < _; omega)]; exact hp1, by rw [hb.cell (p := ⟨gv, 5, none⟩) (by show gv < _; omega)]; exact hx5, by rw [hb.cell (p := ⟨gv, 6, none⟩) (by show gv < _; omega)]; exact hx6, by rw [hb.cell (p := ⟨gv, 12, none⟩) (by show gv < _; omega)]; exact hy5, by rw [hb.cell (p := ⟨gv, 13, none⟩) (by show gv < _; omega)]; exact hy6⟩)
  have cellset : ∀ (W : World) (q i : Nat) (u a b c d e : Value), q < w.heap.size → W.cell? ⟨q, i, none⟩ = some u → (set5 W w.heap.size a b c d e).cell? ⟨q, i, none⟩ = some u := fun W q i u a b c d e hq hu => by
    unfold set5
    rw [World.cell?_setCell_other _ _ _ _ (by intro z; injection z with z; omega), World.cell?_setCell_other _ _ _ _ (by intro z; injection z with z; omega), World.cell?_setCell_other _ _ _ _ (by intro z; injection z with z; omega), World.cell?_setCell_other _ _ _ _ (by intro z; injection z with z; omega), World.cell?_setCell_other _ _ _ _ (by intro z; injection z with z; omega)]
    exact hu
  have HS5 : Hid (∀ W, Below W1.heap.size W1 W → ∀ a b c d e, (set5 W w.heap.size a b c d e).cell? ⟨p, 0, none⟩ = some (.func (.func 32) #[] #[]) ∧ (set5 W w.heap.size a b c d e).cell? ⟨gv, 5, none⟩ = some (.bool x.g) ∧ (set5 W w.heap.size a b c d e).cell? ⟨gv, 6, none⟩ = some (.string x.s) ∧ (set5 W w.heap.size a b c d e).cell? ⟨gv, 12, none⟩ = some (.bool y.g) ∧ (set5 W w.heap.size a b c d e).cell? ⟨gv, 13, none⟩ = some (.string y.s)) := Lib.hid (fun W hb a b c d e => ⟨cellset W p 0 _ a b c d e hpl (HS.out W hb).1, cellset W gv 5 _ a b c d e hg0 (HS.out W hb).2.1, cellset W gv 6 _ a b c d e hg0 (HS.out W hb).2.2.1, cellset W gv 12 _ a b c d e hg0 (HS.out W hb).2.2.2.1, cellset W gv 13 _ a b c d e hg0 (HS.out W hb).2.2.2.2⟩)
  have BD := Lib.hid (show Below W1.heap.size W1 W1.drew from (Below.refl _ W1).drew)
  clear cellset
  unfold set5 at HS5
  obtain ⟨c0, c1, c2, c3, c4, f0, f1, f2, f3, f4⟩ := HP.out.cells
  go_enter Tryz.func24, Tryz.ntmps24
  go_wp2_with fail
  go_region_held3 (fun W => W.cell? ⟨p, 0, none⟩ = some (.func (.func 32) #[] #[]) ∧ W.cell? ⟨gv, 5, none⟩ = some (.bool x.g) ∧ W.cell? ⟨gv, 6, none⟩ = some (.string x.s) ∧ W.cell? ⟨gv, 12, none⟩ = some (.bool y.g) ∧ W.cell? ⟨gv, 13, none⟩ = some (.string y.s)) (first | with_reducible exact ⟨hp1, hx5, hx6, hy5, hy6⟩ | with_reducible exact HS.out _ BD.out | with_reducible exact HS.out _ hb4 | with_reducible exact HS.out _ hb54 | with_reducible exact HS5.out _ hb54 _ _ _ _ _) (first
    | (go_at_call 25; (with_reducible refine (HWH.out _).mono ?_); rintro e w5 ⟨rk, rn, rt, hil, rfl, hb5⟩; have HIL := Lib.hid hil; obtain ⟨rT, hrT⟩ : ∃ rT, bs rt = rT := ⟨_, rfl⟩; have HRT := Lib.hid hrT; rw [hrT]; clear hil hrT; have hb54 : Below W1.heap.size W1 w5 := hb4.trans (hb5.mono hb4.size); have HP5 := Lib.hid (HP.out.below hb54); obtain ⟨d0, d1, d2, d3, d4, e0, e1, e2, e3, e4⟩ := HP5.out.cells)
    | (go_at_call 32; (with_reducible refine (HFF.out _).mono ?_); rintro e w4 ⟨rfl, hb4d⟩; have hb4 : Below W1.heap.size W1 w4 := BD.out.trans hb4d; clear hb4d))
  all_goals
    have HB5 := Lib.hid (HB.out.trans (hb54.mono (by omega)))
    obtain ⟨k0, k1, k2, k3, k4, _, _, _, _, _⟩ := (HP5.out.set (.int .u8 rk) (.int .i64 rn) (.int .u64 0) (.string rT) (.slice none 0 0)).cells
    go_wp2_with fail
    exact bodyPost_ret (v := .tuple #[.agg #[.int .u8 rk, .int .i64 rn, .int .u64 0, .string rT, .slice none 0 0], .bool true]) (by simp [results, Tryz.results24, go_sem, k0, k1, k2, k3, k4]) rfl ⟨rk, rn, rt, HIL.out, by rw [HRT.out]; exact ⟨rfl, below_set5 HB5.out (Nat.le_refl _) _ _ _ _ _⟩⟩
set_option maxRecDepth 4000 in
set_option maxHeartbeats 4000000 in
theorem cl_12_err (p : Nat) (rg : Bool) (rs : ByteArray) (en : Int) (x y : PV) (v : Value) (w : World) (h : VRow w v [x, y]) (hp : w.cell? ⟨p, 0, none⟩ = some (.func (.func 32) #[] #[])) (hpl : p < w.heap.size)
    (HF : ∀ W, Calls Tryz.prog 32 #[.agg #[.bool x.g, .string x.s], .agg #[.bool y.g, .string y.s]] W fun e w' => e = .returned (.tuple #[.agg #[.bool rg, .string rs], .int .i64 en]) ∧ Below W.heap.size W w') (he : en ≠ 0) :
    Calls Tryz.prog 24 #[v, .pointer (some ⟨p, 0, none⟩)] w (LitOk w nolit false) := by
  have HWH := Lib.hid (fun W => whole_err rg rs en W he)
  have HFF := Lib.hid HF
  clear HF he
  unfold LitOk nolit litv at *
  obtain ⟨W1, hW1⟩ : ∃ W1, w.alloc (.cells #[.int .u8 0, .int .i64 0, .int .u64 0, .string ⟨#[]⟩, .slice none 0 0] 26) = W1 := ⟨_, rfl⟩
  have HP : Hid (P5 W1 w.heap.size (.int .u8 0) (.int .i64 0) (.int .u64 0) (.string ⟨#[]⟩) (.slice none 0 0)) := Lib.hid (by rw [← hW1]; exact P5.new _ _ _ _ _ _)
  have HB : Hid (Below w.heap.size w W1) := Lib.hid (by rw [← hW1]; exact (Below.refl _ _).alloc (Nat.le_refl _) _)
  have hs1 : w.heap.size + 1 ≤ W1.heap.size := by rw [← hW1]; simp
  obtain ⟨gv, cv, rfl, hg0, hc0⟩ := h
  have hx5 : W1.cell? ⟨gv, 5, none⟩ = some (.bool x.g) := by rw [HB.out.cell (p := ⟨gv, 5, none⟩) hg0]; exact hc0 0 x rfl 5 _ rfl
  have hx6 : W1.cell? ⟨gv, 6, none⟩ = some (.string x.s) := by rw [HB.out.cell (p := ⟨gv, 6, none⟩) hg0]; exact hc0 0 x rfl 6 _ rfl
  have hy5 : W1.cell? ⟨gv, 12, none⟩ = some (.bool y.g) := by rw [HB.out.cell (p := ⟨gv, 12, none⟩) hg0]; exact hc0 1 y rfl 5 _ rfl
  have hy6 : W1.cell? ⟨gv, 13, none⟩ = some (.string y.s) := by rw [HB.out.cell (p := ⟨gv, 13, none⟩) hg0]; exact hc0 1 y rfl 6 _ rfl
  have hp1 : W1.cell? ⟨p, 0, none⟩ = some (.func (.func 32) #[] #[]) := by rw [HB.out.cell (p := ⟨p, 0, none⟩) hpl]; exact hp
  simp only [List.length_cons, List.length_nil] at *
  clear hc0 hp
  have HS : Hid (∀ W, Below W1.heap.size W1 W → W.cell? ⟨p, 0, none⟩ = some (.func (.func 32) #[] #[]) ∧ W.cell? ⟨gv, 5, none⟩ = some (.bool x.g) ∧ W.cell? ⟨gv, 6, none⟩ = some (.string x.s) ∧ W.cell? ⟨gv, 12, none⟩ = some (.bool y.g) ∧ W.cell? ⟨gv, 13, none⟩ = some (.string y.s)) := Lib.hid (fun W hb => ⟨by rw [hb.cell (p := ⟨p, 0, none⟩) (by show p < _; omega)]; exact hp1, by rw [hb.cell (p := ⟨gv, 5, none⟩) (by show gv < _; omega)]; exact hx5, by rw [hb.cell (p := ⟨gv, 6, none⟩) (by show gv < _; omega)]; exact hx6, by rw [hb.cell (p := ⟨gv, 12, none⟩) (by show gv < _; omega)]; exact hy5, by rw [hb.cell (p := ⟨gv, 13, none⟩) (by show gv < _; omega)]; exact hy6⟩)
  have cellset : ∀ (W : World) (q i : Nat) (u a b c d e : Value), q < w.heap.size → W.cell? ⟨q, i, none⟩ = some u → (set5 W w.heap.size a b c d e).cell? ⟨q, i, none⟩ = some u := fun W q i u a b c d e hq hu => by
    unfold set5
    rw [World.cell?_setCell_other _ _ _ _ (by intro z; injection z with z; omega), World.cell?_setCell_other _ _ _ _ (by intro z; injection z with z; omega), World.cell?_setCell_other _ _ _ _ (by intro z; injection z with z; omega), World.cell?_setCell_other _ _ _ _ (by intro z; injection z with z; omega), World.cell?_setCell_other _ _ _ _ (by intro z; injection z with z; omega)]
    exact hu
  have HS5 : Hid (∀ W, Below W1.heap.size W1 W → ∀ a b c d e, (set5 W w.heap.size a b c d e).cell? ⟨p, 0, none⟩ = some (.func (.func 32) #[] #[]) ∧ (set5 W w.heap.size a b c d e).cell? ⟨gv, 5, none⟩ = some (.bool x.g) ∧ (set5 W w.heap.size a b c d e).cell? ⟨gv, 6, none⟩ = some (.string x.s) ∧ (set5 W w.heap.size a b c d e).cell? ⟨gv, 12, none⟩ = some (.bool y.g) ∧ (set5 W w.heap.size a b c d e).cell? ⟨gv, 13, none⟩ = some (.string y.s)) := Lib.hid (fun W hb a b c d e => ⟨cellset W p 0 _ a b c d e hpl (HS.out W hb).1, cellset W gv 5 _ a b c d e hg0 (HS.out W hb).2.1, cellset W gv 6 _ a b c d e hg0 (HS.out W hb).2.2.1, cellset W gv 12 _ a b c d e hg0 (HS.out W hb).2.2.2.1, cellset W gv 13 _ a b c d e hg0 (HS.out W hb).2.2.2.2⟩)
  have BD := Lib.hid (show Below W1.heap.size W1 W1.drew from (Below.refl _ W1).drew)
  clear cellset
  unfold set5 at HS5
  obtain ⟨c0, c1, c2, c3, c4, f0, f1, f2, f3, f4⟩ := HP.out.cells
  go_enter Tryz.func24, Tryz.ntmps24
  go_wp2_with fail
  go_region_held3 (fun W => W.cell? ⟨p, 0, none⟩ = some (.func (.func 32) #[] #[]) ∧ W.cell? ⟨gv, 5, none⟩ = some (.bool x.g) ∧ W.cell? ⟨gv, 6, none⟩ = some (.string x.s) ∧ W.cell? ⟨gv, 12, none⟩ = some (.bool y.g) ∧ W.cell? ⟨gv, 13, none⟩ = some (.string y.s)) (first | with_reducible exact ⟨hp1, hx5, hx6, hy5, hy6⟩ | with_reducible exact HS.out _ BD.out | with_reducible exact HS.out _ hb4 | with_reducible exact HS.out _ hb54 | with_reducible exact HS5.out _ hb54 _ _ _ _ _) (first
    | (go_at_call 25; (with_reducible refine (HWH.out _).mono ?_); rintro e w5 ⟨rfl, hb5⟩; have hb54 : Below W1.heap.size W1 w5 := hb4.trans (hb5.mono hb4.size); have HP5 := Lib.hid (HP.out.below hb54); obtain ⟨d0, d1, d2, d3, d4, e0, e1, e2, e3, e4⟩ := HP5.out.cells)
    | (go_at_call 32; (with_reducible refine (HFF.out _).mono ?_); rintro e w4 ⟨rfl, hb4d⟩; have hb4 : Below W1.heap.size W1 w4 := BD.out.trans hb4d; clear hb4d))
  all_goals
    have HB5 := Lib.hid (HB.out.trans (hb54.mono (by omega)))
    obtain ⟨k0, k1, k2, k3, k4, _, _, _, _, _⟩ := (HP5.out.set (.int .u8 0) (.int .i64 0) (.int .u64 0) (.string ⟨#[]⟩) (.slice none 0 0)).cells
    go_wp2_with fail
    exact bodyPost_ret (v := .tuple #[.agg #[.int .u8 0, .int .i64 0, .int .u64 0, .string ⟨#[]⟩, .slice none 0 0], .bool false]) (by simp [results, Tryz.results24, go_sem, k0, k1, k2, k3, k4]) rfl ⟨rfl, below_set5 HB5.out (Nat.le_refl _) _ _ _ _ _⟩
theorem do12 (x x2 : PT) (y y2 : PV) (A B : Int) (av : Value) (w : World) (h1 : ArgI x y A) (h2 : ArgI x2 y2 B) (h0 : B ≠ 0) (hR : Pl.Big (Pl.fq A B)) (h : TRow w av [x, x2]) : Calls Tryz.prog 11 #[.int .i64 12, av] w (Came w (IntP (Pl.fq A B))) :=
  (do_two 12 32 (IntP (Pl.fq A B)) x x2 y y2 A B av w (by omega) (fun w L h => h.i12) h1 h2 h (fun W v p hv hp hpl => (cl_12 p (Pl.fq A B) y y2 v W hv hp hpl (fun W => by
    rw [h1.2.1, h2.2.1]
    exact pick12 _ _ _ _ _ _ _ _ 0 W (fun W => ldiv_all A B W h1.2.2.1 h2.2.2.1 h0)) hR).mono fun e w' h => who_came h)).mono fun e w' h => fin_int h
theorem do12_zero (x x2 : PT) (y y2 : PV) (A B : Int) (av : Value) (w : World) (h1 : ArgI x y A) (h2 : ArgI x2 y2 B) (h0 : B = 0) (h : TRow w av [x, x2]) : Calls Tryz.prog 11 #[.int .i64 12, av] w (Came w (Just 0 0 ⟨#[]⟩ false)) :=
  (do_two 12 32 (Just 0 0 ⟨#[]⟩ false) x x2 y y2 A B av w (by omega) (fun w L h => h.i12) h1 h2 h (fun W v p hv hp hpl => (cl_12_err p false ⟨#[]⟩ 90 y y2 v W hv hp hpl (fun W => by
    rw [h1.2.1, h2.2.1]
    exact pick12 _ _ false false _ _ ⟨#[]⟩ ⟨#[]⟩ 90 W (fun W => ldiv_zero A B W h1.2.2.1 h2.2.2.1 h0)) (by omega)).mono fun e w' h => came_just h)).mono fun e w' h => just_no h rfl
set_option maxRecDepth 4000 in
set_option maxHeartbeats 4000000 in
theorem cl_13 (p : Nat) (R : Int) (x y : PV) (v : Value) (w : World) (h : VRow w v [x, y]) (hp : w.cell? ⟨p, 0, none⟩ = some (.func (.func 33) #[] #[])) (hpl : p < w.heap.size)
    (HF : ∀ W, Calls Tryz.prog 33 #[.agg #[.bool x.g, .string x.s], .agg #[.bool y.g, .string y.s]] W fun e w' => e = .returned (.tuple #[lof R, .int .i64 0]) ∧ Below W.heap.size W w') (hR : Pl.Big R) :
    Calls Tryz.prog 24 #[v, .pointer (some ⟨p, 0, none⟩)] w (WhoOk w R) := by
  have HWH := Lib.hid (fun W => whole_any R W hR)
  obtain ⟨rg, rs, hr⟩ : ∃ g S, lof R = .agg #[.bool g, .string S] := ⟨_, _, rfl⟩
  rw [hr] at HWH
  have HFF := Lib.hid HF
  simp only [hr] at HFF
  clear HF hR hr
  unfold WhoOk LitOk litv at *
  obtain ⟨W1, hW1⟩ : ∃ W1, w.alloc (.cells #[.int .u8 0, .int .i64 0, .int .u64 0, .string ⟨#[]⟩, .slice none 0 0] 26) = W1 := ⟨_, rfl⟩
  have HP : Hid (P5 W1 w.heap.size (.int .u8 0) (.int .i64 0) (.int .u64 0) (.string ⟨#[]⟩) (.slice none 0 0)) := Lib.hid (by rw [← hW1]; exact P5.new _ _ _ _ _ _)
  have HB : Hid (Below w.heap.size w W1) := Lib.hid (by rw [← hW1]; exact (Below.refl _ _).alloc (Nat.le_refl _) _)
  have hs1 : w.heap.size + 1 ≤ W1.heap.size := by rw [← hW1]; simp
  obtain ⟨gv, cv, rfl, hg0, hc0⟩ := h
  have hx5 : W1.cell? ⟨gv, 5, none⟩ = some (.bool x.g) := by rw [HB.out.cell (p := ⟨gv, 5, none⟩) hg0]; exact hc0 0 x rfl 5 _ rfl
  have hx6 : W1.cell? ⟨gv, 6, none⟩ = some (.string x.s) := by rw [HB.out.cell (p := ⟨gv, 6, none⟩) hg0]; exact hc0 0 x rfl 6 _ rfl
  have hy5 : W1.cell? ⟨gv, 12, none⟩ = some (.bool y.g) := by rw [HB.out.cell (p := ⟨gv, 12, none⟩) hg0]; exact hc0 1 y rfl 5 _ rfl
  have hy6 : W1.cell? ⟨gv, 13, none⟩ = some (.string y.s) := by rw [HB.out.cell (p := ⟨gv, 13, none⟩) hg0]; exact hc0 1 y rfl 6 _ rfl
  have hp1 : W1.cell? ⟨p, 0, none⟩ = some (.func (.func 33) #[] #[]) := by rw [HB.out.cell (p := ⟨p, 0, none⟩) hpl]; exact hp
  simp only [List.length_cons, List.length_nil] at *
  clear hc0 hp
  have HS : Hid (∀ W, Below W1.heap.size W1 W → W.cell? ⟨p, 0, none⟩ = some (.func (.func 33) #[] #[]) ∧ W.cell? ⟨gv, 5, none⟩ = some (.bool x.g) ∧ W.cell? ⟨gv, 6, none⟩ = some (.string x.s) ∧ W.cell? ⟨gv, 12, none⟩ = some (.bool y.g) ∧ W.cell? ⟨gv, 13, none⟩ = some (.string y.s)) := Lib.hid (fun W hb => ⟨by rw [hb.cell (p := ⟨p, 0, none⟩) (by show p < _; omega)]; exact hp1, by rw [hb.cell (p := ⟨gv, 5, none⟩) (by show gv < _; omega)]; exact hx5, by rw [hb.cell (p := ⟨gv, 6, none⟩) (by show gv < _; omega)]; exact hx6, by rw [hb.cell (p := ⟨gv, 12, none⟩) (by show gv < _; omega)]; exact hy5, by rw [hb.cell (p := ⟨gv, 13, none⟩) (by show gv < _; omega)]; exact hy6⟩)
  have cellset : ∀ (W : World) (q i : Nat) (u a b c d e : Value), q < w.heap.size → W.cell? ⟨q, i, none⟩ = some u → (set5 W w.heap.size a b c d e).cell? ⟨q, i, none⟩ = some u := fun W q i u a b c d e hq hu => by
    unfold set5
    rw [World.cell?_setCell_other _ _ _ _ (by intro z; injection z with z; omega), World.cell?_setCell_other _ _ _ _ (by intro z; injection z with z; omega), World.cell?_setCell_other _ _ _ _ (by intro z; injection z with z; omega), World.cell?_setCell_other _ _ _ _ (by intro z; injection z with z; omega), World.cell?_setCell_other _ _ _ _ (by intro z; injection z with z; omega)]
    exact hu
  have HS5 : Hid (∀ W, Below W1.heap.size W1 W → ∀ a b c d e, (set5 W w.heap.size a b c d e).cell? ⟨p, 0, none⟩ = some (.func (.func 33) #[] #[]) ∧ (set5 W w.heap.size a b c d e).cell? ⟨gv, 5, none⟩ = some (.bool x.g) ∧ (set5 W w.heap.size a b c d e).cell? ⟨gv, 6, none⟩ = some (.string x.s) ∧ (set5 W w.heap.size a b c d e).cell? ⟨gv, 12, none⟩ = some (.bool y.g) ∧ (set5 W w.heap.size a b c d e).cell? ⟨gv, 13, none⟩ = some (.string y.s)) := Lib.hid (fun W hb a b c d e => ⟨cellset W p 0 _ a b c d e hpl (HS.out W hb).1, cellset W gv 5 _ a b c d e hg0 (HS.out W hb).2.1, cellset W gv 6 _ a b c d e hg0 (HS.out W hb).2.2.1, cellset W gv 12 _ a b c d e hg0 (HS.out W hb).2.2.2.1, cellset W gv 13 _ a b c d e hg0 (HS.out W hb).2.2.2.2⟩)
  have BD := Lib.hid (show Below W1.heap.size W1 W1.drew from (Below.refl _ W1).drew)
  clear cellset
  unfold set5 at HS5
  obtain ⟨c0, c1, c2, c3, c4, f0, f1, f2, f3, f4⟩ := HP.out.cells
  go_enter Tryz.func24, Tryz.ntmps24
  go_wp2_with fail
  go_region_held3 (fun W => W.cell? ⟨p, 0, none⟩ = some (.func (.func 33) #[] #[]) ∧ W.cell? ⟨gv, 5, none⟩ = some (.bool x.g) ∧ W.cell? ⟨gv, 6, none⟩ = some (.string x.s) ∧ W.cell? ⟨gv, 12, none⟩ = some (.bool y.g) ∧ W.cell? ⟨gv, 13, none⟩ = some (.string y.s)) (first | with_reducible exact ⟨hp1, hx5, hx6, hy5, hy6⟩ | with_reducible exact HS.out _ BD.out | with_reducible exact HS.out _ hb4 | with_reducible exact HS.out _ hb54 | with_reducible exact HS5.out _ hb54 _ _ _ _ _) (first
    | (go_at_call 25; (with_reducible refine (HWH.out _).mono ?_); rintro e w5 ⟨rk, rn, rt, hil, rfl, hb5⟩; have HIL := Lib.hid hil; obtain ⟨rT, hrT⟩ : ∃ rT, bs rt = rT := ⟨_, rfl⟩; have HRT := Lib.hid hrT; rw [hrT]; clear hil hrT; have hb54 : Below W1.heap.size W1 w5 := hb4.trans (hb5.mono hb4.size); have HP5 := Lib.hid (HP.out.below hb54); obtain ⟨d0, d1, d2, d3, d4, e0, e1, e2, e3, e4⟩ := HP5.out.cells)
    | (go_at_call 33; (with_reducible refine (HFF.out _).mono ?_); rintro e w4 ⟨rfl, hb4d⟩; have hb4 : Below W1.heap.size W1 w4 := BD.out.trans hb4d; clear hb4d))
  all_goals
    have HB5 := Lib.hid (HB.out.trans (hb54.mono (by omega)))
    obtain ⟨k0, k1, k2, k3, k4, _, _, _, _, _⟩ := (HP5.out.set (.int .u8 rk) (.int .i64 rn) (.int .u64 0) (.string rT) (.slice none 0 0)).cells
    go_wp2_with fail
    exact bodyPost_ret (v := .tuple #[.agg #[.int .u8 rk, .int .i64 rn, .int .u64 0, .string rT, .slice none 0 0], .bool true]) (by simp [results, Tryz.results24, go_sem, k0, k1, k2, k3, k4]) rfl ⟨rk, rn, rt, HIL.out, by rw [HRT.out]; exact ⟨rfl, below_set5 HB5.out (Nat.le_refl _) _ _ _ _ _⟩⟩
set_option maxRecDepth 4000 in
set_option maxHeartbeats 4000000 in
theorem cl_13_err (p : Nat) (rg : Bool) (rs : ByteArray) (en : Int) (x y : PV) (v : Value) (w : World) (h : VRow w v [x, y]) (hp : w.cell? ⟨p, 0, none⟩ = some (.func (.func 33) #[] #[])) (hpl : p < w.heap.size)
    (HF : ∀ W, Calls Tryz.prog 33 #[.agg #[.bool x.g, .string x.s], .agg #[.bool y.g, .string y.s]] W fun e w' => e = .returned (.tuple #[.agg #[.bool rg, .string rs], .int .i64 en]) ∧ Below W.heap.size W w') (he : en ≠ 0) :
    Calls Tryz.prog 24 #[v, .pointer (some ⟨p, 0, none⟩)] w (LitOk w nolit false) := by
  have HWH := Lib.hid (fun W => whole_err rg rs en W he)
  have HFF := Lib.hid HF
  clear HF he
  unfold LitOk nolit litv at *
  obtain ⟨W1, hW1⟩ : ∃ W1, w.alloc (.cells #[.int .u8 0, .int .i64 0, .int .u64 0, .string ⟨#[]⟩, .slice none 0 0] 26) = W1 := ⟨_, rfl⟩
  have HP : Hid (P5 W1 w.heap.size (.int .u8 0) (.int .i64 0) (.int .u64 0) (.string ⟨#[]⟩) (.slice none 0 0)) := Lib.hid (by rw [← hW1]; exact P5.new _ _ _ _ _ _)
  have HB : Hid (Below w.heap.size w W1) := Lib.hid (by rw [← hW1]; exact (Below.refl _ _).alloc (Nat.le_refl _) _)
  have hs1 : w.heap.size + 1 ≤ W1.heap.size := by rw [← hW1]; simp
  obtain ⟨gv, cv, rfl, hg0, hc0⟩ := h
  have hx5 : W1.cell? ⟨gv, 5, none⟩ = some (.bool x.g) := by rw [HB.out.cell (p := ⟨gv, 5, none⟩) hg0]; exact hc0 0 x rfl 5 _ rfl
  have hx6 : W1.cell? ⟨gv, 6, none⟩ = some (.string x.s) := by rw [HB.out.cell (p := ⟨gv, 6, none⟩) hg0]; exact hc0 0 x rfl 6 _ rfl
  have hy5 : W1.cell? ⟨gv, 12, none⟩ = some (.bool y.g) := by rw [HB.out.cell (p := ⟨gv, 12, none⟩) hg0]; exact hc0 1 y rfl 5 _ rfl
  have hy6 : W1.cell? ⟨gv, 13, none⟩ = some (.string y.s) := by rw [HB.out.cell (p := ⟨gv, 13, none⟩) hg0]; exact hc0 1 y rfl 6 _ rfl
  have hp1 : W1.cell? ⟨p, 0, none⟩ = some (.func (.func 33) #[] #[]) := by rw [HB.out.cell (p := ⟨p, 0, none⟩) hpl]; exact hp
  simp only [List.length_cons, List.length_nil] at *
  clear hc0 hp
  have HS : Hid (∀ W, Below W1.heap.size W1 W → W.cell? ⟨p, 0, none⟩ = some (.func (.func 33) #[] #[]) ∧ W.cell? ⟨gv, 5, none⟩ = some (.bool x.g) ∧ W.cell? ⟨gv, 6, none⟩ = some (.string x.s) ∧ W.cell? ⟨gv, 12, none⟩ = some (.bool y.g) ∧ W.cell? ⟨gv, 13, none⟩ = some (.string y.s)) := Lib.hid (fun W hb => ⟨by rw [hb.cell (p := ⟨p, 0, none⟩) (by show p < _; omega)]; exact hp1, by rw [hb.cell (p := ⟨gv, 5, none⟩) (by show gv < _; omega)]; exact hx5, by rw [hb.cell (p := ⟨gv, 6, none⟩) (by show gv < _; omega)]; exact hx6, by rw [hb.cell (p := ⟨gv, 12, none⟩) (by show gv < _; omega)]; exact hy5, by rw [hb.cell (p := ⟨gv, 13, none⟩) (by show gv < _; omega)]; exact hy6⟩)
  have cellset : ∀ (W : World) (q i : Nat) (u a b c d e : Value), q < w.heap.size → W.cell? ⟨q, i, none⟩ = some u → (set5 W w.heap.size a b c d e).cell? ⟨q, i, none⟩ = some u := fun W q i u a b c d e hq hu => by
    unfold set5
    rw [World.cell?_setCell_other _ _ _ _ (by intro z; injection z with z; omega), World.cell?_setCell_other _ _ _ _ (by intro z; injection z with z; omega), World.cell?_setCell_other _ _ _ _ (by intro z; injection z with z; omega), World.cell?_setCell_other _ _ _ _ (by intro z; injection z with z; omega), World.cell?_setCell_other _ _ _ _ (by intro z; injection z with z; omega)]
    exact hu
  have HS5 : Hid (∀ W, Below W1.heap.size W1 W → ∀ a b c d e, (set5 W w.heap.size a b c d e).cell? ⟨p, 0, none⟩ = some (.func (.func 33) #[] #[]) ∧ (set5 W w.heap.size a b c d e).cell? ⟨gv, 5, none⟩ = some (.bool x.g) ∧ (set5 W w.heap.size a b c d e).cell? ⟨gv, 6, none⟩ = some (.string x.s) ∧ (set5 W w.heap.size a b c d e).cell? ⟨gv, 12, none⟩ = some (.bool y.g) ∧ (set5 W w.heap.size a b c d e).cell? ⟨gv, 13, none⟩ = some (.string y.s)) := Lib.hid (fun W hb a b c d e => ⟨cellset W p 0 _ a b c d e hpl (HS.out W hb).1, cellset W gv 5 _ a b c d e hg0 (HS.out W hb).2.1, cellset W gv 6 _ a b c d e hg0 (HS.out W hb).2.2.1, cellset W gv 12 _ a b c d e hg0 (HS.out W hb).2.2.2.1, cellset W gv 13 _ a b c d e hg0 (HS.out W hb).2.2.2.2⟩)
  have BD := Lib.hid (show Below W1.heap.size W1 W1.drew from (Below.refl _ W1).drew)
  clear cellset
  unfold set5 at HS5
  obtain ⟨c0, c1, c2, c3, c4, f0, f1, f2, f3, f4⟩ := HP.out.cells
  go_enter Tryz.func24, Tryz.ntmps24
  go_wp2_with fail
  go_region_held3 (fun W => W.cell? ⟨p, 0, none⟩ = some (.func (.func 33) #[] #[]) ∧ W.cell? ⟨gv, 5, none⟩ = some (.bool x.g) ∧ W.cell? ⟨gv, 6, none⟩ = some (.string x.s) ∧ W.cell? ⟨gv, 12, none⟩ = some (.bool y.g) ∧ W.cell? ⟨gv, 13, none⟩ = some (.string y.s)) (first | with_reducible exact ⟨hp1, hx5, hx6, hy5, hy6⟩ | with_reducible exact HS.out _ BD.out | with_reducible exact HS.out _ hb4 | with_reducible exact HS.out _ hb54 | with_reducible exact HS5.out _ hb54 _ _ _ _ _) (first
    | (go_at_call 25; (with_reducible refine (HWH.out _).mono ?_); rintro e w5 ⟨rfl, hb5⟩; have hb54 : Below W1.heap.size W1 w5 := hb4.trans (hb5.mono hb4.size); have HP5 := Lib.hid (HP.out.below hb54); obtain ⟨d0, d1, d2, d3, d4, e0, e1, e2, e3, e4⟩ := HP5.out.cells)
    | (go_at_call 33; (with_reducible refine (HFF.out _).mono ?_); rintro e w4 ⟨rfl, hb4d⟩; have hb4 : Below W1.heap.size W1 w4 := BD.out.trans hb4d; clear hb4d))
  all_goals
    have HB5 := Lib.hid (HB.out.trans (hb54.mono (by omega)))
    obtain ⟨k0, k1, k2, k3, k4, _, _, _, _, _⟩ := (HP5.out.set (.int .u8 0) (.int .i64 0) (.int .u64 0) (.string ⟨#[]⟩) (.slice none 0 0)).cells
    go_wp2_with fail
    exact bodyPost_ret (v := .tuple #[.agg #[.int .u8 0, .int .i64 0, .int .u64 0, .string ⟨#[]⟩, .slice none 0 0], .bool false]) (by simp [results, Tryz.results24, go_sem, k0, k1, k2, k3, k4]) rfl ⟨rfl, below_set5 HB5.out (Nat.le_refl _) _ _ _ _ _⟩
theorem do13 (x x2 : PT) (y y2 : PV) (A B : Int) (av : Value) (w : World) (h1 : ArgI x y A) (h2 : ArgI x2 y2 B) (h0 : B ≠ 0) (hR : Pl.Big (A.tdiv B)) (h : TRow w av [x, x2]) : Calls Tryz.prog 11 #[.int .i64 13, av] w (Came w (IntP (A.tdiv B))) :=
  (do_two 13 33 (IntP (A.tdiv B)) x x2 y y2 A B av w (by omega) (fun w L h => h.i13) h1 h2 h (fun W v p hv hp hpl => (cl_13 p (A.tdiv B) y y2 v W hv hp hpl (fun W => by
    rw [h1.2.1, h2.2.1]
    exact pick13 _ _ _ _ _ _ _ _ 0 W (fun W => lquo_all A B W h1.2.2.1 h2.2.2.1 h0)) hR).mono fun e w' h => who_came h)).mono fun e w' h => fin_int h
theorem do13_zero (x x2 : PT) (y y2 : PV) (A B : Int) (av : Value) (w : World) (h1 : ArgI x y A) (h2 : ArgI x2 y2 B) (h0 : B = 0) (h : TRow w av [x, x2]) : Calls Tryz.prog 11 #[.int .i64 13, av] w (Came w (Just 0 0 ⟨#[]⟩ false)) :=
  (do_two 13 33 (Just 0 0 ⟨#[]⟩ false) x x2 y y2 A B av w (by omega) (fun w L h => h.i13) h1 h2 h (fun W v p hv hp hpl => (cl_13_err p false ⟨#[]⟩ 90 y y2 v W hv hp hpl (fun W => by
    rw [h1.2.1, h2.2.1]
    exact pick13 _ _ false false _ _ ⟨#[]⟩ ⟨#[]⟩ 90 W (fun W => lquo_zero A B W h1.2.2.1 h2.2.2.1 h0)) (by omega)).mono fun e w' h => came_just h)).mono fun e w' h => just_no h rfl
set_option maxRecDepth 4000 in
set_option maxHeartbeats 4000000 in
theorem cl_14 (p : Nat) (R : Int) (x y : PV) (v : Value) (w : World) (h : VRow w v [x, y]) (hp : w.cell? ⟨p, 0, none⟩ = some (.func (.func 35) #[] #[])) (hpl : p < w.heap.size)
    (HF : ∀ W, Calls Tryz.prog 35 #[.agg #[.bool x.g, .string x.s], .agg #[.bool y.g, .string y.s]] W fun e w' => e = .returned (.tuple #[lof R, .int .i64 0]) ∧ Below W.heap.size W w') (hR : Pl.Big R) :
    Calls Tryz.prog 24 #[v, .pointer (some ⟨p, 0, none⟩)] w (WhoOk w R) := by
  have HWH := Lib.hid (fun W => whole_any R W hR)
  obtain ⟨rg, rs, hr⟩ : ∃ g S, lof R = .agg #[.bool g, .string S] := ⟨_, _, rfl⟩
  rw [hr] at HWH
  have HFF := Lib.hid HF
  simp only [hr] at HFF
  clear HF hR hr
  unfold WhoOk LitOk litv at *
  obtain ⟨W1, hW1⟩ : ∃ W1, w.alloc (.cells #[.int .u8 0, .int .i64 0, .int .u64 0, .string ⟨#[]⟩, .slice none 0 0] 26) = W1 := ⟨_, rfl⟩
  have HP : Hid (P5 W1 w.heap.size (.int .u8 0) (.int .i64 0) (.int .u64 0) (.string ⟨#[]⟩) (.slice none 0 0)) := Lib.hid (by rw [← hW1]; exact P5.new _ _ _ _ _ _)
  have HB : Hid (Below w.heap.size w W1) := Lib.hid (by rw [← hW1]; exact (Below.refl _ _).alloc (Nat.le_refl _) _)
  have hs1 : w.heap.size + 1 ≤ W1.heap.size := by rw [← hW1]; simp
  obtain ⟨gv, cv, rfl, hg0, hc0⟩ := h
  have hx5 : W1.cell? ⟨gv, 5, none⟩ = some (.bool x.g) := by rw [HB.out.cell (p := ⟨gv, 5, none⟩) hg0]; exact hc0 0 x rfl 5 _ rfl
  have hx6 : W1.cell? ⟨gv, 6, none⟩ = some (.string x.s) := by rw [HB.out.cell (p := ⟨gv, 6, none⟩) hg0]; exact hc0 0 x rfl 6 _ rfl
  have hy5 : W1.cell? ⟨gv, 12, none⟩ = some (.bool y.g) := by rw [HB.out.cell (p := ⟨gv, 12, none⟩) hg0]; exact hc0 1 y rfl 5 _ rfl
  have hy6 : W1.cell? ⟨gv, 13, none⟩ = some (.string y.s) := by rw [HB.out.cell (p := ⟨gv, 13, none⟩) hg0]; exact hc0 1 y rfl 6 _ rfl
  have hp1 : W1.cell? ⟨p, 0, none⟩ = some (.func (.func 35) #[] #[]) := by rw [HB.out.cell (p := ⟨p, 0, none⟩) hpl]; exact hp
  simp only [List.length_cons, List.length_nil] at *
  clear hc0 hp
  have HS : Hid (∀ W, Below W1.heap.size W1 W → W.cell? ⟨p, 0, none⟩ = some (.func (.func 35) #[] #[]) ∧ W.cell? ⟨gv, 5, none⟩ = some (.bool x.g) ∧ W.cell? ⟨gv, 6, none⟩ = some (.string x.s) ∧ W.cell? ⟨gv, 12, none⟩ = some (.bool y.g) ∧ W.cell? ⟨gv, 13, none⟩ = some (.string y.s)) := Lib.hid (fun W hb => ⟨by rw [hb.cell (p := ⟨p, 0, none⟩) (by show p < _; omega)]; exact hp1, by rw [hb.cell (p := ⟨gv, 5, none⟩) (by show gv < _; omega)]; exact hx5, by rw [hb.cell (p := ⟨gv, 6, none⟩) (by show gv < _; omega)]; exact hx6, by rw [hb.cell (p := ⟨gv, 12, none⟩) (by show gv < _; omega)]; exact hy5, by rw [hb.cell (p := ⟨gv, 13, none⟩) (by show gv < _; omega)]; exact hy6⟩)
  have cellset : ∀ (W : World) (q i : Nat) (u a b c d e : Value), q < w.heap.size → W.cell? ⟨q, i, none⟩ = some u → (set5 W w.heap.size a b c d e).cell? ⟨q, i, none⟩ = some u := fun W q i u a b c d e hq hu => by
    unfold set5
    rw [World.cell?_setCell_other _ _ _ _ (by intro z; injection z with z; omega), World.cell?_setCell_other _ _ _ _ (by intro z; injection z with z; omega), World.cell?_setCell_other _ _ _ _ (by intro z; injection z with z; omega), World.cell?_setCell_other _ _ _ _ (by intro z; injection z with z; omega), World.cell?_setCell_other _ _ _ _ (by intro z; injection z with z; omega)]
    exact hu
  have HS5 : Hid (∀ W, Below W1.heap.size W1 W → ∀ a b c d e, (set5 W w.heap.size a b c d e).cell? ⟨p, 0, none⟩ = some (.func (.func 35) #[] #[]) ∧ (set5 W w.heap.size a b c d e).cell? ⟨gv, 5, none⟩ = some (.bool x.g) ∧ (set5 W w.heap.size a b c d e).cell? ⟨gv, 6, none⟩ = some (.string x.s) ∧ (set5 W w.heap.size a b c d e).cell? ⟨gv, 12, none⟩ = some (.bool y.g) ∧ (set5 W w.heap.size a b c d e).cell? ⟨gv, 13, none⟩ = some (.string y.s)) := Lib.hid (fun W hb a b c d e => ⟨cellset W p 0 _ a b c d e hpl (HS.out W hb).1, cellset W gv 5 _ a b c d e hg0 (HS.out W hb).2.1, cellset W gv 6 _ a b c d e hg0 (HS.out W hb).2.2.1, cellset W gv 12 _ a b c d e hg0 (HS.out W hb).2.2.2.1, cellset W gv 13 _ a b c d e hg0 (HS.out W hb).2.2.2.2⟩)
  have BD := Lib.hid (show Below W1.heap.size W1 W1.drew from (Below.refl _ W1).drew)
  clear cellset
  unfold set5 at HS5
  obtain ⟨c0, c1, c2, c3, c4, f0, f1, f2, f3, f4⟩ := HP.out.cells
  go_enter Tryz.func24, Tryz.ntmps24
  go_wp2_with fail
  go_region_held3 (fun W => W.cell? ⟨p, 0, none⟩ = some (.func (.func 35) #[] #[]) ∧ W.cell? ⟨gv, 5, none⟩ = some (.bool x.g) ∧ W.cell? ⟨gv, 6, none⟩ = some (.string x.s) ∧ W.cell? ⟨gv, 12, none⟩ = some (.bool y.g) ∧ W.cell? ⟨gv, 13, none⟩ = some (.string y.s)) (first | with_reducible exact ⟨hp1, hx5, hx6, hy5, hy6⟩ | with_reducible exact HS.out _ BD.out | with_reducible exact HS.out _ hb4 | with_reducible exact HS.out _ hb54 | with_reducible exact HS5.out _ hb54 _ _ _ _ _) (first
    | (go_at_call 25; (with_reducible refine (HWH.out _).mono ?_); rintro e w5 ⟨rk, rn, rt, hil, rfl, hb5⟩; have HIL := Lib.hid hil; obtain ⟨rT, hrT⟩ : ∃ rT, bs rt = rT := ⟨_, rfl⟩; have HRT := Lib.hid hrT; rw [hrT]; clear hil hrT; have hb54 : Below W1.heap.size W1 w5 := hb4.trans (hb5.mono hb4.size); have HP5 := Lib.hid (HP.out.below hb54); obtain ⟨d0, d1, d2, d3, d4, e0, e1, e2, e3, e4⟩ := HP5.out.cells)
    | (go_at_call 35; (with_reducible refine (HFF.out _).mono ?_); rintro e w4 ⟨rfl, hb4d⟩; have hb4 : Below W1.heap.size W1 w4 := BD.out.trans hb4d; clear hb4d))
  all_goals
    have HB5 := Lib.hid (HB.out.trans (hb54.mono (by omega)))
    obtain ⟨k0, k1, k2, k3, k4, _, _, _, _, _⟩ := (HP5.out.set (.int .u8 rk) (.int .i64 rn) (.int .u64 0) (.string rT) (.slice none 0 0)).cells
    go_wp2_with fail
    exact bodyPost_ret (v := .tuple #[.agg #[.int .u8 rk, .int .i64 rn, .int .u64 0, .string rT, .slice none 0 0], .bool true]) (by simp [results, Tryz.results24, go_sem, k0, k1, k2, k3, k4]) rfl ⟨rk, rn, rt, HIL.out, by rw [HRT.out]; exact ⟨rfl, below_set5 HB5.out (Nat.le_refl _) _ _ _ _ _⟩⟩
set_option maxRecDepth 4000 in
set_option maxHeartbeats 4000000 in
theorem cl_14_err (p : Nat) (rg : Bool) (rs : ByteArray) (en : Int) (x y : PV) (v : Value) (w : World) (h : VRow w v [x, y]) (hp : w.cell? ⟨p, 0, none⟩ = some (.func (.func 35) #[] #[])) (hpl : p < w.heap.size)
    (HF : ∀ W, Calls Tryz.prog 35 #[.agg #[.bool x.g, .string x.s], .agg #[.bool y.g, .string y.s]] W fun e w' => e = .returned (.tuple #[.agg #[.bool rg, .string rs], .int .i64 en]) ∧ Below W.heap.size W w') (he : en ≠ 0) :
    Calls Tryz.prog 24 #[v, .pointer (some ⟨p, 0, none⟩)] w (LitOk w nolit false) := by
  have HWH := Lib.hid (fun W => whole_err rg rs en W he)
  have HFF := Lib.hid HF
  clear HF he
  unfold LitOk nolit litv at *
  obtain ⟨W1, hW1⟩ : ∃ W1, w.alloc (.cells #[.int .u8 0, .int .i64 0, .int .u64 0, .string ⟨#[]⟩, .slice none 0 0] 26) = W1 := ⟨_, rfl⟩
  have HP : Hid (P5 W1 w.heap.size (.int .u8 0) (.int .i64 0) (.int .u64 0) (.string ⟨#[]⟩) (.slice none 0 0)) := Lib.hid (by rw [← hW1]; exact P5.new _ _ _ _ _ _)
  have HB : Hid (Below w.heap.size w W1) := Lib.hid (by rw [← hW1]; exact (Below.refl _ _).alloc (Nat.le_refl _) _)
  have hs1 : w.heap.size + 1 ≤ W1.heap.size := by rw [← hW1]; simp
  obtain ⟨gv, cv, rfl, hg0, hc0⟩ := h
  have hx5 : W1.cell? ⟨gv, 5, none⟩ = some (.bool x.g) := by rw [HB.out.cell (p := ⟨gv, 5, none⟩) hg0]; exact hc0 0 x rfl 5 _ rfl
  have hx6 : W1.cell? ⟨gv, 6, none⟩ = some (.string x.s) := by rw [HB.out.cell (p := ⟨gv, 6, none⟩) hg0]; exact hc0 0 x rfl 6 _ rfl
  have hy5 : W1.cell? ⟨gv, 12, none⟩ = some (.bool y.g) := by rw [HB.out.cell (p := ⟨gv, 12, none⟩) hg0]; exact hc0 1 y rfl 5 _ rfl
  have hy6 : W1.cell? ⟨gv, 13, none⟩ = some (.string y.s) := by rw [HB.out.cell (p := ⟨gv, 13, none⟩) hg0]; exact hc0 1 y rfl 6 _ rfl
  have hp1 : W1.cell? ⟨p, 0, none⟩ = some (.func (.func 35) #[] #[]) := by rw [HB.out.cell (p := ⟨p, 0, none⟩) hpl]; exact hp
  simp only [List.length_cons, List.length_nil] at *
  clear hc0 hp
  have HS : Hid (∀ W, Below W1.heap.size W1 W → W.cell? ⟨p, 0, none⟩ = some (.func (.func 35) #[] #[]) ∧ W.cell? ⟨gv, 5, none⟩ = some (.bool x.g) ∧ W.cell? ⟨gv, 6, none⟩ = some (.string x.s) ∧ W.cell? ⟨gv, 12, none⟩ = some (.bool y.g) ∧ W.cell? ⟨gv, 13, none⟩ = some (.string y.s)) := Lib.hid (fun W hb => ⟨by rw [hb.cell (p := ⟨p, 0, none⟩) (by show p < _; omega)]; exact hp1, by rw [hb.cell (p := ⟨gv, 5, none⟩) (by show gv < _; omega)]; exact hx5, by rw [hb.cell (p := ⟨gv, 6, none⟩) (by show gv < _; omega)]; exact hx6, by rw [hb.cell (p := ⟨gv, 12, none⟩) (by show gv < _; omega)]; exact hy5, by rw [hb.cell (p := ⟨gv, 13, none⟩) (by show gv < _; omega)]; exact hy6⟩)
  have cellset : ∀ (W : World) (q i : Nat) (u a b c d e : Value), q < w.heap.size → W.cell? ⟨q, i, none⟩ = some u → (set5 W w.heap.size a b c d e).cell? ⟨q, i, none⟩ = some u := fun W q i u a b c d e hq hu => by
    unfold set5
    rw [World.cell?_setCell_other _ _ _ _ (by intro z; injection z with z; omega), World.cell?_setCell_other _ _ _ _ (by intro z; injection z with z; omega), World.cell?_setCell_other _ _ _ _ (by intro z; injection z with z; omega), World.cell?_setCell_other _ _ _ _ (by intro z; injection z with z; omega), World.cell?_setCell_other _ _ _ _ (by intro z; injection z with z; omega)]
    exact hu
  have HS5 : Hid (∀ W, Below W1.heap.size W1 W → ∀ a b c d e, (set5 W w.heap.size a b c d e).cell? ⟨p, 0, none⟩ = some (.func (.func 35) #[] #[]) ∧ (set5 W w.heap.size a b c d e).cell? ⟨gv, 5, none⟩ = some (.bool x.g) ∧ (set5 W w.heap.size a b c d e).cell? ⟨gv, 6, none⟩ = some (.string x.s) ∧ (set5 W w.heap.size a b c d e).cell? ⟨gv, 12, none⟩ = some (.bool y.g) ∧ (set5 W w.heap.size a b c d e).cell? ⟨gv, 13, none⟩ = some (.string y.s)) := Lib.hid (fun W hb a b c d e => ⟨cellset W p 0 _ a b c d e hpl (HS.out W hb).1, cellset W gv 5 _ a b c d e hg0 (HS.out W hb).2.1, cellset W gv 6 _ a b c d e hg0 (HS.out W hb).2.2.1, cellset W gv 12 _ a b c d e hg0 (HS.out W hb).2.2.2.1, cellset W gv 13 _ a b c d e hg0 (HS.out W hb).2.2.2.2⟩)
  have BD := Lib.hid (show Below W1.heap.size W1 W1.drew from (Below.refl _ W1).drew)
  clear cellset
  unfold set5 at HS5
  obtain ⟨c0, c1, c2, c3, c4, f0, f1, f2, f3, f4⟩ := HP.out.cells
  go_enter Tryz.func24, Tryz.ntmps24
  go_wp2_with fail
  go_region_held3 (fun W => W.cell? ⟨p, 0, none⟩ = some (.func (.func 35) #[] #[]) ∧ W.cell? ⟨gv, 5, none⟩ = some (.bool x.g) ∧ W.cell? ⟨gv, 6, none⟩ = some (.string x.s) ∧ W.cell? ⟨gv, 12, none⟩ = some (.bool y.g) ∧ W.cell? ⟨gv, 13, none⟩ = some (.string y.s)) (first | with_reducible exact ⟨hp1, hx5, hx6, hy5, hy6⟩ | with_reducible exact HS.out _ BD.out | with_reducible exact HS.out _ hb4 | with_reducible exact HS.out _ hb54 | with_reducible exact HS5.out _ hb54 _ _ _ _ _) (first
    | (go_at_call 25; (with_reducible refine (HWH.out _).mono ?_); rintro e w5 ⟨rfl, hb5⟩; have hb54 : Below W1.heap.size W1 w5 := hb4.trans (hb5.mono hb4.size); have HP5 := Lib.hid (HP.out.below hb54); obtain ⟨d0, d1, d2, d3, d4, e0, e1, e2, e3, e4⟩ := HP5.out.cells)
    | (go_at_call 35; (with_reducible refine (HFF.out _).mono ?_); rintro e w4 ⟨rfl, hb4d⟩; have hb4 : Below W1.heap.size W1 w4 := BD.out.trans hb4d; clear hb4d))
  all_goals
    have HB5 := Lib.hid (HB.out.trans (hb54.mono (by omega)))
    obtain ⟨k0, k1, k2, k3, k4, _, _, _, _, _⟩ := (HP5.out.set (.int .u8 0) (.int .i64 0) (.int .u64 0) (.string ⟨#[]⟩) (.slice none 0 0)).cells
    go_wp2_with fail
    exact bodyPost_ret (v := .tuple #[.agg #[.int .u8 0, .int .i64 0, .int .u64 0, .string ⟨#[]⟩, .slice none 0 0], .bool false]) (by simp [results, Tryz.results24, go_sem, k0, k1, k2, k3, k4]) rfl ⟨rfl, below_set5 HB5.out (Nat.le_refl _) _ _ _ _ _⟩
theorem do14 (x x2 : PT) (y y2 : PV) (A B : Int) (av : Value) (w : World) (h1 : ArgI x y A) (h2 : ArgI x2 y2 B) (h0 : B ≠ 0) (hR : Pl.Big (A.tmod B)) (h : TRow w av [x, x2]) : Calls Tryz.prog 11 #[.int .i64 14, av] w (Came w (IntP (A.tmod B))) :=
  (do_two 14 35 (IntP (A.tmod B)) x x2 y y2 A B av w (by omega) (fun w L h => h.i14) h1 h2 h (fun W v p hv hp hpl => (cl_14 p (A.tmod B) y y2 v W hv hp hpl (fun W => by
    rw [h1.2.1, h2.2.1]
    exact pick14 _ _ _ _ _ _ _ _ 0 W (fun W => lquo_all A B W h1.2.2.1 h2.2.2.1 h0)) hR).mono fun e w' h => who_came h)).mono fun e w' h => fin_int h
theorem do14_zero (x x2 : PT) (y y2 : PV) (A B : Int) (av : Value) (w : World) (h1 : ArgI x y A) (h2 : ArgI x2 y2 B) (h0 : B = 0) (h : TRow w av [x, x2]) : Calls Tryz.prog 11 #[.int .i64 14, av] w (Came w (Just 0 0 ⟨#[]⟩ false)) :=
  (do_two 14 35 (Just 0 0 ⟨#[]⟩ false) x x2 y y2 A B av w (by omega) (fun w L h => h.i14) h1 h2 h (fun W v p hv hp hpl => (cl_14_err p false ⟨#[]⟩ 90 y y2 v W hv hp hpl (fun W => by
    rw [h1.2.1, h2.2.1]
    exact pick14 _ _ false false _ _ ⟨#[]⟩ ⟨#[]⟩ 90 W (fun W => lquo_zero A B W h1.2.2.1 h2.2.2.1 h0)) (by omega)).mono fun e w' h => came_just h)).mono fun e w' h => just_no h rfl
end Go.Proofs.YtlodbibagmblkaaGreatDoor
