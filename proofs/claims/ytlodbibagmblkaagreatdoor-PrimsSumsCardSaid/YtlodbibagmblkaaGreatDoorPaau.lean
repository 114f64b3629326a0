/- Products of large numbers: the contract of Mul (printed by gen_nmu.py). The primitive 9: products of whole numbers (printed by gen_cmu.py). Plain: the sizes of sums and products of numbers of at most 2000 digits; what PrimsSums asks of the primitives. -/
import Derived.Test.YtlodbibagmblkaaGreatDoorPaal
import Derived.Test.YtlodbibagmblkaaGreatDoorPaap
import Derived.Test.YtlodbibagmblkaaGreatDoorPaao
import Derived.Test.YtlodbibagmblkaaGreatDoorPaat
namespace Go.Proofs.YtlodbibagmblkaaGreatDoor
open Go.RowKit Go.Lib
theorem sg_mul (A B : Int) : sg (decide (A < 0) != decide (B < 0)) (A.natAbs * B.natAbs) = A * B := by
  have h : ((A.natAbs * B.natAbs : Nat) : Int) = (A.natAbs : Int) * (B.natAbs : Int) := by simp
  unfold sg
  by_cases h1 : A < 0 <;> by_cases h2 : B < 0
  · rw [decide_eq_true h1, decide_eq_true h2]
    simp only [bne_self_eq_false, Bool.false_eq_true, if_false]
    rw [h, show (A.natAbs : Int) = -A by omega, show (B.natAbs : Int) = -B by omega, Int.neg_mul_neg]
  · rw [decide_eq_true h1, decide_eq_false h2]
    simp only [show (true != false) = true from rfl, if_true]
    rw [h, show (A.natAbs : Int) = -A by omega, show (B.natAbs : Int) = B by omega, Int.neg_mul, Int.neg_neg]
  · rw [decide_eq_false h1, decide_eq_true h2]
    simp only [show (false != true) = true from rfl, if_true]
    rw [h, show (A.natAbs : Int) = A by omega, show (B.natAbs : Int) = -B by omega, Int.mul_neg, Int.neg_neg]
  · rw [decide_eq_false h1, decide_eq_false h2]
    simp only [bne_self_eq_false, Bool.false_eq_true, if_false]
    rw [h, show (A.natAbs : Int) = A by omega, show (B.natAbs : Int) = B by omega]
theorem mul_len {A B : Int} (hA : Pl.Big A) (hB : Pl.Big B) {V : Nat} {neg : Bool} (h : sg neg V = A * B) : (Pl.wd V).length ≤ 10000 := by
  have hV := sg_abs h
  rw [Int.natAbs_mul] at hV
  refine Nat.le_trans (Pl.wd_len_pow (k := 2048) ?_) (by decide)
  have h1 : V < 256 ^ 4096 * 256 ^ 4096 := by
    rw [hV]
    unfold Pl.Big at hA hB
    generalize 256 ^ 4096 = P at *
    exact Nat.mul_lt_mul'' hA hB
  have e := Pl.p32 2048
  rw [show 4 * 2048 = 4096 + 4096 from rfl, Nat.pow_add 256 4096 4096] at e
  rw [← e]
  exact h1
set_option maxRecDepth 4000 in
set_option maxHeartbeats 2000000 in
theorem lmul_any (A B : Int) (w : World) (hA : Pl.Big A) (hB : Pl.Big B) :
    Calls Tryz.prog 28 #[lof A, lof B] w (ToldV w (A * B)) := by
  have HTW := Lib.hid (fun W => ltwo_any A B W hA hB)
  have HNM : Hid (∀ W va vb, Rd W va (Pl.wd A.natAbs) → Rd W vb (Pl.wd B.natAbs) → Calls Tryz.prog 68 #[va, vb] W (NatOk W (A.natAbs * B.natAbs))) := Lib.hid (fun W va vb h1 h2 => by
    have := nmul_any va vb _ _ W h1 h2 (Nat.le_trans (Pl.wd_len _ hA) (by decide)) (Nat.le_trans (Pl.wd_len _ hB) (by decide)) (Pl.wd_ws _) (Pl.wd_ws _)
    rwa [Pl.wd_num, Pl.wd_num] at this)
  have HSG := Lib.hid (sg_mul A B)
  have HTD : Hid (∀ W v neg V, sg neg V = A * B → Rd W v (Pl.wd V) → Calls Tryz.prog 66 #[.agg #[v, .bool neg]] W (ToldV W (A * B))) := Lib.hid (fun W v neg V h1 h2 => ltold2_any v neg V _ W h1 h2 (mul_len hA hB h1))
  obtain ⟨na, hna⟩ : ∃ na, decide (A < 0) = na := ⟨_, rfl⟩
  obtain ⟨nb, hnb⟩ : ∃ nb, decide (B < 0) = nb := ⟨_, rfl⟩
  have ha : lof A = .agg #[.bool na, .string (bs (Pl.dgs A.natAbs))] := by unfold lof lv; rw [hna]
  have hb : lof B = .agg #[.bool nb, .string (bs (Pl.dgs B.natAbs))] := by unfold lof lv; rw [hnb]
  rw [ha] at HTW ⊢
  rw [hb] at HTW ⊢
  rw [hna] at HTW HSG
  rw [hnb] at HTW HSG
  generalize bs (Pl.dgs A.natAbs) = sa at *
  generalize bs (Pl.dgs B.natAbs) = sb at *
  generalize A.natAbs = U at *
  generalize B.natAbs = V at *
  obtain ⟨tf, ts, te, htv⟩ : ∃ f s e, toldv (A * B) = .tuple #[.agg #[.bool f, .string s], .int .i64 e] := by
    unfold toldv; split
    · exact ⟨_, _, _, rfl⟩
    · exact ⟨_, _, _, rfl⟩
  unfold ToldV at *
  rw [htv] at HTD ⊢
  generalize A * B = S at *
  clear ha hb hna hnb hA hB htv
  obtain ⟨W3, hW3⟩ : ∃ W3, ((w.alloc (.cells #[.bool na, .string sa] 43)).alloc (.cells #[.bool nb, .string sb] 43)).alloc (.cells #[.bool false, .string ⟨#[]⟩] 43) = W3 := ⟨_, rfl⟩
  have P0 : Hid (P2 W3 w.heap.size 43 (.bool na) (.string sa)) := Lib.hid (by rw [← hW3]; exact ((P2.new _ _ _ _).alloc _).alloc _)
  have P1 : Hid (P2 W3 (w.heap.size + 1) 43 (.bool nb) (.string sb)) := Lib.hid (by
    rw [← hW3]
    have := (P2.new (w.alloc (.cells #[.bool na, .string sa] 43)) 43 (.bool nb) (.string sb)).alloc (.cells #[.bool false, .string ⟨#[]⟩] 43)
    simpa using this)
  have R0 : Hid (P2 W3 (w.heap.size + 2) 43 (.bool false) (.string ⟨#[]⟩)) := Lib.hid (by
    rw [← hW3]
    have := P2.new ((w.alloc (.cells #[.bool na, .string sa] 43)).alloc (.cells #[.bool nb, .string sb] 43)) 43 (.bool false) (.string ⟨#[]⟩)
    simpa using this)
  have HB3 : Hid (Below w.heap.size w W3) := Lib.hid (by rw [← hW3]; exact (((Below.refl _ _).alloc (Nat.le_refl _) _).alloc (by simp) _).alloc (by simp; omega) _)
  have hs3 : w.heap.size + 3 ≤ W3.heap.size := by rw [← hW3]; simp
  obtain ⟨p0, p1, _, _⟩ := P0.out.cells
  obtain ⟨q0, q1, _, _⟩ := P1.out.cells
  go_enter Tryz.func28, Tryz.ntmps28
  go_wp2_with fail
  refine (HTW.out _).mono ?_
  rintro e w4 ⟨va, vb, rfl, hra, hrb, hb4⟩
  obtain ⟨aa, ac, rfl⟩ := hra.form
  obtain ⟨ba, bc, rfl⟩ := hrb.form
  generalize (Pl.wd U).length = lu at *
  generalize (Pl.wd V).length = lv' at *
  obtain ⟨W5, hW5⟩ : ∃ W5, (w4.alloc (.cells #[.slice aa lu ac, .bool na] 92)).alloc (.cells #[.slice ba lv' bc, .bool nb] 92) = W5 := ⟨_, rfl⟩
  have hb5 : Below w4.heap.size w4 W5 := by rw [← hW5]; exact ((Below.refl _ _).alloc (Nat.le_refl _) _).alloc (by simp) _
  have hs4 : w.heap.size + 3 ≤ w4.heap.size := Nat.le_trans hs3 hb4.size
  have HB5 := Lib.hid (chain (chain HB3.out hb4 (by omega)) hb5 (by omega))
  have R5 := Lib.hid ((R0.out.below hb4).below hb5)
  have RA := Lib.hid (hra.below hb5)
  have RB := Lib.hid (hrb.below hb5)
  have PA : Hid (P2 W5 w4.heap.size 92 (.slice aa lu ac) (.bool na)) := Lib.hid (by rw [← hW5]; exact (P2.new _ _ _ _).alloc _)
  have PB : Hid (P2 W5 (w4.heap.size + 1) 92 (.slice ba lv' bc) (.bool nb)) := Lib.hid (by
    rw [← hW5]
    have := P2.new (w4.alloc (.cells #[.slice aa lu ac, .bool na] 92)) 92 (.slice ba lv' bc) (.bool nb)
    simpa using this)
  have hs5 : w.heap.size + 3 ≤ W5.heap.size := Nat.le_trans hs4 hb5.size
  clear p0 p1 q0 q1 P0 P1 R0 HB3 hs3 hb4 hra hrb hW3 hb5
  obtain ⟨p0, p1, _, _⟩ := PA.out.cells
  obtain ⟨q0, q1, _, _⟩ := PB.out.cells
  go_wp2_with fail
  have BD := Lib.hid (show Below W5.heap.size W5 W5.drew from (Below.refl _ W5).drew)
  have HS : Hid (∀ W, Below W5.heap.size W5 W → W.cell? ⟨w4.heap.size, 0, none⟩ = some (.slice aa lu ac) ∧ W.cell? ⟨w4.heap.size, 1, none⟩ = some (.bool na) ∧ W.cell? ⟨w4.heap.size + 1, 0, none⟩ = some (.slice ba lv' bc) ∧ W.cell? ⟨w4.heap.size + 1, 1, none⟩ = some (.bool nb)) := Lib.hid (fun W hb => by
    obtain ⟨p0, p1, _, _⟩ := (PA.out.below hb).cells
    obtain ⟨q0, q1, _, _⟩ := (PB.out.below hb).cells
    exact ⟨p0, p1, q0, q1⟩)
  obtain ⟨nn, hnn⟩ : ∃ nn, (na != nb) = nn := ⟨_, rfl⟩
  have hnn2 : (!(na == nb)) = nn := hnn
  rw [hnn] at HSG
  have HMU := Lib.hid (HNM.out W5.drew _ _ (RA.out.below BD.out) (RB.out.below BD.out))
  have hwr := PA.out.lt
  have hwq := PB.out.lt
  have hne1 : w.heap.size + 2 < W5.heap.size := by omega
  have HS2 : Hid (∀ W, Below W5.heap.size W5 W → ∀ u v, ((W.setCell ⟨w.heap.size + 2, 0, none⟩ u).setCell ⟨w.heap.size + 2, 1, none⟩ v).cell? ⟨w4.heap.size, 0, none⟩ = some (.slice aa lu ac) ∧ ((W.setCell ⟨w.heap.size + 2, 0, none⟩ u).setCell ⟨w.heap.size + 2, 1, none⟩ v).cell? ⟨w4.heap.size, 1, none⟩ = some (.bool na) ∧ ((W.setCell ⟨w.heap.size + 2, 0, none⟩ u).setCell ⟨w.heap.size + 2, 1, none⟩ v).cell? ⟨w4.heap.size + 1, 0, none⟩ = some (.slice ba lv' bc) ∧ ((W.setCell ⟨w.heap.size + 2, 0, none⟩ u).setCell ⟨w.heap.size + 2, 1, none⟩ v).cell? ⟨w4.heap.size + 1, 1, none⟩ = some (.bool nb)) := Lib.hid (fun W hb u v => by
    obtain ⟨h1, h2, h3, h4⟩ := HS.out W hb
    refine ⟨?_, ?_, ?_, ?_⟩
    all_goals
      rw [World.cell?_setCell_other _ _ _ _ (by intro z; injection z with z; omega), World.cell?_setCell_other _ _ _ _ (by intro z; injection z with z; omega)]
      assumption)
  go_region_held3 (fun W => W.cell? ⟨w4.heap.size, 0, none⟩ = some (.slice aa lu ac) ∧ W.cell? ⟨w4.heap.size, 1, none⟩ = some (.bool na) ∧ W.cell? ⟨w4.heap.size + 1, 0, none⟩ = some (.slice ba lv' bc) ∧ W.cell? ⟨w4.heap.size + 1, 1, none⟩ = some (.bool nb)) (first | with_reducible exact ⟨p0, p1, q0, q1⟩ | with_reducible exact HS.out _ BD.out | with_reducible exact HS.out _ hb6 | with_reducible exact HS.out _ hb8 | with_reducible exact HS2.out _ hb8 _ _) (first
    | (go_at_call 66; (with_reducible refine (HTD.out _ _ _ _ HSG.out hr6).mono ?_); rintro e w8 ⟨rfl, hb8d⟩; have hb8 : Below W5.heap.size W5 w8 := hb6.trans (hb8d.mono hb6.size); have R8 := R5.out.below hb8; obtain ⟨r0, r1, f0, f1⟩ := R8.cells; clear hb8d)
    | (go_at_call 68; (with_reducible refine (HMU.out).mono ?_); rintro e w6 ⟨v6, rfl, hr6, hb6d⟩; have hb6 : Below W5.heap.size W5 w6 := BD.out.trans hb6d; obtain ⟨a6, c6, rfl⟩ := hr6.form; clear hb6d))
  all_goals
    have HB8 := Lib.hid (chain HB5.out hb8 (by omega))
    have hfin := R8.set (.bool tf) (.string ts)
    obtain ⟨k0, k1, _, _⟩ := hfin.cells
    go_wp2_with fail
    refine bodyPost_ret (v := .tuple #[.agg #[.bool tf, .string ts], .int .i64 te]) (by simp [results, Tryz.results28, go_sem, k0, k1]) rfl ⟨rfl, below_set2 HB8.out (by omega) _ _⟩
end Go.Proofs.YtlodbibagmblkaaGreatDoor
namespace Go.Proofs.YtlodbibagmblkaaGreatDoor
open Go Go.RowKit Go.Lib
set_option maxRecDepth 4000 in
set_option maxHeartbeats 4000000 in
theorem cl_mul (p : Nat) (R : Int) (x y : PV) (v : Value) (w : World) (h : VRow w v [x, y]) (hp : w.cell? ⟨p, 0, none⟩ = some (.func (.func 28) #[] #[])) (hpl : p < w.heap.size)
    (HF : ∀ W, Calls Tryz.prog 28 #[.agg #[.bool x.g, .string x.s], .agg #[.bool y.g, .string y.s]] W fun e w' => e = .returned (.tuple #[lof R, .int .i64 0]) ∧ Below W.heap.size W w') (hR : Pl.Big R) :
    Calls Tryz.prog 24 #[v, .pointer (some ⟨p, 0, none⟩)] w (WhoOk w R) := by
  have HWH := Lib.hid (fun W => whole_any R W hR)
  obtain ⟨rg, rs, hr⟩ : ∃ g S, lof R = .agg #[.bool g, .string S] := ⟨_, _, rfl⟩
  rw [hr] at HWH
  have HFF := Lib.hid HF
  simp only [hr] at HFF
  clear HF hR hr
  unfold WhoOk LitOk litv at *
  obtain ⟨W1, hW1⟩ : ∃ W1, w.alloc (.cells #[.int .u8 0, .int .i64 0, .int .u64 0, .string ⟨#[]⟩, .slice none 0 0] 26) = W1 := ⟨_, rfl⟩
  have HP : Hid (P5 W1 w.heap.size (.int .u8 0) (.int .i64 0) (.int .u64 0) (.string ⟨#[]⟩) (.slice none 0 0)) := Lib.hid (by rw [← hW1]; exact P5.new _ _ _ _ _ _)
  have HB : Hid (Below w.heap.size w W1) := Lib.hid (by rw [← hW1]; exact (Below.refl _ _).alloc (Nat.le_refl _) _)
  have hs1 : w.heap.size + 1 ≤ W1.heap.size := by rw [← hW1]; simp
  obtain ⟨gv, cv, rfl, hg0, hc0⟩ := h
  have hx5 : W1.cell? ⟨gv, 5, none⟩ = some (.bool x.g) := by rw [HB.out.cell (p := ⟨gv, 5, none⟩) hg0]; exact hc0 0 x rfl 5 _ rfl
  have hx6 : W1.cell? ⟨gv, 6, none⟩ = some (.string x.s) := by rw [HB.out.cell (p := ⟨gv, 6, none⟩) hg0]; exact hc0 0 x rfl 6 _ rfl
  have hy5 : W1.cell? ⟨gv, 12, none⟩ = some (.bool y.g) := by rw [HB.out.cell (p := ⟨gv, 12, none⟩) hg0]; exact hc0 1 y rfl 5 _ rfl
  have hy6 : W1.cell? ⟨gv, 13, none⟩ = some (.string y.s) := by rw [HB.out.cell (p := ⟨gv, 13, none⟩) hg0]; exact hc0 1 y rfl 6 _ rfl
  have hp1 : W1.cell? ⟨p, 0, none⟩ = some (.func (.func 28) #[] #[]) := by rw [HB.out.cell (p := ⟨p, 0, none⟩) hpl]; exact hp
  simp only [List.length_cons, List.length_nil] at *
  clear hc0 hp
  have HS : Hid (∀ W, Below W1.heap.size W1 W → W.cell? ⟨p, 0, none⟩ = some (.func (.func 28) #[] #[]) ∧ W.cell? ⟨gv, 5, none⟩ = some (.bool x.g) ∧ W.cell? ⟨gv, 6, none⟩ = some (.string x.s) ∧ W.cell? ⟨gv, 12, none⟩ = some (.bool y.g) ∧ W.cell? ⟨gv, 13, none⟩ = some (.string y.s)) := Lib.hid (fun W hb => ⟨by rw [hb.cell (p := ⟨p, 0, none⟩) (by show p < _; omega)]; exact hp1, by rw [hb.cell (p := ⟨gv, 5, none⟩) (by show gv < _; omega)]; exact hx5, by rw [hb.cell (p := ⟨gv, 6, none⟩) (by show gv < _; omega)]; exact hx6, by rw [hb.cell (p := ⟨gv, 12, none⟩) (by show gv < _; omega)]; exact hy5, by rw [hb.cell (p := ⟨gv, 13, none⟩) (by show gv < _; omega)]; exact hy6⟩)
  have cellset : ∀ (W : World) (q i : Nat) (u a b c d e : Value), q < w.heap.size → W.cell? ⟨q, i, none⟩ = some u → (set5 W w.heap.size a b c d e).cell? ⟨q, i, none⟩ = some u := fun W q i u a b c d e hq hu => by
    unfold set5
    rw [World.cell?_setCell_other _ _ _ _ (by intro z; injection z with z; omega), World.cell?_setCell_other _ _ _ _ (by intro z; injection z with z; omega), World.cell?_setCell_other _ _ _ _ (by intro z; injection z with z; omega), World.cell?_setCell_other _ _ _ _ (by intro z; injection z with z; omega), World.cell?_setCell_other _ _ _ _ (by intro z; injection z with z; omega)]
    exact hu
  have HS5 : Hid (∀ W, Below W1.heap.size W1 W → ∀ a b c d e, (set5 W w.heap.size a b c d e).cell? ⟨p, 0, none⟩ = some (.func (.func 28) #[] #[]) ∧ (set5 W w.heap.size a b c d e).cell? ⟨gv, 5, none⟩ = some (.bool x.g) ∧ (set5 W w.heap.size a b c d e).cell? ⟨gv, 6, none⟩ = some (.string x.s) ∧ (set5 W w.heap.size a b c d e).cell? ⟨gv, 12, none⟩ = some (.bool y.g) ∧ (set5 W w.heap.size a b c d e).cell? ⟨gv, 13, none⟩ = some (.string y.s)) := Lib.hid (fun W hb a b c d e => ⟨cellset W p 0 _ a b c d e hpl (HS.out W hb).1, cellset W gv 5 _ a b c d e hg0 (HS.out W hb).2.1, cellset W gv 6 _ a b c d e hg0 (HS.out W hb).2.2.1, cellset W gv 12 _ a b c d e hg0 (HS.out W hb).2.2.2.1, cellset W gv 13 _ a b c d e hg0 (HS.out W hb).2.2.2.2⟩)
  have BD := Lib.hid (show Below W1.heap.size W1 W1.drew from (Below.refl _ W1).drew)
  clear cellset
  unfold set5 at HS5
  obtain ⟨c0, c1, c2, c3, c4, f0, f1, f2, f3, f4⟩ := HP.out.cells
  go_enter Tryz.func24, Tryz.ntmps24
  go_wp2_with fail
  go_region_held3 (fun W => W.cell? ⟨p, 0, none⟩ = some (.func (.func 28) #[] #[]) ∧ W.cell? ⟨gv, 5, none⟩ = some (.bool x.g) ∧ W.cell? ⟨gv, 6, none⟩ = some (.string x.s) ∧ W.cell? ⟨gv, 12, none⟩ = some (.bool y.g) ∧ W.cell? ⟨gv, 13, none⟩ = some (.string y.s)) (first | with_reducible exact ⟨hp1, hx5, hx6, hy5, hy6⟩ | with_reducible exact HS.out _ BD.out | with_reducible exact HS.out _ hb4 | with_reducible exact HS.out _ hb54 | with_reducible exact HS5.out _ hb54 _ _ _ _ _) (first
    | (go_at_call 25; (with_reducible refine (HWH.out _).mono ?_); rintro e w5 ⟨rk, rn, rt, hil, rfl, hb5⟩; have HIL := Lib.hid hil; obtain ⟨rT, hrT⟩ : ∃ rT, bs rt = rT := ⟨_, rfl⟩; have HRT := Lib.hid hrT; rw [hrT]; clear hil hrT; have hb54 : Below W1.heap.size W1 w5 := hb4.trans (hb5.mono hb4.size); have HP5 := Lib.hid (HP.out.below hb54); obtain ⟨d0, d1, d2, d3, d4, e0, e1, e2, e3, e4⟩ := HP5.out.cells)
    | (go_at_call 28; (with_reducible refine (HFF.out _).mono ?_); rintro e w4 ⟨rfl, hb4d⟩; have hb4 : Below W1.heap.size W1 w4 := BD.out.trans hb4d; clear hb4d))
  all_goals
    have HB5 := Lib.hid (HB.out.trans (hb54.mono (by omega)))
    obtain ⟨k0, k1, k2, k3, k4, _, _, _, _, _⟩ := (HP5.out.set (.int .u8 rk) (.int .i64 rn) (.int .u64 0) (.string rT) (.slice none 0 0)).cells
    go_wp2_with fail
    exact bodyPost_ret (v := .tuple #[.agg #[.int .u8 rk, .int .i64 rn, .int .u64 0, .string rT, .slice none 0 0], .bool true]) (by simp [results, Tryz.results24, go_sem, k0, k1, k2, k3, k4]) rfl ⟨rk, rn, rt, HIL.out, by rw [HRT.out]; exact ⟨rfl, below_set5 HB5.out (Nat.le_refl _) _ _ _ _ _⟩⟩
theorem do9 (x x2 : PT) (y y2 : PV) (A B : Int) (av : Value) (w : World) (h1 : ArgI x y A) (h2 : ArgI x2 y2 B) (hR : Pl.Big (A * B)) (h : TRow w av [x, x2]) : Calls Tryz.prog 11 #[.int .i64 9, av] w (Came w (IntP (A * B))) :=
  (do_two 9 28 (IntP (A * B)) x x2 y y2 A B av w (by omega) (fun w L h => h.i9) h1 h2 h (fun W v p hv hp hpl => (cl_mul p (A * B) y y2 v W hv hp hpl (fun W => by
    rw [h1.2.1, h2.2.1]
    refine (lmul_any A B W h1.2.2.1 h2.2.2.1).mono ?_
    rintro e w' ⟨rfl, hb⟩
    exact ⟨by rw [toldv_big hR], hb⟩) hR).mono fun e w' h => who_came h)).mono fun e w' h => fin_int h
end Go.Proofs.YtlodbibagmblkaaGreatDoor
namespace Go.Proofs.YtlodbibagmblkaaGreatDoor
open Go Go.RowKit Go.Lib
namespace Pl
/-- of at most 2000 digits -/
def Half (n : Int) : Prop := n.natAbs < 256 ^ 1000
theorem pow_ten {k m : Nat} (h : k ≤ 2 * m) : 10 ^ k ≤ 256 ^ m := by
  refine Nat.le_trans (Nat.pow_le_pow_left (show 10 ≤ 16 by decide) k) ?_
  refine Nat.le_trans (Nat.pow_le_pow_right (by decide) h) ?_
  rw [Nat.pow_mul]
  exact Nat.le_refl _
theorem canT_lt {s : List UInt8} {V m : Nat} (h : CanT 10 s V) (hl : s.length ≤ 2 * m) : V < 256 ^ m := by
  have h1 := valB_lt (s.map dg) h.lt
  rw [h.val, List.length_map] at h1
  exact Nat.lt_of_lt_of_le h1 (pow_ten hl)
theorem intT_half {s : List UInt8} {n : Int} {m : Nat} (h : IntT 10 s n) (hl : s.length ≤ 2 * m) : n.natAbs < 256 ^ m := by
  unfold IntT at h
  split at h
  · obtain ⟨t, rfl, ht⟩ := h
    exact canT_lt ht (by simp at hl; omega)
  · exact canT_lt h hl
theorem sum_lt {a b k j : Nat} (ha : a < 256 ^ k) (hb : b < 256 ^ k) (h : k < j) : a + b < 256 ^ j := by
  have h1 : 256 ^ (k + 1) ≤ 256 ^ j := Nat.pow_le_pow_right (by decide) h
  rw [Nat.pow_succ] at h1
  omega
theorem mul_lt {a b k j : Nat} (ha : a < 256 ^ k) (hb : b < 256 ^ k) (h : k + k ≤ j) : a * b < 256 ^ j := by
  refine Nat.lt_of_lt_of_le (Nat.mul_lt_mul'' ha hb) ?_
  rw [← Nat.pow_add]
  exact Nat.pow_le_pow_right (by decide) h
theorem Half.sum {a b n : Int} (ha : Half a) (hb : Half b) (h : n.natAbs ≤ a.natAbs + b.natAbs) : Big n :=
  Nat.lt_of_le_of_lt h (sum_lt (k := 1000) (j := 4096) ha hb (by decide))
theorem Half.mul {a b : Int} (ha : Half a) (hb : Half b) : Big (a * b) := by
  unfold Big
  rw [Int.natAbs_mul]
  exact mul_lt (k := 1000) (j := 4096) ha hb (by decide)
theorem Half.big {a : Int} (h : Half a) : Big a := lt_p (a := 1000) (b := 4096) h (by decide)
theorem fits_half {n : Int} (h : FitsI n) : Half n := by
  unfold FitsI at h
  exact lt_p (V := n.natAbs) (a := 8) (b := 1000) (by rw [show (256 : Nat) ^ 8 = 18446744073709551616 from rfl]; omega) (by decide)
end Pl
theorem isI_half {k n b : Int} {l : List UInt8} {len : Nat} {A : Int} (h : IsI k n b l len A) (hl : l.length ≤ 2000) : Pl.Half A := by
  obtain ⟨_, _, h⟩ := h
  rcases h with ⟨_, _, _, hf⟩ | ⟨_, _, hA, _, _⟩
  · exact Pl.fits_half hf
  · exact Pl.intT_half (m := 1000) hA hl
/-- what comes out is a whole number again -/
theorem isI_lit {R k n : Int} {s : List UInt8} (h : IntLit R k n s) (hR : Pl.Big R) : IsI k n 0 s 0 R ∧ s.length ≤ 300000 := by
  rcases h with ⟨h1, rfl, rfl, rfl⟩ | ⟨h1, rfl, rfl, h2, h3⟩
  · exact ⟨⟨rfl, rfl, .inl ⟨rfl, rfl, rfl, h1⟩⟩, by simp⟩
  · exact ⟨⟨rfl, rfl, .inr ⟨rfl, rfl, h2, hR, h1⟩⟩, by omega⟩
/-- a whole number as the law's do takes it -/
structure IntV (x : Value) (A : Int) : Prop where
  ex : ∃ k n b l a c, x = litv k n b (bs l) (.slice a 0 c) ∧ IsI k n b l 0 A ∧ l.length ≤ 300000
  big : Pl.Big A
theorem intV_lit {R k n : Int} {s : List UInt8} (h : IntLit R k n s) (hR : Pl.Big R) : IntV (litv k n 0 (bs s) (.slice none 0 0)) R :=
  ⟨⟨k, n, 0, s, none, 0, rfl, (isI_lit h hR).1, (isI_lit h hR).2⟩, hR⟩
theorem IntV.do {x y : Value} {A B : Int} (hx : IntV x A) (hy : IntV y B) (n : Int) (P : Int → Int → Int → ByteArray → Bool → Prop)
    (hd : ∀ (x x2 : PT) (y y2 : PV) (av : Value) (w : World), ArgI x y A → ArgI x2 y2 B → TRow w av [x, x2] → Calls Tryz.prog 11 #[.int .i64 n, av] w (Came w P)) (w : World) :
    Calls Tryz.prog 9 #[.int .i64 n, x, y] w (Came w P) := by
  obtain ⟨⟨k, m, b, l, a, c, rfl, hi, hl⟩, _⟩ := hx
  obtain ⟨⟨k', m', b', l', a', c', rfl, hi', hl'⟩, _⟩ := hy
  obtain ⟨y1, E1⟩ := argI_of (ia := a) (ic := c) hi hl
  obtain ⟨y2, E2⟩ := argI_of (ia := a') (ic := c') hi' hl'
  exact ldo_any n ⟨k, m, b, bs l, .slice a 0 c⟩ ⟨k', m', b', bs l', .slice a' 0 c'⟩ a a' 0 0 c c' P w rfl rfl (fun W av h => hd _ _ _ _ av W E1 E2 h)
theorem IntV.same {x y : Value} {A B : Int} (hx : IntV x A) (hy : IntV y B) (h : A = B) (w : World) :
    Calls Tryz.prog 10 #[x, y] w fun e w' => e = .returned (.bool true) ∧ Below w.heap.size w w' := by
  obtain ⟨⟨k, m, b, l, a, c, rfl, hi, hl⟩, _⟩ := hx
  obtain ⟨⟨k', m', b', l', a', c', rfl, hi', hl'⟩, _⟩ := hy
  have := slf_any k m b k' m' b' (bs l) (bs l') a a' c c' w
  rw [decide_eq_decide.2 (isI_same hi hi'), decide_eq_true h] at this
  exact this
/-- what the law's walk asks of two whole numbers -/
structure SumsC (x y : Value) (A B : Int) : Prop where
  ab : ∀ W, Calls Tryz.prog 9 #[.int .i64 1, x, y] W (Came W (IntP (A + B)))
  ba : ∀ W, Calls Tryz.prog 9 #[.int .i64 1, y, x] W (Came W (IntP (B + A)))
  back : ∀ k n s, IntLit (A + B) k n s → ∀ W, Calls Tryz.prog 9 #[.int .i64 2, litv k n 0 (bs s) (.slice none 0 0), y] W (Came W (IntP A))
  m : ∀ W, Calls Tryz.prog 9 #[.int .i64 9, x, y] W (Came W (IntP (A * B)))
  k : ∀ W, Calls Tryz.prog 9 #[.int .i64 9, y, x] W (Came W (IntP (B * A)))
  sameA : ∀ k n s, IntLit A k n s → ∀ W, Calls Tryz.prog 10 #[litv k n 0 (bs s) (.slice none 0 0), x] W fun e w' => e = .returned (.bool true) ∧ Below W.heap.size W w'
  sameS : ∀ k n s k' n' s', IntLit (A + B) k n s → IntLit (B + A) k' n' s' → ∀ W, Calls Tryz.prog 10 #[litv k n 0 (bs s) (.slice none 0 0), litv k' n' 0 (bs s') (.slice none 0 0)] W fun e w' => e = .returned (.bool true) ∧ Below W.heap.size W w'
  sameM : ∀ k n s k' n' s', IntLit (A * B) k n s → IntLit (B * A) k' n' s' → ∀ W, Calls Tryz.prog 10 #[litv k n 0 (bs s) (.slice none 0 0), litv k' n' 0 (bs s') (.slice none 0 0)] W fun e w' => e = .returned (.bool true) ∧ Below W.heap.size W w'
  zero : B = 0 → ∀ n : Int, 11 ≤ n → n ≤ 14 → ∀ W, Calls Tryz.prog 9 #[.int .i64 n, x, y] W (Came W (Just 0 0 ⟨#[]⟩ false))
  quo : B ≠ 0 → ∀ p q : Int, (p = 12 ∧ q = 11) ∨ (p = 13 ∧ q = 14) → ∃ Q R, (∀ W, Calls Tryz.prog 9 #[.int .i64 p, x, y] W (Came W (IntP Q))) ∧ (∀ W, Calls Tryz.prog 9 #[.int .i64 q, x, y] W (Came W (IntP R))) ∧
    (∀ k n s, IntLit Q k n s → ∀ W, Calls Tryz.prog 9 #[.int .i64 9, litv k n 0 (bs s) (.slice none 0 0), y] W (Came W (IntP (Q * B)))) ∧
    (∀ k n s k' n' s', IntLit (Q * B) k n s → IntLit R k' n' s' → ∀ W, Calls Tryz.prog 9 #[.int .i64 1, litv k n 0 (bs s) (.slice none 0 0), litv k' n' 0 (bs s') (.slice none 0 0)] W (Came W (IntP A)))
theorem sums_quo {y : Value} {A B Q R : Int} (hy : IntV y B) (hA : Pl.Half A) (hB : Pl.Half B) (hQ : Pl.Big Q) (hR : Pl.Big R) (hRB : R.natAbs ≤ B.natAbs) (he : Q * B + R = A) :
    (∀ k n s, IntLit Q k n s → ∀ W, Calls Tryz.prog 9 #[.int .i64 9, litv k n 0 (bs s) (.slice none 0 0), y] W (Came W (IntP (Q * B)))) ∧
    (∀ k n s k' n' s', IntLit (Q * B) k n s → IntLit R k' n' s' → ∀ W, Calls Tryz.prog 9 #[.int .i64 1, litv k n 0 (bs s) (.slice none 0 0), litv k' n' 0 (bs s') (.slice none 0 0)] W (Came W (IntP A))) := by
  have hQB : Pl.Big (Q * B) := hA.sum hB (by omega)
  refine ⟨fun k n s h W => ?_, fun k n s k' n' s' h h' W => ?_⟩
  · exact (intV_lit h hQ).do hy 9 _ (fun x x2 y y2 av w h1 h2 h => do9 x x2 y y2 Q B av w h1 h2 hQB h) W
  · rw [← he]
    exact (intV_lit h hQB).do (intV_lit h' hR) 1 _ (fun x x2 y y2 av w h1 h2 h => do1 x x2 y y2 (Q * B) R av w h1 h2 (by rw [he]; exact hA.big) h) W
theorem sums_of {x y : Value} {A B : Int} (hx : IntV x A) (hy : IntV y B) (hA : Pl.Half A) (hB : Pl.Half B) : SumsC x y A B := by
  have hS : Pl.Big (A + B) := hA.sum hB (by omega)
  have hS2 : Pl.Big (B + A) := hA.sum hB (by omega)
  have hM : Pl.Big (A * B) := hA.mul hB
  have hM2 : Pl.Big (B * A) := hB.mul hA
  refine ⟨fun W => ?_, fun W => ?_, fun k n s h W => ?_, fun W => ?_, fun W => ?_, fun k n s h W => ?_, fun k n s k' n' s' h h' W => ?_, fun k n s k' n' s' h h' W => ?_, fun h0 n hn1 hn2 W => ?_, fun h0 p q hpq => ?_⟩
  · exact hx.do hy 1 _ (fun x x2 y y2 av w h1 h2 h => do1 x x2 y y2 A B av w h1 h2 hS h) W
  · exact hy.do hx 1 _ (fun x x2 y y2 av w h1 h2 h => do1 x x2 y y2 B A av w h1 h2 hS2 h) W
  · have he : A + B - B = A := by omega
    have := (intV_lit h hS).do hy 2 _ (fun x x2 y y2 av w h1 h2 h => do2 x x2 y y2 (A + B) B av w h1 h2 (by rw [he]; exact hA.big) h) W
    rwa [he] at this
  · exact hx.do hy 9 _ (fun x x2 y y2 av w h1 h2 h => do9 x x2 y y2 A B av w h1 h2 hM h) W
  · exact hy.do hx 9 _ (fun x x2 y y2 av w h1 h2 h => do9 x x2 y y2 B A av w h1 h2 hM2 h) W
  · exact (intV_lit h hA.big).same hx rfl W
  · exact (intV_lit h hS).same (intV_lit h' hS2) (by omega) W
  · exact (intV_lit h hM).same (intV_lit h' hM2) (Int.mul_comm A B) W
  · have hn : n = 11 ∨ n = 12 ∨ n = 13 ∨ n = 14 := by omega
    rcases hn with rfl | rfl | rfl | rfl
    · exact hx.do hy 11 _ (fun x x2 y y2 av w h1 h2 h => do11_zero x x2 y y2 A B av w h1 h2 h0 h) W
    · exact hx.do hy 12 _ (fun x x2 y y2 av w h1 h2 h => do12_zero x x2 y y2 A B av w h1 h2 h0 h) W
    · exact hx.do hy 13 _ (fun x x2 y y2 av w h1 h2 h => do13_zero x x2 y y2 A B av w h1 h2 h0 h) W
    · exact hx.do hy 14 _ (fun x x2 y y2 av w h1 h2 h => do14_zero x x2 y y2 A B av w h1 h2 h0 h) W
  · have ht : (A.tmod B).natAbs ≤ B.natAbs := by
      rw [Int.natAbs_tmod]
      exact Nat.le_of_lt (Nat.mod_lt _ (by omega))
    have hf : (Pl.fr A B).natAbs ≤ B.natAbs ∧ (Pl.fq A B).natAbs ≤ A.natAbs := by
      unfold Pl.fr Pl.fq
      by_cases h : Pl.mends A B
      · rw [if_pos h, if_pos h]
        have := Pl.mends_facts h h0
        exact ⟨this.2, this.1⟩
      · rw [if_neg h, if_neg h]
        exact ⟨ht, by rw [Int.natAbs_tdiv]; exact Nat.div_le_self _ _⟩
    rcases hpq with ⟨rfl, rfl⟩ | ⟨rfl, rfl⟩
    · have hQ : Pl.Big (Pl.fq A B) := hA.big.le hf.2
      have hR : Pl.Big (Pl.fr A B) := hB.big.le hf.1
      obtain ⟨h1, h2⟩ := sums_quo hy hA hB hQ hR hf.1 (Pl.fq_fr A B)
      exact ⟨_, _, hx.do hy 12 _ (fun x x2 y y2 av w h1 h2 h => do12 x x2 y y2 A B av w h1 h2 h0 hQ h), hx.do hy 11 _ (fun x x2 y y2 av w h1 h2 h => do11 x x2 y y2 A B av w h1 h2 h0 hR h), h1, h2⟩
    · have hQ : Pl.Big (A.tdiv B) := hA.big.tdiv
      have hR : Pl.Big (A.tmod B) := hA.big.tmod
      obtain ⟨h1, h2⟩ := sums_quo hy hA hB hQ hR ht (Pl.tq_tr A B)
      exact ⟨_, _, hx.do hy 13 _ (fun x x2 y y2 av w h1 h2 h => do13 x x2 y y2 A B av w h1 h2 h0 hQ h), hx.do hy 14 _ (fun x x2 y y2 av w h1 h2 h => do14 x x2 y y2 A B av w h1 h2 h0 hR h), h1, h2⟩
end Go.Proofs.YtlodbibagmblkaaGreatDoor
