/- The table of all primitives: the contract of table (printed by gen_tbl.py). What the primitives of two integers do: the closure table$1$1 (printed by gen_cli.py). What the primitives of strings do: the closures 61, 68 (printed by gen_cls.py). -/
import Derived.Test.YtlodbibagmblkaaGreatDoorPaai
import Derived.Test.YtlodbibagmblkaaGreatDoorPaah
namespace Go.Proofs.YtlodbibagmblkaaGreatDoor
open Go Go.RowKit Go.Lib
theorem lk_append (A B : List (Int × Value)) (k : Int) : lk (A ++ B) k = match lk A k with | some v => some v | none => lk B k := by
  induction A with
  | nil => rfl
  | cons p A ih =>
    rw [List.cons_append, lk, lk]
    split
    · rfl
    · exact ih
theorem lk_none {A : List (Int × Value)} {k : Int} (h : ∀ x ∈ A, x.1 ≠ k) : lk A k = none := by
  induction A with
  | nil => rfl
  | cons p A ih =>
    rw [lk, if_neg (h p (by simp))]
    exact ih (fun x hx => h x (List.mem_cons_of_mem _ hx))
theorem lk_skip {A B : List (Int × Value)} {k : Int} (h : ∀ x ∈ A, x.1 ≠ k) : lk (A ++ B) k = lk B k := by rw [lk_append, lk_none h]
theorem lk_hit (k : Int) (v : Value) (L : List (Int × Value)) : lk ((k, v) :: L) k = some v := by simp [lk]
theorem lk_miss {j k : Int} (v : Value) (L : List (Int × Value)) (h : j ≠ k) : lk ((j, v) :: L) k = lk L k := by rw [lk, if_neg h]
/-- a primitive of two integers by a function -/
def InsAt (w : World) (L : List (Int × Value)) (n : Int) (f : Nat) : Prop := ∃ p, lk L n = some (insv p) ∧ w.cell? ⟨p, 0, none⟩ = some (.func (.func f) #[] #[]) ∧ p < w.heap.size
theorem InsAt.below {w w' : World} {L : List (Int × Value)} {n : Int} {f : Nat} (h : InsAt w L n f) (hb : Below w.heap.size w w') : InsAt w' L n f := by
  obtain ⟨p, h1, h2, h3⟩ := h
  exact ⟨p, h1, by rw [hb.cell (p := ⟨p, 0, none⟩) h3]; exact h2, Nat.lt_of_lt_of_le h3 hb.size⟩
structure TabOk (w : World) (L : List (Int × Value)) : Prop where
  i1 : InsAt w L 1 26
  i2 : InsAt w L 2 27
  i9 : InsAt w L 9 28
  i10 : InsAt w L 10 29
  i11 : InsAt w L 11 31
  i12 : InsAt w L 12 32
  i13 : InsAt w L 13 33
  i14 : InsAt w L 14 35
  i15 : InsAt w L 15 36
  i16 : InsAt w L 16 37
  i17 : InsAt w L 17 38
  i19 : InsAt w L 19 39
  tx : ∀ k v, lk textsL k = some v → lk L k = some v
  no : lk L 0 = none
  or : OrdAt w L 0 ⟨#[73, 73]⟩ 76 41 42
theorem OrdAt.below {w w' : World} {L : List (Int × Value)} {fr : Int} {s : ByteArray} {fc fg fb : Nat} (h : OrdAt w L fr s fc fg fb) (hb : Below w.heap.size w w') : OrdAt w' L fr s fc fg fb := by
  obtain ⟨pb, pg, h1, h2, h3, h4, h5⟩ := h
  refine ⟨pb, pg, by rw [hb.cell (p := ⟨pb, 0, none⟩) h3]; exact h1, by rw [hb.cell (p := ⟨pg, 0, none⟩) h4]; exact h2, Nat.lt_of_lt_of_le h3 hb.size, Nat.lt_of_lt_of_le h4 hb.size, fun how e1 e2 => ?_⟩
  obtain ⟨p, p1, p2, p3⟩ := h5 how e1 e2
  exact ⟨p, p1, by rw [hb.cell (p := ⟨p, 0, none⟩) p3]; exact p2, Nat.lt_of_lt_of_le p3 hb.size⟩
theorem TabOk.below {w w' : World} {L : List (Int × Value)} (h : TabOk w L) (hb : Below w.heap.size w w') : TabOk w' L :=
  ⟨h.i1.below hb, h.i2.below hb, h.i9.below hb, h.i10.below hb, h.i11.below hb, h.i12.below hb, h.i13.below hb, h.i14.below hb, h.i15.below hb, h.i16.below hb, h.i17.below hb, h.i19.below hb, h.tx, h.no, h.or.below hb⟩
theorem texts_keys : ∀ x ∈ textsL, 61 ≤ x.1 := by
  intro x hx
  simp only [textsL, List.mem_cons, List.not_mem_nil, or_false] at hx
  rcases hx with rfl | rfl | rfl | rfl | rfl | rfl | rfl | rfl | rfl | rfl | rfl | rfl | rfl | rfl | rfl | rfl <;> decide
set_option maxRecDepth 8000 in
set_option maxHeartbeats 8000000 in
theorem table_any (w : World) : Calls Tryz.prog 18 #[] w fun e w' => ∃ b L, e = .returned (.map (some b)) ∧ MapAt w' b L ∧ TabOk w' L ∧ Below w.heap.size w w' := by
  have hmm := @run_makeMap Tryz.prog
  obtain ⟨W1, hW1⟩ : ∃ W1, (w.alloc (.map #[] 0)).alloc (.cells #[.map (some w.heap.size)] 50) = W1 := ⟨_, rfl⟩
  have m0 : MapAt W1 w.heap.size [] := by rw [← hW1]; exact (MapAt.new w).kept (World.grownBy_alloc _ _ none) (by simp)
  have g0 : w.grownBy W1 (some w.heap.size) := by rw [← hW1]; exact (World.grownBy_alloc w _ _).andThen (World.grownBy_alloc _ _ _) (fun _ e => .inr e)
  have c0 : W1.cell? ⟨w.heap.size + 1, 0, none⟩ = some (.map (some w.heap.size)) := by
    have q := heap_alloc_at (w.alloc (.map #[] 0)) (.cells #[.map (some w.heap.size)] 50)
    rw [hW1] at q
    have e : (w.alloc (.map #[] 0)).heap.size = w.heap.size + 1 := by simp
    rw [e] at q
    simp [World.cell?, q]
  have s0 : w.heap.size + 1 < W1.heap.size := by rw [← hW1]; simp
  have k0 : Ins W1 w.heap.size [] := fun x hx => by simp at hx
  obtain ⟨b, hb⟩ : ∃ b, w.heap.size = b := ⟨_, rfl⟩
  have HB := Lib.hid hb
  have M0 := Lib.hid m0
  have G0 := Lib.hid g0
  have K0 := Lib.hid k0
  clear m0 g0 k0 hb
  go_enter Tryz.func18, Tryz.ntmps18
  go_wp2_with fail
  refine (ints_any 1 26 w.heap.size (w.heap.size + 1) _ _ _ M0.out (by simp) K0.out (by omega) c0 s0 (by omega)).mono ?_
  rintro e w1 ⟨rfl, p1, m, k, g, c1, s1⟩
  have M1 := Lib.hid m
  have K1 := Lib.hid k
  have G1 := Lib.hid (G0.out.andThen g (fun _ e => .inr e))
  clear m k g M0 K0 G0 c0 s0
  go_wp2_with fail
  refine (ints_any 2 27 w.heap.size (w.heap.size + 1) _ _ _ M1.out (by simp) K1.out (by omega) c1 s1 (by omega)).mono ?_
  rintro e w2 ⟨rfl, p2, m, k, g, c2, s2⟩
  have M2 := Lib.hid m
  have K2 := Lib.hid k
  have G2 := Lib.hid (G1.out.andThen g (fun _ e => .inr e))
  clear m k g M1 K1 G1 c1 s1
  go_wp2_with fail
  refine (ints_any 9 28 w.heap.size (w.heap.size + 1) _ _ _ M2.out (by simp) K2.out (by omega) c2 s2 (by omega)).mono ?_
  rintro e w3 ⟨rfl, p3, m, k, g, c3, s3⟩
  have M3 := Lib.hid m
  have K3 := Lib.hid k
  have G3 := Lib.hid (G2.out.andThen g (fun _ e => .inr e))
  clear m k g M2 K2 G2 c2 s2
  go_wp2_with fail
  refine (ints_any 10 29 w.heap.size (w.heap.size + 1) _ _ _ M3.out (by simp) K3.out (by omega) c3 s3 (by omega)).mono ?_
  rintro e w4 ⟨rfl, p4, m, k, g, c4, s4⟩
  have M4 := Lib.hid m
  have K4 := Lib.hid k
  have G4 := Lib.hid (G3.out.andThen g (fun _ e => .inr e))
  clear m k g M3 K3 G3 c3 s3
  go_wp2_with fail
  refine (ints_any 11 31 w.heap.size (w.heap.size + 1) _ _ _ M4.out (by simp) K4.out (by omega) c4 s4 (by omega)).mono ?_
  rintro e w5 ⟨rfl, p5, m, k, g, c5, s5⟩
  have M5 := Lib.hid m
  have K5 := Lib.hid k
  have G5 := Lib.hid (G4.out.andThen g (fun _ e => .inr e))
  clear m k g M4 K4 G4 c4 s4
  go_wp2_with fail
  refine (ints_any 12 32 w.heap.size (w.heap.size + 1) _ _ _ M5.out (by simp) K5.out (by omega) c5 s5 (by omega)).mono ?_
  rintro e w6 ⟨rfl, p6, m, k, g, c6, s6⟩
  have M6 := Lib.hid m
  have K6 := Lib.hid k
  have G6 := Lib.hid (G5.out.andThen g (fun _ e => .inr e))
  clear m k g M5 K5 G5 c5 s5
  go_wp2_with fail
  refine (ints_any 13 33 w.heap.size (w.heap.size + 1) _ _ _ M6.out (by simp) K6.out (by omega) c6 s6 (by omega)).mono ?_
  rintro e w7 ⟨rfl, p7, m, k, g, c7, s7⟩
  have M7 := Lib.hid m
  have K7 := Lib.hid k
  have G7 := Lib.hid (G6.out.andThen g (fun _ e => .inr e))
  clear m k g M6 K6 G6 c6 s6
  go_wp2_with fail
  refine (ints_any 14 35 w.heap.size (w.heap.size + 1) _ _ _ M7.out (by simp) K7.out (by omega) c7 s7 (by omega)).mono ?_
  rintro e w8 ⟨rfl, p8, m, k, g, c8, s8⟩
  have M8 := Lib.hid m
  have K8 := Lib.hid k
  have G8 := Lib.hid (G7.out.andThen g (fun _ e => .inr e))
  clear m k g M7 K7 G7 c7 s7
  go_wp2_with fail
  refine (ints_any 15 36 w.heap.size (w.heap.size + 1) _ _ _ M8.out (by simp) K8.out (by omega) c8 s8 (by omega)).mono ?_
  rintro e w9 ⟨rfl, p9, m, k, g, c9, s9⟩
  have M9 := Lib.hid m
  have K9 := Lib.hid k
  have G9 := Lib.hid (G8.out.andThen g (fun _ e => .inr e))
  clear m k g M8 K8 G8 c8 s8
  go_wp2_with fail
  refine (ints_any 16 37 w.heap.size (w.heap.size + 1) _ _ _ M9.out (by simp) K9.out (by omega) c9 s9 (by omega)).mono ?_
  rintro e w10 ⟨rfl, p10, m, k, g, c10, s10⟩
  have M10 := Lib.hid m
  have K10 := Lib.hid k
  have G10 := Lib.hid (G9.out.andThen g (fun _ e => .inr e))
  clear m k g M9 K9 G9 c9 s9
  go_wp2_with fail
  refine (ints_any 17 38 w.heap.size (w.heap.size + 1) _ _ _ M10.out (by simp) K10.out (by omega) c10 s10 (by omega)).mono ?_
  rintro e w11 ⟨rfl, p11, m, k, g, c11, s11⟩
  have M11 := Lib.hid m
  have K11 := Lib.hid k
  have G11 := Lib.hid (G10.out.andThen g (fun _ e => .inr e))
  clear m k g M10 K10 G10 c10 s10
  go_wp2_with fail
  refine (ints_any 19 39 w.heap.size (w.heap.size + 1) _ _ _ M11.out (by simp) K11.out (by omega) c11 s11 (by omega)).mono ?_
  rintro e w12 ⟨rfl, p12, m, k, g, c12, s12⟩
  have M12 := Lib.hid m
  have K12 := Lib.hid k
  have G12 := Lib.hid (G11.out.andThen g (fun _ e => .inr e))
  clear m k g M11 K11 G11 c11 s11
  go_wp2_with fail
  refine (ordersLarge_any 0 ⟨#[73, 73]⟩ 41 42 w.heap.size _ _ M12.out (by simp) (by omega)).mono ?_
  rintro e v1 ⟨rfl, L1, m, hL1, hl1, g, opb, opg, ox⟩
  have OA := Lib.hid ox
  clear ox
  have MA := Lib.hid m
  have KA := Lib.hid (K12.out.kept g)
  have GA := Lib.hid (G12.out.andThen g (fun _ e => .inr e))
  have cA := grown_cell g c12 s12 (by omega)
  have sA := Nat.lt_of_lt_of_le s12 g.size
  have HL1 := Lib.hid hL1
  clear m g hL1 M12 K12 G12 c12 s12
  go_wp2_with fail
  refine (ordersU_any 40 ⟨#[70, 70]⟩ 45 46 w.heap.size _ _ MA.out (by simp only [List.length_append, List.length_cons, List.length_nil]; omega) (by omega)).mono ?_
  rintro e v2 ⟨rfl, L2, m, hL2, hl2, g, _, _, ox⟩
  clear ox
  have MB := Lib.hid m
  have KB := Lib.hid (KA.out.kept g)
  have OB := Lib.hid (OA.out.kept g)
  have GB := Lib.hid (GA.out.andThen g (fun _ e => .inr e))
  have cB := grown_cell g cA sA (by omega)
  have sB := Nat.lt_of_lt_of_le sA g.size
  have HL2 := Lib.hid hL2
  clear m g hL2 MA KA GA cA sA
  go_wp2_with (at_mapUpdate; refine wpList_put _ rfl (.tmp 33) (.const (.int .i64 18)) (.tmp 34) 50 48 (.inl rfl) Tryz.underlying50 w.heap.size _ rfl MB.out (by simp only [List.length_append, List.length_cons, List.length_nil]; omega) 18 (primv ⟨#[73, 76]⟩ (.func (.func 47) #[] #[])) rfl rfl (by omega) ?_)
  intro x0 m g
  have MC := Lib.hid m
  have KC := Lib.hid (KB.out.kept g)
  have OC := Lib.hid (OB.out.kept g)
  have GC := Lib.hid (GB.out.andThen g (fun _ e => .inr e))
  have cC := grown_cell g cB sB (by omega)
  have sC := Nat.lt_of_lt_of_le sB g.size
  clear m g MB KB GB cB sB
  go_wp2_with (at_mapUpdate; refine wpList_put _ rfl (.tmp 35) (.const (.int .i64 20)) (.tmp 36) 50 48 (.inl rfl) Tryz.underlying50 w.heap.size _ rfl MC.out (by simp only [List.length_append, List.length_cons, List.length_nil]; omega) 20 (primv ⟨#[73, 76]⟩ (.func (.func 49) #[] #[])) rfl rfl (by omega) ?_)
  intro x1 m g
  have MD := Lib.hid m
  have KD := Lib.hid (KC.out.kept g)
  have OD := Lib.hid (OC.out.kept g)
  have GD := Lib.hid (GC.out.andThen g (fun _ e => .inr e))
  have cD := grown_cell g cC sC (by omega)
  have sD := Nat.lt_of_lt_of_le sC g.size
  clear m g MC KC GC cC sC
  go_wp2_with (at_mapUpdate; refine wpList_put _ rfl (.tmp 37) (.const (.int .i64 21)) (.tmp 38) 50 48 (.inl rfl) Tryz.underlying50 w.heap.size _ rfl MD.out (by simp only [List.length_append, List.length_cons, List.length_nil]; omega) 21 (primv ⟨#[73]⟩ (.func (.func 52) #[] #[])) rfl rfl (by omega) ?_)
  intro x2 m g
  have ME := Lib.hid m
  have KE := Lib.hid (KD.out.kept g)
  have OE := Lib.hid (OD.out.kept g)
  have GE := Lib.hid (GD.out.andThen g (fun _ e => .inr e))
  have cE := grown_cell g cD sD (by omega)
  have sE := Nat.lt_of_lt_of_le sD g.size
  clear m g MD KD GD cD sD
  go_wp2_with fail
  refine (floats_any w.heap.size _ _ ME.out (by simp only [List.length_append, List.length_cons, List.length_nil]; omega)).mono ?_
  rintro e v3 ⟨rfl, L3, m, hL3, hl3, g⟩
  have MF := Lib.hid m
  have KF := Lib.hid (KE.out.kept g)
  have OF := Lib.hid (OE.out.kept g)
  have GF := Lib.hid (GE.out.andThen g (fun _ e => .inr e))
  have cF := grown_cell g cE sE (by omega)
  have sF := Nat.lt_of_lt_of_le sE g.size
  have HL3 := Lib.hid hL3
  clear m g hL3 ME KE GE cE sE
  go_wp2_with fail
  refine (texts_any w.heap.size _ _ MF.out (by simp only [List.length_append, List.length_cons, List.length_nil]; omega)).mono ?_
  rintro e v4 ⟨rfl, m, g⟩
  have MG := Lib.hid m
  have KG := Lib.hid (KF.out.kept g)
  have OG := Lib.hid (OF.out.kept g)
  have GG := Lib.hid (GF.out.andThen g (fun _ e => .inr e))
  have cG := grown_cell g cF sF (by omega)
  have sG := Nat.lt_of_lt_of_le sF g.size
  clear m g MF KF GF cF sF
  go_wp2_with fail
  go_ret
  obtain ⟨LI, hLI⟩ : ∃ LI : List (Int × Value), LI = [(19, insv p12), (17, insv p11), (16, insv p10), (15, insv p9), (14, insv p8), (13, insv p7), (12, insv p6), (11, insv p5), (10, insv p4), (9, insv p3), (2, insv p2), (1, insv p1)] := ⟨_, rfl⟩
  obtain ⟨LL, hLL⟩ : ∃ LL, LL = textsL ++ (L3 ++ ((21, primv ⟨#[73]⟩ (.func (.func 52) #[] #[])) :: (20, primv ⟨#[73, 76]⟩ (.func (.func 49) #[] #[])) :: (18, primv ⟨#[73, 76]⟩ (.func (.func 47) #[] #[])) :: (L2 ++ (L1 ++ LI)))) := ⟨_, rfl⟩
  have MG2 : MapAt v4 w.heap.size LL := by rw [hLL, hLI]; exact MG.out
  refine ⟨w.heap.size, LL, rfl, MG2, ?_, (Below.refl _ _).grown GG.out (Nat.le_refl _) (fun k hk => by injection hk with hk; omega)⟩
  have h1 := HL1.out
  have h2 := HL2.out
  have h3 := HL3.out
  have skip : ∀ (n : Int), n < 41 → ¬ (3 ≤ n ∧ n ≤ 8) → n ≠ 18 → n ≠ 20 → n ≠ 21 → lk LL n = lk LI n := by
    intro n e1 e2 e3 e4 e5
    rw [hLL]
    rw [lk_skip (k := n) (fun x hx => by have := texts_keys x hx; omega), lk_skip (k := n) (A := L3) (fun x hx => by have := h3 x hx; omega), lk_miss (j := 21) (k := n) _ _ (by omega), lk_miss (j := 20) (k := n) _ _ (by omega), lk_miss (j := 18) (k := n) _ _ (by omega), lk_skip (k := n) (A := L2) (fun x hx => by have := h2 x hx; omega), lk_skip (k := n) (A := L1) (fun x hx => by have := h1 x hx; omega)]
  have K := KG.out
  have or8 : OrdAt v4 LL 0 ⟨#[73, 73]⟩ 76 41 42 := OG.out.at fun n v e1 e2 e3 => by
    rw [hLL]
    rw [lk_skip (k := n) (fun x hx => by have := texts_keys x hx; omega), lk_skip (k := n) (A := L3) (fun x hx => by have := h3 x hx; omega), lk_miss (j := 21) (k := n) _ _ (by omega), lk_miss (j := 20) (k := n) _ _ (by omega), lk_miss (j := 18) (k := n) _ _ (by omega), lk_skip (k := n) (A := L2) (fun x hx => by have := h2 x hx; omega), lk_append, e3]
  have i1 : InsAt v4 LL 1 26 := ⟨p1, by rw [skip 1 (by omega) (by omega) (by omega) (by omega) (by omega), hLI]; rw [lk_miss (j := 19) (k := 1) _ _ (by decide)]; rw [lk_miss (j := 17) (k := 1) _ _ (by decide)]; rw [lk_miss (j := 16) (k := 1) _ _ (by decide)]; rw [lk_miss (j := 15) (k := 1) _ _ (by decide)]; rw [lk_miss (j := 14) (k := 1) _ _ (by decide)]; rw [lk_miss (j := 13) (k := 1) _ _ (by decide)]; rw [lk_miss (j := 12) (k := 1) _ _ (by decide)]; rw [lk_miss (j := 11) (k := 1) _ _ (by decide)]; rw [lk_miss (j := 10) (k := 1) _ _ (by decide)]; rw [lk_miss (j := 9) (k := 1) _ _ (by decide)]; rw [lk_miss (j := 2) (k := 1) _ _ (by decide)]; exact lk_hit _ _ _, (K (_, p1) (by simp)).1, (K (26, p1) (by simp)).2.1⟩
  have i2 : InsAt v4 LL 2 27 := ⟨p2, by rw [skip 2 (by omega) (by omega) (by omega) (by omega) (by omega), hLI]; rw [lk_miss (j := 19) (k := 2) _ _ (by decide)]; rw [lk_miss (j := 17) (k := 2) _ _ (by decide)]; rw [lk_miss (j := 16) (k := 2) _ _ (by decide)]; rw [lk_miss (j := 15) (k := 2) _ _ (by decide)]; rw [lk_miss (j := 14) (k := 2) _ _ (by decide)]; rw [lk_miss (j := 13) (k := 2) _ _ (by decide)]; rw [lk_miss (j := 12) (k := 2) _ _ (by decide)]; rw [lk_miss (j := 11) (k := 2) _ _ (by decide)]; rw [lk_miss (j := 10) (k := 2) _ _ (by decide)]; rw [lk_miss (j := 9) (k := 2) _ _ (by decide)]; exact lk_hit _ _ _, (K (_, p2) (by simp)).1, (K (27, p2) (by simp)).2.1⟩
  have i9 : InsAt v4 LL 9 28 := ⟨p3, by rw [skip 9 (by omega) (by omega) (by omega) (by omega) (by omega), hLI]; rw [lk_miss (j := 19) (k := 9) _ _ (by decide)]; rw [lk_miss (j := 17) (k := 9) _ _ (by decide)]; rw [lk_miss (j := 16) (k := 9) _ _ (by decide)]; rw [lk_miss (j := 15) (k := 9) _ _ (by decide)]; rw [lk_miss (j := 14) (k := 9) _ _ (by decide)]; rw [lk_miss (j := 13) (k := 9) _ _ (by decide)]; rw [lk_miss (j := 12) (k := 9) _ _ (by decide)]; rw [lk_miss (j := 11) (k := 9) _ _ (by decide)]; rw [lk_miss (j := 10) (k := 9) _ _ (by decide)]; exact lk_hit _ _ _, (K (_, p3) (by simp)).1, (K (28, p3) (by simp)).2.1⟩
  have i10 : InsAt v4 LL 10 29 := ⟨p4, by rw [skip 10 (by omega) (by omega) (by omega) (by omega) (by omega), hLI]; rw [lk_miss (j := 19) (k := 10) _ _ (by decide)]; rw [lk_miss (j := 17) (k := 10) _ _ (by decide)]; rw [lk_miss (j := 16) (k := 10) _ _ (by decide)]; rw [lk_miss (j := 15) (k := 10) _ _ (by decide)]; rw [lk_miss (j := 14) (k := 10) _ _ (by decide)]; rw [lk_miss (j := 13) (k := 10) _ _ (by decide)]; rw [lk_miss (j := 12) (k := 10) _ _ (by decide)]; rw [lk_miss (j := 11) (k := 10) _ _ (by decide)]; exact lk_hit _ _ _, (K (_, p4) (by simp)).1, (K (29, p4) (by simp)).2.1⟩
  have i11 : InsAt v4 LL 11 31 := ⟨p5, by rw [skip 11 (by omega) (by omega) (by omega) (by omega) (by omega), hLI]; rw [lk_miss (j := 19) (k := 11) _ _ (by decide)]; rw [lk_miss (j := 17) (k := 11) _ _ (by decide)]; rw [lk_miss (j := 16) (k := 11) _ _ (by decide)]; rw [lk_miss (j := 15) (k := 11) _ _ (by decide)]; rw [lk_miss (j := 14) (k := 11) _ _ (by decide)]; rw [lk_miss (j := 13) (k := 11) _ _ (by decide)]; rw [lk_miss (j := 12) (k := 11) _ _ (by decide)]; exact lk_hit _ _ _, (K (_, p5) (by simp)).1, (K (31, p5) (by simp)).2.1⟩
  have i12 : InsAt v4 LL 12 32 := ⟨p6, by rw [skip 12 (by omega) (by omega) (by omega) (by omega) (by omega), hLI]; rw [lk_miss (j := 19) (k := 12) _ _ (by decide)]; rw [lk_miss (j := 17) (k := 12) _ _ (by decide)]; rw [lk_miss (j := 16) (k := 12) _ _ (by decide)]; rw [lk_miss (j := 15) (k := 12) _ _ (by decide)]; rw [lk_miss (j := 14) (k := 12) _ _ (by decide)]; rw [lk_miss (j := 13) (k := 12) _ _ (by decide)]; exact lk_hit _ _ _, (K (_, p6) (by simp)).1, (K (32, p6) (by simp)).2.1⟩
  have i13 : InsAt v4 LL 13 33 := ⟨p7, by rw [skip 13 (by omega) (by omega) (by omega) (by omega) (by omega), hLI]; rw [lk_miss (j := 19) (k := 13) _ _ (by decide)]; rw [lk_miss (j := 17) (k := 13) _ _ (by decide)]; rw [lk_miss (j := 16) (k := 13) _ _ (by decide)]; rw [lk_miss (j := 15) (k := 13) _ _ (by decide)]; rw [lk_miss (j := 14) (k := 13) _ _ (by decide)]; exact lk_hit _ _ _, (K (_, p7) (by simp)).1, (K (33, p7) (by simp)).2.1⟩
  have i14 : InsAt v4 LL 14 35 := ⟨p8, by rw [skip 14 (by omega) (by omega) (by omega) (by omega) (by omega), hLI]; rw [lk_miss (j := 19) (k := 14) _ _ (by decide)]; rw [lk_miss (j := 17) (k := 14) _ _ (by decide)]; rw [lk_miss (j := 16) (k := 14) _ _ (by decide)]; rw [lk_miss (j := 15) (k := 14) _ _ (by decide)]; exact lk_hit _ _ _, (K (_, p8) (by simp)).1, (K (35, p8) (by simp)).2.1⟩
  have i15 : InsAt v4 LL 15 36 := ⟨p9, by rw [skip 15 (by omega) (by omega) (by omega) (by omega) (by omega), hLI]; rw [lk_miss (j := 19) (k := 15) _ _ (by decide)]; rw [lk_miss (j := 17) (k := 15) _ _ (by decide)]; rw [lk_miss (j := 16) (k := 15) _ _ (by decide)]; exact lk_hit _ _ _, (K (_, p9) (by simp)).1, (K (36, p9) (by simp)).2.1⟩
  have i16 : InsAt v4 LL 16 37 := ⟨p10, by rw [skip 16 (by omega) (by omega) (by omega) (by omega) (by omega), hLI]; rw [lk_miss (j := 19) (k := 16) _ _ (by decide)]; rw [lk_miss (j := 17) (k := 16) _ _ (by decide)]; exact lk_hit _ _ _, (K (_, p10) (by simp)).1, (K (37, p10) (by simp)).2.1⟩
  have i17 : InsAt v4 LL 17 38 := ⟨p11, by rw [skip 17 (by omega) (by omega) (by omega) (by omega) (by omega), hLI]; rw [lk_miss (j := 19) (k := 17) _ _ (by decide)]; exact lk_hit _ _ _, (K (_, p11) (by simp)).1, (K (38, p11) (by simp)).2.1⟩
  have i19 : InsAt v4 LL 19 39 := ⟨p12, by rw [skip 19 (by omega) (by omega) (by omega) (by omega) (by omega), hLI];  exact lk_hit _ _ _, (K (_, p12) (by simp)).1, (K (39, p12) (by simp)).2.1⟩
  exact ⟨i1, i2, i9, i10, i11, i12, i13, i14, i15, i16, i17, i19, fun k v hk => by rw [hLL, lk_append, hk], by rw [skip 0 (by omega) (by omega) (by omega) (by omega) (by omega), hLI]; rw [lk_none]; intro x hx; simp only [List.mem_cons, List.not_mem_nil, or_false] at hx; rcases hx with rfl | rfl | rfl | rfl | rfl | rfl | rfl | rfl | rfl | rfl | rfl | rfl <;> simp, or8⟩
end Go.Proofs.YtlodbibagmblkaaGreatDoor
namespace Go.Proofs.YtlodbibagmblkaaGreatDoor
open Go Go.RowKit Go.Lib
set_option maxRecDepth 4000 in
set_option maxHeartbeats 4000000 in
theorem cl_add (p : Nat) (R : Int) (x y : PV) (v : Value) (w : World) (h : VRow w v [x, y]) (hp : w.cell? ⟨p, 0, none⟩ = some (.func (.func 26) #[] #[])) (hpl : p < w.heap.size)
    (HF : ∀ W, Calls Tryz.prog 26 #[.agg #[.bool x.g, .string x.s], .agg #[.bool y.g, .string y.s]] W fun e w' => e = .returned (.tuple #[lof R, .int .i64 0]) ∧ Below W.heap.size W w') (hR : Pl.Big R) :
    Calls Tryz.prog 24 #[v, .pointer (some ⟨p, 0, none⟩)] w (WhoOk w R) := by
  have HWH := Lib.hid (fun W => whole_any R W hR)
  obtain ⟨rg, rs, hr⟩ : ∃ g S, lof R = .agg #[.bool g, .string S] := ⟨_, _, rfl⟩
  rw [hr] at HWH
  have HFF := Lib.hid HF
  simp only [hr] at HFF
  clear HF hR hr
  unfold WhoOk LitOk litv at *
  obtain ⟨W1, hW1⟩ : ∃ W1, w.alloc (.cells #[.int .u8 0, .int .i64 0, .int .u64 0, .string ⟨#[]⟩, .slice none 0 0] 26) = W1 := ⟨_, rfl⟩
  have HP : Hid (P5 W1 w.heap.size (.int .u8 0) (.int .i64 0) (.int .u64 0) (.string ⟨#[]⟩) (.slice none 0 0)) := Lib.hid (by rw [← hW1]; exact P5.new _ _ _ _ _ _)
  have HB : Hid (Below w.heap.size w W1) := Lib.hid (by rw [← hW1]; exact (Below.refl _ _).alloc (Nat.le_refl _) _)
  have hs1 : w.heap.size + 1 ≤ W1.heap.size := by rw [← hW1]; simp
  obtain ⟨gv, cv, rfl, hg0, hc0⟩ := h
  have hx5 : W1.cell? ⟨gv, 5, none⟩ = some (.bool x.g) := by rw [HB.out.cell (p := ⟨gv, 5, none⟩) hg0]; exact hc0 0 x rfl 5 _ rfl
  have hx6 : W1.cell? ⟨gv, 6, none⟩ = some (.string x.s) := by rw [HB.out.cell (p := ⟨gv, 6, none⟩) hg0]; exact hc0 0 x rfl 6 _ rfl
  have hy5 : W1.cell? ⟨gv, 12, none⟩ = some (.bool y.g) := by rw [HB.out.cell (p := ⟨gv, 12, none⟩) hg0]; exact hc0 1 y rfl 5 _ rfl
  have hy6 : W1.cell? ⟨gv, 13, none⟩ = some (.string y.s) := by rw [HB.out.cell (p := ⟨gv, 13, none⟩) hg0]; exact hc0 1 y rfl 6 _ rfl
  have hp1 : W1.cell? ⟨p, 0, none⟩ = some (.func (.func 26) #[] #[]) := by rw [HB.out.cell (p := ⟨p, 0, none⟩) hpl]; exact hp
  simp only [List.length_cons, List.length_nil] at *
  clear hc0 hp
  have HS : Hid (∀ W, Below W1.heap.size W1 W → W.cell? ⟨p, 0, none⟩ = some (.func (.func 26) #[] #[]) ∧ W.cell? ⟨gv, 5, none⟩ = some (.bool x.g) ∧ W.cell? ⟨gv, 6, none⟩ = some (.string x.s) ∧ W.cell? ⟨gv, 12, none⟩ = some (.bool y.g) ∧ W.cell? ⟨gv, 13, none⟩ = some (.string y.s)) := Lib.hid (fun W hb => ⟨by rw [hb.cell (p := ⟨p, 0, none⟩) (by show p < _; omega)]; exact hp1, by rw [hb.cell (p := ⟨gv, 5, none⟩) (by show gv < _; omega)]; exact hx5, by rw [hb.cell (p := ⟨gv, 6, none⟩) (by show gv < _; omega)]; exact hx6, by rw [hb.cell (p := ⟨gv, 12, none⟩) (by show gv < _; omega)]; exact hy5, by rw [hb.cell (p := ⟨gv, 13, none⟩) (by show gv < _; omega)]; exact hy6⟩)
  have cellset : ∀ (W : World) (q i : Nat) (u a b c d e : Value), q < w.heap.size → W.cell? ⟨q, i, none⟩ = some u → (set5 W w.heap.size a b c d e).cell? ⟨q, i, none⟩ = some u := fun W q i u a b c d e hq hu => by
    unfold set5
    rw [World.cell?_setCell_other _ _ _ _ (by intro z; injection z with z; omega), World.cell?_setCell_other _ _ _ _ (by intro z; injection z with z; omega), World.cell?_setCell_other _ _ _ _ (by intro z; injection z with z; omega), World.cell?_setCell_other _ _ _ _ (by intro z; injection z with z; omega), World.cell?_setCell_other _ _ _ _ (by intro z; injection z with z; omega)]
    exact hu
  have HS5 : Hid (∀ W, Below W1.heap.size W1 W → ∀ a b c d e, (set5 W w.heap.size a b c d e).cell? ⟨p, 0, none⟩ = some (.func (.func 26) #[] #[]) ∧ (set5 W w.heap.size a b c d e).cell? ⟨gv, 5, none⟩ = some (.bool x.g) ∧ (set5 W w.heap.size a b c d e).cell? ⟨gv, 6, none⟩ = some (.string x.s) ∧ (set5 W w.heap.size a b c d e).cell? ⟨gv, 12, none⟩ = some (.bool y.g) ∧ (set5 W w.heap.size a b c d e).cell? ⟨gv, 13, none⟩ = some (.string y.s)) := Lib.hid (fun W hb a b c d e => ⟨cellset W p 0 _ a b c d e hpl (HS.out W hb).1, cellset W gv 5 _ a b c d e hg0 (HS.out W hb).2.1, cellset W gv 6 _ a b c d e hg0 (HS.out W hb).2.2.1, cellset W gv 12 _ a b c d e hg0 (HS.out W hb).2.2.2.1, cellset W gv 13 _ a b c d e hg0 (HS.out W hb).2.2.2.2⟩)
  have BD := Lib.hid (show Below W1.heap.size W1 W1.drew from (Below.refl _ W1).drew)
  clear cellset
  unfold set5 at HS5
  obtain ⟨c0, c1, c2, c3, c4, f0, f1, f2, f3, f4⟩ := HP.out.cells
  go_enter Tryz.func24, Tryz.ntmps24
  go_wp2_with fail
  go_region_held3 (fun W => W.cell? ⟨p, 0, none⟩ = some (.func (.func 26) #[] #[]) ∧ W.cell? ⟨gv, 5, none⟩ = some (.bool x.g) ∧ W.cell? ⟨gv, 6, none⟩ = some (.string x.s) ∧ W.cell? ⟨gv, 12, none⟩ = some (.bool y.g) ∧ W.cell? ⟨gv, 13, none⟩ = some (.string y.s)) (first | with_reducible exact ⟨hp1, hx5, hx6, hy5, hy6⟩ | with_reducible exact HS.out _ BD.out | with_reducible exact HS.out _ hb4 | with_reducible exact HS.out _ hb54 | with_reducible exact HS5.out _ hb54 _ _ _ _ _) (first
    | (go_at_call 25; (with_reducible refine (HWH.out _).mono ?_); rintro e w5 ⟨rk, rn, rt, hil, rfl, hb5⟩; have HIL := Lib.hid hil; obtain ⟨rT, hrT⟩ : ∃ rT, bs rt = rT := ⟨_, rfl⟩; have HRT := Lib.hid hrT; rw [hrT]; clear hil hrT; have hb54 : Below W1.heap.size W1 w5 := hb4.trans (hb5.mono hb4.size); have HP5 := Lib.hid (HP.out.below hb54); obtain ⟨d0, d1, d2, d3, d4, e0, e1, e2, e3, e4⟩ := HP5.out.cells)
    | (go_at_call 26; (with_reducible refine (HFF.out _).mono ?_); rintro e w4 ⟨rfl, hb4d⟩; have hb4 : Below W1.heap.size W1 w4 := BD.out.trans hb4d; clear hb4d))
  all_goals
    have HB5 := Lib.hid (HB.out.trans (hb54.mono (by omega)))
    obtain ⟨k0, k1, k2, k3, k4, _, _, _, _, _⟩ := (HP5.out.set (.int .u8 rk) (.int .i64 rn) (.int .u64 0) (.string rT) (.slice none 0 0)).cells
    go_wp2_with fail
    exact bodyPost_ret (v := .tuple #[.agg #[.int .u8 rk, .int .i64 rn, .int .u64 0, .string rT, .slice none 0 0], .bool true]) (by simp [results, Tryz.results24, go_sem, k0, k1, k2, k3, k4]) rfl ⟨rk, rn, rt, HIL.out, by rw [HRT.out]; exact ⟨rfl, below_set5 HB5.out (Nat.le_refl _) _ _ _ _ _⟩⟩
set_option maxRecDepth 4000 in
set_option maxHeartbeats 4000000 in
theorem cl_sub (p : Nat) (R : Int) (x y : PV) (v : Value) (w : World) (h : VRow w v [x, y]) (hp : w.cell? ⟨p, 0, none⟩ = some (.func (.func 27) #[] #[])) (hpl : p < w.heap.size)
    (HF : ∀ W, Calls Tryz.prog 27 #[.agg #[.bool x.g, .string x.s], .agg #[.bool y.g, .string y.s]] W fun e w' => e = .returned (.tuple #[lof R, .int .i64 0]) ∧ Below W.heap.size W w') (hR : Pl.Big R) :
    Calls Tryz.prog 24 #[v, .pointer (some ⟨p, 0, none⟩)] w (WhoOk w R) := by
  have HWH := Lib.hid (fun W => whole_any R W hR)
  obtain ⟨rg, rs, hr⟩ : ∃ g S, lof R = .agg #[.bool g, .string S] := ⟨_, _, rfl⟩
  rw [hr] at HWH
  have HFF := Lib.hid HF
  simp only [hr] at HFF
  clear HF hR hr
  unfold WhoOk LitOk litv at *
  obtain ⟨W1, hW1⟩ : ∃ W1, w.alloc (.cells #[.int .u8 0, .int .i64 0, .int .u64 0, .string ⟨#[]⟩, .slice none 0 0] 26) = W1 := ⟨_, rfl⟩
  have HP : Hid (P5 W1 w.heap.size (.int .u8 0) (.int .i64 0) (.int .u64 0) (.string ⟨#[]⟩) (.slice none 0 0)) := Lib.hid (by rw [← hW1]; exact P5.new _ _ _ _ _ _)
  have HB : Hid (Below w.heap.size w W1) := Lib.hid (by rw [← hW1]; exact (Below.refl _ _).alloc (Nat.le_refl _) _)
  have hs1 : w.heap.size + 1 ≤ W1.heap.size := by rw [← hW1]; simp
  obtain ⟨gv, cv, rfl, hg0, hc0⟩ := h
  have hx5 : W1.cell? ⟨gv, 5, none⟩ = some (.bool x.g) := by rw [HB.out.cell (p := ⟨gv, 5, none⟩) hg0]; exact hc0 0 x rfl 5 _ rfl
  have hx6 : W1.cell? ⟨gv, 6, none⟩ = some (.string x.s) := by rw [HB.out.cell (p := ⟨gv, 6, none⟩) hg0]; exact hc0 0 x rfl 6 _ rfl
  have hy5 : W1.cell? ⟨gv, 12, none⟩ = some (.bool y.g) := by rw [HB.out.cell (p := ⟨gv, 12, none⟩) hg0]; exact hc0 1 y rfl 5 _ rfl
  have hy6 : W1.cell? ⟨gv, 13, none⟩ = some (.string y.s) := by rw [HB.out.cell (p := ⟨gv, 13, none⟩) hg0]; exact hc0 1 y rfl 6 _ rfl
  have hp1 : W1.cell? ⟨p, 0, none⟩ = some (.func (.func 27) #[] #[]) := by rw [HB.out.cell (p := ⟨p, 0, none⟩) hpl]; exact hp
  simp only [List.length_cons, List.length_nil] at *
  clear hc0 hp
  have HS : Hid (∀ W, Below W1.heap.size W1 W → W.cell? ⟨p, 0, none⟩ = some (.func (.func 27) #[] #[]) ∧ W.cell? ⟨gv, 5, none⟩ = some (.bool x.g) ∧ W.cell? ⟨gv, 6, none⟩ = some (.string x.s) ∧ W.cell? ⟨gv, 12, none⟩ = some (.bool y.g) ∧ W.cell? ⟨gv, 13, none⟩ = some (.string y.s)) := Lib.hid (fun W hb => ⟨by rw [hb.cell (p := ⟨p, 0, none⟩) (by show p < _; omega)]; exact hp1, by rw [hb.cell (p := ⟨gv, 5, none⟩) (by show gv < _; omega)]; exact hx5, by rw [hb.cell (p := ⟨gv, 6, none⟩) (by show gv < _; omega)]; exact hx6, by rw [hb.cell (p := ⟨gv, 12, none⟩) (by show gv < _; omega)]; exact hy5, by rw [hb.cell (p := ⟨gv, 13, none⟩) (by show gv < _; omega)]; exact hy6⟩)
  have cellset : ∀ (W : World) (q i : Nat) (u a b c d e : Value), q < w.heap.size → W.cell? ⟨q, i, none⟩ = some u → (set5 W w.heap.size a b c d e).cell? ⟨q, i, none⟩ = some u := fun W q i u a b c d e hq hu => by
    unfold set5
    rw [World.cell?_setCell_other _ _ _ _ (by intro z; injection z with z; omega), World.cell?_setCell_other _ _ _ _ (by intro z; injection z with z; omega), World.cell?_setCell_other _ _ _ _ (by intro z; injection z with z; omega), World.cell?_setCell_other _ _ _ _ (by intro z; injection z with z; omega), World.cell?_setCell_other _ _ _ _ (by intro z; injection z with z; omega)]
    exact hu
  have HS5 : Hid (∀ W, Below W1.heap.size W1 W → ∀ a b c d e, (set5 W w.heap.size a b c d e).cell? ⟨p, 0, none⟩ = some (.func (.func 27) #[] #[]) ∧ (set5 W w.heap.size a b c d e).cell? ⟨gv, 5, none⟩ = some (.bool x.g) ∧ (set5 W w.heap.size a b c d e).cell? ⟨gv, 6, none⟩ = some (.string x.s) ∧ (set5 W w.heap.size a b c d e).cell? ⟨gv, 12, none⟩ = some (.bool y.g) ∧ (set5 W w.heap.size a b c d e).cell? ⟨gv, 13, none⟩ = some (.string y.s)) := Lib.hid (fun W hb a b c d e => ⟨cellset W p 0 _ a b c d e hpl (HS.out W hb).1, cellset W gv 5 _ a b c d e hg0 (HS.out W hb).2.1, cellset W gv 6 _ a b c d e hg0 (HS.out W hb).2.2.1, cellset W gv 12 _ a b c d e hg0 (HS.out W hb).2.2.2.1, cellset W gv 13 _ a b c d e hg0 (HS.out W hb).2.2.2.2⟩)
  have BD := Lib.hid (show Below W1.heap.size W1 W1.drew from (Below.refl _ W1).drew)
  clear cellset
  unfold set5 at HS5
  obtain ⟨c0, c1, c2, c3, c4, f0, f1, f2, f3, f4⟩ := HP.out.cells
  go_enter Tryz.func24, Tryz.ntmps24
  go_wp2_with fail
  go_region_held3 (fun W => W.cell? ⟨p, 0, none⟩ = some (.func (.func 27) #[] #[]) ∧ W.cell? ⟨gv, 5, none⟩ = some (.bool x.g) ∧ W.cell? ⟨gv, 6, none⟩ = some (.string x.s) ∧ W.cell? ⟨gv, 12, none⟩ = some (.bool y.g) ∧ W.cell? ⟨gv, 13, none⟩ = some (.string y.s)) (first | with_reducible exact ⟨hp1, hx5, hx6, hy5, hy6⟩ | with_reducible exact HS.out _ BD.out | with_reducible exact HS.out _ hb4 | with_reducible exact HS.out _ hb54 | with_reducible exact HS5.out _ hb54 _ _ _ _ _) (first
    | (go_at_call 25; (with_reducible refine (HWH.out _).mono ?_); rintro e w5 ⟨rk, rn, rt, hil, rfl, hb5⟩; have HIL := Lib.hid hil; obtain ⟨rT, hrT⟩ : ∃ rT, bs rt = rT := ⟨_, rfl⟩; have HRT := Lib.hid hrT; rw [hrT]; clear hil hrT; have hb54 : Below W1.heap.size W1 w5 := hb4.trans (hb5.mono hb4.size); have HP5 := Lib.hid (HP.out.below hb54); obtain ⟨d0, d1, d2, d3, d4, e0, e1, e2, e3, e4⟩ := HP5.out.cells)
    | (go_at_call 27; (with_reducible refine (HFF.out _).mono ?_); rintro e w4 ⟨rfl, hb4d⟩; have hb4 : Below W1.heap.size W1 w4 := BD.out.trans hb4d; clear hb4d))
  all_goals
    have HB5 := Lib.hid (HB.out.trans (hb54.mono (by omega)))
    obtain ⟨k0, k1, k2, k3, k4, _, _, _, _, _⟩ := (HP5.out.set (.int .u8 rk) (.int .i64 rn) (.int .u64 0) (.string rT) (.slice none 0 0)).cells
    go_wp2_with fail
    exact bodyPost_ret (v := .tuple #[.agg #[.int .u8 rk, .int .i64 rn, .int .u64 0, .string rT, .slice none 0 0], .bool true]) (by simp [results, Tryz.results24, go_sem, k0, k1, k2, k3, k4]) rfl ⟨rk, rn, rt, HIL.out, by rw [HRT.out]; exact ⟨rfl, below_set5 HB5.out (Nat.le_refl _) _ _ _ _ _⟩⟩
set_option maxRecDepth 4000 in
set_option maxHeartbeats 4000000 in
theorem cl_quo_err (p : Nat) (rg : Bool) (rs : ByteArray) (en : Int) (x y : PV) (v : Value) (w : World) (h : VRow w v [x, y]) (hp : w.cell? ⟨p, 0, none⟩ = some (.func (.func 29) #[] #[])) (hpl : p < w.heap.size)
    (HF : ∀ W, Calls Tryz.prog 29 #[.agg #[.bool x.g, .string x.s], .agg #[.bool y.g, .string y.s]] W fun e w' => e = .returned (.tuple #[.agg #[.bool rg, .string rs], .int .i64 en]) ∧ Below W.heap.size W w') (he : en ≠ 0) :
    Calls Tryz.prog 24 #[v, .pointer (some ⟨p, 0, none⟩)] w (LitOk w nolit false) := by
  have HWH := Lib.hid (fun W => whole_err rg rs en W he)
  have HFF := Lib.hid HF
  clear HF he
  unfold LitOk nolit litv at *
  obtain ⟨W1, hW1⟩ : ∃ W1, w.alloc (.cells #[.int .u8 0, .int .i64 0, .int .u64 0, .string ⟨#[]⟩, .slice none 0 0] 26) = W1 := ⟨_, rfl⟩
  have HP : Hid (P5 W1 w.heap.size (.int .u8 0) (.int .i64 0) (.int .u64 0) (.string ⟨#[]⟩) (.slice none 0 0)) := Lib.hid (by rw [← hW1]; exact P5.new _ _ _ _ _ _)
  have HB : Hid (Below w.heap.size w W1) := Lib.hid (by rw [← hW1]; exact (Below.refl _ _).alloc (Nat.le_refl _) _)
  have hs1 : w.heap.size + 1 ≤ W1.heap.size := by rw [← hW1]; simp
  obtain ⟨gv, cv, rfl, hg0, hc0⟩ := h
  have hx5 : W1.cell? ⟨gv, 5, none⟩ = some (.bool x.g) := by rw [HB.out.cell (p := ⟨gv, 5, none⟩) hg0]; exact hc0 0 x rfl 5 _ rfl
  have hx6 : W1.cell? ⟨gv, 6, none⟩ = some (.string x.s) := by rw [HB.out.cell (p := ⟨gv, 6, none⟩) hg0]; exact hc0 0 x rfl 6 _ rfl
  have hy5 : W1.cell? ⟨gv, 12, none⟩ = some (.bool y.g) := by rw [HB.out.cell (p := ⟨gv, 12, none⟩) hg0]; exact hc0 1 y rfl 5 _ rfl
  have hy6 : W1.cell? ⟨gv, 13, none⟩ = some (.string y.s) := by rw [HB.out.cell (p := ⟨gv, 13, none⟩) hg0]; exact hc0 1 y rfl 6 _ rfl
  have hp1 : W1.cell? ⟨p, 0, none⟩ = some (.func (.func 29) #[] #[]) := by rw [HB.out.cell (p := ⟨p, 0, none⟩) hpl]; exact hp
  simp only [List.length_cons, List.length_nil] at *
  clear hc0 hp
  have HS : Hid (∀ W, Below W1.heap.size W1 W → W.cell? ⟨p, 0, none⟩ = some (.func (.func 29) #[] #[]) ∧ W.cell? ⟨gv, 5, none⟩ = some (.bool x.g) ∧ W.cell? ⟨gv, 6, none⟩ = some (.string x.s) ∧ W.cell? ⟨gv, 12, none⟩ = some (.bool y.g) ∧ W.cell? ⟨gv, 13, none⟩ = some (.string y.s)) := Lib.hid (fun W hb => ⟨by rw [hb.cell (p := ⟨p, 0, none⟩) (by show p < _; omega)]; exact hp1, by rw [hb.cell (p := ⟨gv, 5, none⟩) (by show gv < _; omega)]; exact hx5, by rw [hb.cell (p := ⟨gv, 6, none⟩) (by show gv < _; omega)]; exact hx6, by rw [hb.cell (p := ⟨gv, 12, none⟩) (by show gv < _; omega)]; exact hy5, by rw [hb.cell (p := ⟨gv, 13, none⟩) (by show gv < _; omega)]; exact hy6⟩)
  have cellset : ∀ (W : World) (q i : Nat) (u a b c d e : Value), q < w.heap.size → W.cell? ⟨q, i, none⟩ = some u → (set5 W w.heap.size a b c d e).cell? ⟨q, i, none⟩ = some u := fun W q i u a b c d e hq hu => by
    unfold set5
    rw [World.cell?_setCell_other _ _ _ _ (by intro z; injection z with z; omega), World.cell?_setCell_other _ _ _ _ (by intro z; injection z with z; omega), World.cell?_setCell_other _ _ _ _ (by intro z; injection z with z; omega), World.cell?_setCell_other _ _ _ _ (by intro z; injection z with z; omega), World.cell?_setCell_other _ _ _ _ (by intro z; injection z with z; omega)]
    exact hu
  have HS5 : Hid (∀ W, Below W1.heap.size W1 W → ∀ a b c d e, (set5 W w.heap.size a b c d e).cell? ⟨p, 0, none⟩ = some (.func (.func 29) #[] #[]) ∧ (set5 W w.heap.size a b c d e).cell? ⟨gv, 5, none⟩ = some (.bool x.g) ∧ (set5 W w.heap.size a b c d e).cell? ⟨gv, 6, none⟩ = some (.string x.s) ∧ (set5 W w.heap.size a b c d e).cell? ⟨gv, 12, none⟩ = some (.bool y.g) ∧ (set5 W w.heap.size a b c d e).cell? ⟨gv, 13, none⟩ = some (.string y.s)) := Lib.hid (fun W hb a b c d e => ⟨cellset W p 0 _ a b c d e hpl (HS.out W hb).1, cellset W gv 5 _ a b c d e hg0 (HS.out W hb).2.1, cellset W gv 6 _ a b c d e hg0 (HS.out W hb).2.2.1, cellset W gv 12 _ a b c d e hg0 (HS.out W hb).2.2.2.1, cellset W gv 13 _ a b c d e hg0 (HS.out W hb).2.2.2.2⟩)
  have BD := Lib.hid (show Below W1.heap.size W1 W1.drew from (Below.refl _ W1).drew)
  clear cellset
  unfold set5 at HS5
  obtain ⟨c0, c1, c2, c3, c4, f0, f1, f2, f3, f4⟩ := HP.out.cells
  go_enter Tryz.func24, Tryz.ntmps24
  go_wp2_with fail
  go_region_held3 (fun W => W.cell? ⟨p, 0, none⟩ = some (.func (.func 29) #[] #[]) ∧ W.cell? ⟨gv, 5, none⟩ = some (.bool x.g) ∧ W.cell? ⟨gv, 6, none⟩ = some (.string x.s) ∧ W.cell? ⟨gv, 12, none⟩ = some (.bool y.g) ∧ W.cell? ⟨gv, 13, none⟩ = some (.string y.s)) (first | with_reducible exact ⟨hp1, hx5, hx6, hy5, hy6⟩ | with_reducible exact HS.out _ BD.out | with_reducible exact HS.out _ hb4 | with_reducible exact HS.out _ hb54 | with_reducible exact HS5.out _ hb54 _ _ _ _ _) (first
    | (go_at_call 25; (with_reducible refine (HWH.out _).mono ?_); rintro e w5 ⟨rfl, hb5⟩; have hb54 : Below W1.heap.size W1 w5 := hb4.trans (hb5.mono hb4.size); have HP5 := Lib.hid (HP.out.below hb54); obtain ⟨d0, d1, d2, d3, d4, e0, e1, e2, e3, e4⟩ := HP5.out.cells)
    | (go_at_call 29; (with_reducible refine (HFF.out _).mono ?_); rintro e w4 ⟨rfl, hb4d⟩; have hb4 : Below W1.heap.size W1 w4 := BD.out.trans hb4d; clear hb4d))
  all_goals
    have HB5 := Lib.hid (HB.out.trans (hb54.mono (by omega)))
    obtain ⟨k0, k1, k2, k3, k4, _, _, _, _, _⟩ := (HP5.out.set (.int .u8 0) (.int .i64 0) (.int .u64 0) (.string ⟨#[]⟩) (.slice none 0 0)).cells
    go_wp2_with fail
    exact bodyPost_ret (v := .tuple #[.agg #[.int .u8 0, .int .i64 0, .int .u64 0, .string ⟨#[]⟩, .slice none 0 0], .bool false]) (by simp [results, Tryz.results24, go_sem, k0, k1, k2, k3, k4]) rfl ⟨rfl, below_set5 HB5.out (Nat.le_refl _) _ _ _ _ _⟩
end Go.Proofs.YtlodbibagmblkaaGreatDoor
namespace Go.Proofs.YtlodbibagmblkaaGreatDoor
open Go Go.RowKit Go.Lib
theorem P5.drew {W : World} {k : Nat} {a b c d e : Value} (h : P5 W k a b c d e) : P5 W.drew k a b c d e := h
set_option maxRecDepth 4000 in
set_option maxHeartbeats 4000000 in
theorem cl61_in (x y : PV) (k : Nat) (c : UInt8) (v : Value) (w : World) (h : VRow w v [x, y]) (hk : x.t.data.toList[k]? = some c) (hy : y.n = (k : Int) + 1) (hs : x.t.size ≤ 1000000000) :
    Calls Tryz.prog 109 #[v] w (LitOk w (litv 7 c.toNat 0 ⟨#[]⟩ (.slice none 0 0)) true) := by
  obtain ⟨W1, hW1⟩ : ∃ W1, w.alloc (.cells #[.int .u8 0, .int .i64 0, .int .u64 0, .string ⟨#[]⟩, .slice none 0 0] 26) = W1 := ⟨_, rfl⟩
  have HP : Hid (P5 W1 w.heap.size (.int .u8 0) (.int .i64 0) (.int .u64 0) (.string ⟨#[]⟩) (.slice none 0 0)) := Lib.hid (by rw [← hW1]; exact P5.new _ _ _ _ _ _)
  have HB : Hid (Below w.heap.size w W1) := Lib.hid (by rw [← hW1]; exact (Below.refl _ _).alloc (Nat.le_refl _) _)
  obtain ⟨gv, cv, rfl, hg0, hc0⟩ := h
  have hc : ∀ (i : Nat) (q : PV), [x, y][i]? = some q → ∀ (j : Nat) (u : Value), q.cells[j]? = some u → W1.cell? ⟨gv, i * 7 + j, none⟩ = some u := fun i q hq j u hu => by rw [HB.out.cell (p := ⟨gv, i * 7 + j, none⟩) hg0]; exact hc0 i q hq j u hu
  have hg := Nat.lt_of_lt_of_le hg0 HB.out.size
  obtain ⟨c0, c1, c2, c3, c4, f0, f1, f2, f3, f4⟩ := HP.out.cells
  have v0n : W1.cell? ⟨gv, 1, none⟩ = _ := hc 0 _ rfl 1 _ rfl
  have v0t : W1.cell? ⟨gv, 3, none⟩ = _ := hc 0 _ rfl 3 _ rfl
  have v1n : W1.cell? ⟨gv, 8, none⟩ = _ := hc 1 _ rfl 1 _ rfl
  have v1t : W1.cell? ⟨gv, 10, none⟩ = _ := hc 1 _ rfl 3 _ rfl
  clear hc hc0
  simp only [List.length_cons, List.length_nil] at *
  have hkq : k < x.t.size := by
    have := (List.getElem?_eq_some_iff.1 hk).1
    simpa using this
  have hkc : x.t[k]'hkq = c := by
    obtain ⟨q, hq⟩ := List.getElem?_eq_some_iff.1 hk
    rw [← hq]
    rfl
  rw [hy] at v1n
  clear hk hy
  have hw64 : wrap64 (c.toNat : Int) = (c.toNat : Int) := by have := c.toNat_lt; unfold wrap64; omega
  generalize x.t = T at *
  have d1 : decide ((k : Int) + 1 < 1) = false := decide_eq_false (by omega)
  have d2 : decide ((T.size : Int) < (k : Int) + 1) = false := decide_eq_false (by omega)
  go_enter Tryz.func109, Tryz.ntmps109
  go_wp2_with fail
  go_region
  go_wp2_with fail
  obtain ⟨k0, k1, k2, k3, k4, _, _, _, _, _⟩ := ((HP.out.set (.int .u8 7) (.int .i64 c.toNat) (.int .u64 0) (.string ⟨#[]⟩) (.slice none 0 0)).drew).cells
  exact bodyPost_ret (v := .tuple #[.agg #[.int .u8 7, .int .i64 c.toNat, .int .u64 0, .string ⟨#[]⟩, .slice none 0 0], .bool true]) (by simp [results, Tryz.results109, go_sem, k0, k1, k2, k3, k4]) rfl ⟨rfl, (below_set5 HB.out (Nat.le_refl _) _ _ _ _ _).drew⟩
set_option maxRecDepth 4000 in
set_option maxHeartbeats 4000000 in
theorem cl61_out (x y : PV) (v : Value) (w : World) (h : VRow w v [x, y]) (hy : y.n < 1 ∨ (x.t.size : Int) < y.n) :
    Calls Tryz.prog 109 #[v] w (LitOk w (nolit) false) := by
  obtain ⟨W1, hW1⟩ : ∃ W1, w.alloc (.cells #[.int .u8 0, .int .i64 0, .int .u64 0, .string ⟨#[]⟩, .slice none 0 0] 26) = W1 := ⟨_, rfl⟩
  have HP : Hid (P5 W1 w.heap.size (.int .u8 0) (.int .i64 0) (.int .u64 0) (.string ⟨#[]⟩) (.slice none 0 0)) := Lib.hid (by rw [← hW1]; exact P5.new _ _ _ _ _ _)
  have HB : Hid (Below w.heap.size w W1) := Lib.hid (by rw [← hW1]; exact (Below.refl _ _).alloc (Nat.le_refl _) _)
  obtain ⟨gv, cv, rfl, hg0, hc0⟩ := h
  have hc : ∀ (i : Nat) (q : PV), [x, y][i]? = some q → ∀ (j : Nat) (u : Value), q.cells[j]? = some u → W1.cell? ⟨gv, i * 7 + j, none⟩ = some u := fun i q hq j u hu => by rw [HB.out.cell (p := ⟨gv, i * 7 + j, none⟩) hg0]; exact hc0 i q hq j u hu
  have hg := Nat.lt_of_lt_of_le hg0 HB.out.size
  obtain ⟨c0, c1, c2, c3, c4, f0, f1, f2, f3, f4⟩ := HP.out.cells
  have v0n : W1.cell? ⟨gv, 1, none⟩ = _ := hc 0 _ rfl 1 _ rfl
  have v0t : W1.cell? ⟨gv, 3, none⟩ = _ := hc 0 _ rfl 3 _ rfl
  have v1n : W1.cell? ⟨gv, 8, none⟩ = _ := hc 1 _ rfl 1 _ rfl
  have v1t : W1.cell? ⟨gv, 10, none⟩ = _ := hc 1 _ rfl 3 _ rfl
  clear hc hc0
  simp only [List.length_cons, List.length_nil] at *
  unfold nolit litv
  generalize x.t = T at *
  generalize y.n = N at *
  have hd : decide (N < 1) = true ∨ (decide (N < 1) = false ∧ decide ((T.size : Int) < N) = true) := by
    by_cases h1 : N < 1
    · exact .inl (decide_eq_true h1)
    · exact .inr ⟨decide_eq_false h1, decide_eq_true (by omega)⟩
  go_enter Tryz.func109, Tryz.ntmps109
  go_wp2_with fail
  go_region
  rcases hd with d1 | ⟨d1, d2⟩
  all_goals
    go_wp2_with fail
    obtain ⟨k0, k1, k2, k3, k4, _, _, _, _, _⟩ := ((HP.out.set (.int .u8 0) (.int .i64 0) (.int .u64 0) (.string ⟨#[]⟩) (.slice none 0 0)).drew).cells
    exact bodyPost_ret (v := .tuple #[.agg #[.int .u8 0, .int .i64 0, .int .u64 0, .string ⟨#[]⟩, .slice none 0 0], .bool false]) (by simp [results, Tryz.results109, go_sem, k0, k1, k2, k3, k4]) rfl ⟨rfl, (below_set5 HB.out (Nat.le_refl _) _ _ _ _ _).drew⟩
set_option maxRecDepth 4000 in
set_option maxHeartbeats 4000000 in
theorem cl68 (x y z : PV) (a b : Nat) (v : Value) (w : World) (h : VRow w v [x, y, z]) (hy : y.n = (a : Int) + 1) (hz : z.n = (b : Int)) (hab : a ≤ b) (hb : b ≤ x.t.size) (hs : x.t.size ≤ 65536) :
    Calls Tryz.prog 117 #[v] w (LitOk w (litv 8 0 0 (x.t.extract a b) (.slice none 0 0)) true) := by
  obtain ⟨W1, hW1⟩ : ∃ W1, w.alloc (.cells #[.int .u8 0, .int .i64 0, .int .u64 0, .string ⟨#[]⟩, .slice none 0 0] 26) = W1 := ⟨_, rfl⟩
  have HP : Hid (P5 W1 w.heap.size (.int .u8 0) (.int .i64 0) (.int .u64 0) (.string ⟨#[]⟩) (.slice none 0 0)) := Lib.hid (by rw [← hW1]; exact P5.new _ _ _ _ _ _)
  have HB : Hid (Below w.heap.size w W1) := Lib.hid (by rw [← hW1]; exact (Below.refl _ _).alloc (Nat.le_refl _) _)
  obtain ⟨gv, cv, rfl, hg0, hc0⟩ := h
  have hc : ∀ (i : Nat) (q : PV), [x, y, z][i]? = some q → ∀ (j : Nat) (u : Value), q.cells[j]? = some u → W1.cell? ⟨gv, i * 7 + j, none⟩ = some u := fun i q hq j u hu => by rw [HB.out.cell (p := ⟨gv, i * 7 + j, none⟩) hg0]; exact hc0 i q hq j u hu
  have hg := Nat.lt_of_lt_of_le hg0 HB.out.size
  obtain ⟨c0, c1, c2, c3, c4, f0, f1, f2, f3, f4⟩ := HP.out.cells
  have v0n : W1.cell? ⟨gv, 1, none⟩ = _ := hc 0 _ rfl 1 _ rfl
  have v0t : W1.cell? ⟨gv, 3, none⟩ = _ := hc 0 _ rfl 3 _ rfl
  have v1n : W1.cell? ⟨gv, 8, none⟩ = _ := hc 1 _ rfl 1 _ rfl
  have v1t : W1.cell? ⟨gv, 10, none⟩ = _ := hc 1 _ rfl 3 _ rfl
  have v2n : W1.cell? ⟨gv, 15, none⟩ = _ := hc 2 _ rfl 1 _ rfl
  have v2t : W1.cell? ⟨gv, 17, none⟩ = _ := hc 2 _ rfl 3 _ rfl
  clear hc hc0
  simp only [List.length_cons, List.length_nil] at *
  have HSM := Lib.hid (fun W => ptext_any (x.t.extract a b) W (by rw [ByteArray.size_extract]; omega))
  unfold litv at HSM
  rw [hy] at v1n
  rw [hz] at v2n
  clear hy hz
  generalize x.t = T at *
  have d1 : decide ((a : Int) + 1 < 1) = false := decide_eq_false (by omega)
  have d2 : decide ((T.size : Int) < (b : Int)) = false := decide_eq_false (by omega)
  have d3 : decide ((b : Int) + 1 < (a : Int) + 1) = false := decide_eq_false (by omega)
  go_enter Tryz.func117, Tryz.ntmps117
  go_wp2_with fail
  go_region
  have HBD := Lib.hid HB.out.drew
  have HPD := Lib.hid HP.out.drew
  go_wp2_with fail
  refine (HSM.out _).mono ?_
  rintro e w2 ⟨rfl, hb2⟩
  have HP2 := Lib.hid (HPD.out.below hb2)
  have HB2 := Lib.hid (HBD.out.trans (hb2.mono (by have := HPD.out.lt; omega)))
  clear c0 c1 c2 c3 c4 f0 f1 f2 f3 f4
  obtain ⟨c0, c1, c2, c3, c4, f0, f1, f2, f3, f4⟩ := HP2.out.cells
  go_wp2_with fail
  obtain ⟨k0, k1, k2, k3, k4, _, _, _, _, _⟩ := (HP2.out.set (.int .u8 8) (.int .i64 0) (.int .u64 0) (.string (T.extract a b)) (.slice none 0 0)).cells
  exact bodyPost_ret (v := .tuple #[.agg #[.int .u8 8, .int .i64 0, .int .u64 0, .string (T.extract a b), .slice none 0 0], .bool true]) (by simp [results, Tryz.results117, go_sem, k0, k1, k2, k3, k4]) rfl ⟨rfl, below_set5 HB2.out (Nat.le_refl _) _ _ _ _ _⟩
end Go.Proofs.YtlodbibagmblkaaGreatDoor
