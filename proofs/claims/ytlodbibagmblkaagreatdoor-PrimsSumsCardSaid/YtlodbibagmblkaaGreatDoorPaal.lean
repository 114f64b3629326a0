/- Which primitives the table has. A primitive that fails, since an argument is no value: the contract of Do. How many values a primitive has: the contract of Arity. The law's own literals; what comes out of Do (printed by gen_lsm.py). The primitives of strings done: Do at 61, 62, 63, 66, 67, 68. Sums and differences of large numbers: the contracts of Add, Sub (printed by gen_nas.py). Whole numbers done: Do at 1, 2, 10; Arity at 68, 0. -/
import Derived.Test.YtlodbibagmblkaaGreatDoorPaak
import Derived.Test.YtlodbibagmblkaaGreatDoorPaaf
import Derived.Test.YtlodbibagmblkaaGreatDoorPaaj
namespace Go.Proofs.YtlodbibagmblkaaGreatDoor
open Go Go.RowKit Go.Lib
/-- a literal comes out for sure -/
def Just (k0 n0 : Int) (t0 : ByteArray) (is0 : Bool) (k n b : Int) (t : ByteArray) (is : Bool) : Prop := k = k0 ∧ n = n0 ∧ b = 0 ∧ t = t0 ∧ is = is0
theorem came_just {w w' : World} {e : Ending} {k n : Int} {t : ByteArray} {is : Bool} (h : LitOk w (litv k n 0 t (.slice none 0 0)) is e w') : Came w (Just k n t is) e w' := ⟨k, n, 0, t, is, ⟨rfl, rfl, rfl, rfl, rfl⟩, h.1, h.2⟩
/-- a primitive of the table's strings -/
theorem has_text {n : Int} {ks : ByteArray} {fn : Nat} {vs : List PV} {P : Int → Int → Int → ByteArray → Bool → Prop} (hk : lk textsL n = some (primv ks (.func (.func fn) #[] #[]))) (hc : ∀ W v, VRow W v vs → Calls Tryz.prog fn #[v] W (Came W P)) : HasP n ks fn vs P := fun W =>
  (table_any W).mono fun e W' ⟨b, L, h1, h2, h3, h4⟩ => ⟨b, L, #[], h1, h2, h4, h3.tx n _ hk, fun W2 v _ hv => by simpa using hc W2 v hv⟩
/-- a primitive of two integers -/
theorem has_ints {n : Int} {f : Nat} {vs : List PV} {P : Int → Int → Int → ByteArray → Bool → Prop} (hi : ∀ w L, TabOk w L → InsAt w L n f)
    (hc : ∀ W v p, VRow W v vs → W.cell? ⟨p, 0, none⟩ = some (.func (.func f) #[] #[]) → p < W.heap.size → Calls Tryz.prog 24 #[v, .pointer (some ⟨p, 0, none⟩)] W (Came W P)) : HasP n ⟨#[73, 73]⟩ 24 vs P := fun W =>
  (table_any W).mono fun e W' ⟨b, L, h1, h2, h3, h4⟩ => by
    obtain ⟨p, q1, q2, q3⟩ := hi W' L h3
    exact ⟨b, L, #[.pointer (some ⟨p, 0, none⟩)], h1, h2, h4, q1, fun W2 v hb hv => by
      have := hc W2 v p hv (by rw [hb.cell (p := ⟨p, 0, none⟩) q3]; exact q2) (Nat.lt_of_lt_of_le q3 hb.size)
      simpa using this⟩
end Go.Proofs.YtlodbibagmblkaaGreatDoor
namespace Go.Proofs.YtlodbibagmblkaaGreatDoor
open Go Go.RowKit Go.Lib
set_option maxRecDepth 4000 in
set_option maxHeartbeats 8000000 in
theorem do_bad (n : Int) (ks : ByteArray) (i0 : Nat) (vs : List PV) (ls : List PT) (av : Value) (w : World) (hn : -1000000 ≤ n ∧ n ≤ 1000000) (hl : TRow w av ls) (hks : ks.size = ls.length) (hvl : vs.length = ls.length) (h0 : 0 < ls.length) (h10 : ls.length ≤ 100)
    (hi0 : i0 < ls.length) (hT : ∀ W, Calls Tryz.prog 18 #[] W fun e W' => ∃ b L fn caps, e = .returned (.map (some b)) ∧ MapAt W' b L ∧ Below W.heap.size W W' ∧ lk L n = some (primv ks (.func (.func fn) #[] caps))) (hov : ∀ y ∈ vs, ∃ a l c, y.v = .slice a l c) (hxv : ∀ x ∈ ls, ∃ a l c, x.v = .slice a l c)
    (hof : ∀ (i : Nat) (x : PT) (y : PV) (h : i < ks.size), ls[i]? = some x → vs[i]? = some y → ∀ W, Calls Tryz.prog 19 #[x.lit, .int .u8 (ks[i]'h).toNat] W fun e W' => e = .returned (.tuple #[valv y.k y.n y.b y.t y.v y.g y.s, .bool (decide (i ≠ i0))]) ∧ Below W.heap.size W W') :
    Calls Tryz.prog 11 #[.int .i64 n, av] w fun e w' => e = .returned (.tuple #[nolit, .bool false]) ∧ Below w.heap.size w w' := by
  obtain ⟨ga, ca, rfl, hga, hca⟩ := hl
  obtain ⟨m, hm⟩ : ∃ m, ls.length = m := ⟨_, rfl⟩
  have HM := Lib.hid hm
  rw [hm] at hks hvl h0 h10 hi0 ⊢
  have HVL := Lib.hid hvl
  have HCA := Lib.hid hca
  have HOF := Lib.hid hof
  have HT := Lib.hid hT
  have HOV := Lib.hid hov
  have HXV := Lib.hid hxv
  clear hm hvl hca hof hT hov hxv
  obtain ⟨W1, hW1⟩ : ∃ W1, w.alloc (.cells #[.int .u8 0, .int .i64 0, .int .u64 0, .string ⟨#[]⟩, .slice none 0 0] 26) = W1 := ⟨_, rfl⟩
  have HP : Hid (P5 W1 w.heap.size (.int .u8 0) (.int .i64 0) (.int .u64 0) (.string ⟨#[]⟩) (.slice none 0 0)) := Lib.hid (by rw [← hW1]; exact P5.new _ _ _ _ _ _)
  have HB : Hid (Below w.heap.size w W1) := Lib.hid (by rw [← hW1]; exact (Below.refl _ _).alloc (Nat.le_refl _) _)
  have hs1 : w.heap.size + 1 ≤ W1.heap.size := by rw [← hW1]; simp
  have hzp := zero_prim
  go_enter Tryz.func11, Tryz.ntmps11
  go_wp2_with fail
  refine (HT.out _).mono ?_
  rintro e w2 ⟨b, L, fn, caps, rfl, hmap, hb2, hlk⟩
  have hlook := look_ok hmap (t := 50) Tryz.underlying50 (hzp w2) n hn
  rw [hlk] at hlook
  simp only [primv] at hlook
  have HP2 := Lib.hid (HP.out.below hb2)
  have HB2 := Lib.hid (chain HB.out hb2 (by omega))
  have hs2 : w.heap.size + 1 ≤ w2.heap.size := Nat.le_trans hs1 hb2.size
  obtain ⟨W3, hW3⟩ : ∃ W3, w2.alloc (.cells #[.string ks, .func (.func fn) #[] caps] 48) = W3 := ⟨_, rfl⟩
  have hb3 : Below w2.heap.size w2 W3 := by rw [← hW3]; exact (Below.refl _ _).alloc (Nat.le_refl _) _
  have HK : Hid (P2 W3 w2.heap.size 48 (.string ks) (.func (.func fn) #[] caps)) := Lib.hid (by rw [← hW3]; exact P2.new _ _ _ _)
  have HP3 := Lib.hid (HP2.out.below hb3)
  have HB3 := Lib.hid (chain HB2.out hb3 (by omega))
  have HBT := Lib.hid hb3
  have hs3 : w2.heap.size + 1 ≤ W3.heap.size := by rw [← hW3]; simp
  clear hb2 hmap hlk hb3 hW1 HP HB HP2 HB2
  obtain ⟨k0, k1, _, _⟩ := HK.out.cells
  have hkI : ((ks.size : Int) == (m : Int)) = true := by rw [beq_iff_eq]; omega
  have hksI : (ks.size : Int) = (m : Int) := by omega
  go_wp2_with fail
  go_loopw [8, 33] (fun vv i wr => ∃ j : Nat, j ≤ i0 ∧ i = .int .i64 j ∧ OwnV wr W3.heap.size vv (vs.take j) ∧ Below W3.heap.size W3 wr) (fun _ i _ => m - (RowKit.intOf i).toNat)
  case atStart => exact ⟨0, Nat.zero_le _, rfl, by rw [List.take_zero]; exact Owns.nil _ _ _ _, Below.refl _ _⟩
  case round =>
    obtain ⟨j, hj, rfl, hown, hb⟩ := hrel
    have HOW := Lib.hid hown
    have HBR := Lib.hid hb
    have hsr := hb.size
    obtain ⟨oa, oc, rfl⟩ := hown.form
    have htl : (vs.take j).length = j := by rw [List.length_take, HVL.out]; omega
    rw [htl] at HOW ⊢
    clear hown hb
    have hlt : j < m := by omega
    · obtain ⟨x, hx⟩ : ∃ x, ls[j]? = some x := ⟨_, List.getElem?_eq_getElem (by rw [HM.out]; exact hlt)⟩
      obtain ⟨y, hy⟩ : ∃ y, vs[j]? = some y := ⟨_, List.getElem?_eq_getElem (by rw [HVL.out]; exact hlt)⟩
      have hq : j < ks.size := by omega
      have HO := Lib.hid (HOF.out j x y hq hx hy)
      obtain ⟨ya, yl, yc, hyv⟩ := HOV.out y (List.mem_of_getElem? hy)
      obtain ⟨xa, xl, xc, hxv⟩ := HXV.out x (List.mem_of_getElem? hx)
      have HTS : Hid (vs.take (j + 1) = vs.take j ++ [y]) := Lib.hid (by
        have hjl : j < vs.length := by rw [HVL.out]; exact hlt
        rw [List.take_succ_eq_append_getElem hjl]
        rw [List.getElem?_eq_getElem hjl] at hy
        injection hy with hy
        rw [hy])
      have hcx : ∀ (q : Nat) (u : Value), x.cells[q]? = some u → wr.cell? ⟨ga, j * 5 + q, none⟩ = some u := fun q u hu => by
        rw [HBR.out.cell (p := ⟨ga, j * 5 + q, none⟩) (by show ga < _; omega), HB3.out.cell (p := ⟨ga, j * 5 + q, none⟩) hga]
        exact HCA.out j x hx q u hu
      have a0 : wr.cell? ⟨ga, j * 5, none⟩ = some (.int .u8 x.k) := hcx 0 _ rfl
      have a1 := hcx 1 _ rfl
      have a2 := hcx 2 _ rfl
      have a3 := hcx 3 _ rfl
      have a4 := hcx 4 _ rfl
      have hkk : wr.cell? ⟨w2.heap.size, 0, none⟩ = some (.string ks) := by rw [HBR.out.cell (p := ⟨w2.heap.size, 0, none⟩) (by show w2.heap.size < _; omega)]; exact k0
      obtain ⟨kc, hkc⟩ : ∃ kc, ks[j]'hq = kc := ⟨_, rfl⟩
      rw [hkc] at HO
      obtain ⟨is, his⟩ : ∃ is, decide (j ≠ i0) = is := ⟨_, rfl⟩
      rw [his] at HO
      clear hcx hx hy
      obtain ⟨xk, xn, xb, xt, xv⟩ := x
      obtain ⟨yk, yn, yb, yt, yv, yg, ys⟩ := y
      simp only at hxv hyv a0 a1 a2 a3 a4
      subst hxv hyv
      obtain ⟨W5, hW5⟩ : ∃ W5, wr.alloc (.cells #[.int .u8 xk, .int .i64 xn, .int .u64 xb, .string xt, .slice xa xl xc] 26) = W5 := ⟨_, rfl⟩
      have hb5 : Below wr.heap.size wr W5 := by rw [← hW5]; exact (Below.refl _ _).alloc (Nat.le_refl _) _
      have HX5 : Hid (P5 W5 wr.heap.size (.int .u8 xk) (.int .i64 xn) (.int .u64 xb) (.string xt) (.slice xa xl xc)) := Lib.hid (by rw [← hW5]; exact P5.new _ _ _ _ _ _)
      have hs5 : wr.heap.size + 1 ≤ W5.heap.size := by rw [← hW5]; simp
      have hk5 : W5.cell? ⟨w2.heap.size, 0, none⟩ = some (.string ks) := by rw [hb5.cell (p := ⟨w2.heap.size, 0, none⟩) (by show w2.heap.size < _; omega)]; exact hkk
      have HB5 := Lib.hid hb5
      clear hb5
      have HS : Hid (∀ W, Below W5.heap.size W5 W → W.cell? ⟨wr.heap.size, 0, none⟩ = some (.int .u8 xk) ∧ W.cell? ⟨wr.heap.size, 1, none⟩ = some (.int .i64 xn) ∧ W.cell? ⟨wr.heap.size, 2, none⟩ = some (.int .u64 xb) ∧ W.cell? ⟨wr.heap.size, 3, none⟩ = some (.string xt) ∧ W.cell? ⟨wr.heap.size, 4, none⟩ = some (.slice xa xl xc) ∧ W.cell? ⟨w2.heap.size, 0, none⟩ = some (.string ks)) := Lib.hid (fun W hb => ⟨(HX5.out.below hb).cells.c0, (HX5.out.below hb).cells.c1, (HX5.out.below hb).cells.c2, (HX5.out.below hb).cells.c3, (HX5.out.below hb).cells.c4, by rw [hb.cell (p := ⟨w2.heap.size, 0, none⟩) (by show w2.heap.size < _; omega)]; exact hk5⟩)
      have HS7 : Hid (∀ W, Below W5.heap.size W5 W → ∀ A, W5.heap.size ≤ A → ∀ a b c d e f g, (set7 W A a b c d e f g).cell? ⟨wr.heap.size, 0, none⟩ = some (.int .u8 xk) ∧ (set7 W A a b c d e f g).cell? ⟨wr.heap.size, 1, none⟩ = some (.int .i64 xn) ∧ (set7 W A a b c d e f g).cell? ⟨wr.heap.size, 2, none⟩ = some (.int .u64 xb) ∧ (set7 W A a b c d e f g).cell? ⟨wr.heap.size, 3, none⟩ = some (.string xt) ∧ (set7 W A a b c d e f g).cell? ⟨wr.heap.size, 4, none⟩ = some (.slice xa xl xc) ∧ (set7 W A a b c d e f g).cell? ⟨w2.heap.size, 0, none⟩ = some (.string ks)) := Lib.hid (fun W hb A hA a b c d e f g => HS.out _ (below_set7 hb hA a b c d e f g))
      unfold set7 at HS7
      have BD := Lib.hid (show Below W5.heap.size W5 W5.drew from (Below.refl _ W5).drew)
      have BA := Lib.hid (show Below W5.heap.size W5 (W5.alloc (.cells #[.int .u8 0, .int .i64 0, .int .u64 0, .string ⟨#[]⟩, .slice none 0 0, .bool false, .string ⟨#[]⟩] 54)).drew from ((Below.refl _ W5).alloc (Nat.le_refl _) _).drew)
      have PA := Lib.hid (show P7 (W5.alloc (.cells #[.int .u8 0, .int .i64 0, .int .u64 0, .string ⟨#[]⟩, .slice none 0 0, .bool false, .string ⟨#[]⟩] 54)).drew W5.heap.size (.int .u8 0) (.int .i64 0) (.int .u64 0) (.string ⟨#[]⟩) (.slice none 0 0) (.bool false) (.string ⟨#[]⟩) from (P7.new W5 _ _ _ _ _ _ _).drew)
      obtain ⟨x0, x1, x2, x3, x4, _, _, _, _, _⟩ := HX5.out.cells
      unfold PT.lit litv valv at HO
      simp only at HO
      go_wp2_with fail
      go_region_held3 (fun W => W.cell? ⟨wr.heap.size, 0, none⟩ = some (.int .u8 xk) ∧ W.cell? ⟨wr.heap.size, 1, none⟩ = some (.int .i64 xn) ∧ W.cell? ⟨wr.heap.size, 2, none⟩ = some (.int .u64 xb) ∧ W.cell? ⟨wr.heap.size, 3, none⟩ = some (.string xt) ∧ W.cell? ⟨wr.heap.size, 4, none⟩ = some (.slice xa xl xc) ∧ W.cell? ⟨w2.heap.size, 0, none⟩ = some (.string ks)) (first | with_reducible exact ⟨x0, x1, x2, x3, x4, hk5⟩ | with_reducible exact HS.out _ BD.out | with_reducible exact HS.out _ BA.out | with_reducible exact HS.out _ hb6 | (with_reducible refine HS.out _ ?_; exact hb6.alloc hb6.size _) | (with_reducible refine HS7.out _ hb6 _ ?_ _ _ _ _ _ _ _; omega)) ((go_at_call 19; (with_reducible refine (HO.out _).mono ?_); rintro e w6 ⟨rfl, hb6d⟩; (first | (have PA6 := Lib.hid (PA.out.below hb6d); have hb6 : Below W5.heap.size W5 w6 := BA.out.trans (hb6d.mono BA.out.size); obtain ⟨z0, z1, z2, z3, z4, z5, z6, y0, y1, y2, y3, y4, y5, y6⟩ := PA6.out.cells) | (have hb6 : Below W5.heap.size W5 w6 := BD.out.trans hb6d)); clear hb6d))
      all_goals
        clear x0 x1 x2 x3 x4 a0 a1 a2 a3 a4 hkk hk5 HS HS7
        first
        | (have HV := Lib.hid (PA6.out.set (.int .u8 yk) (.int .i64 yn) (.int .u64 yb) (.string yt) (.slice ya yl yc) (.bool yg) (.string ys))
           have HBX := Lib.hid (below_set7 hb6 (Nat.le_refl _) (.int .u8 yk) (.int .i64 yn) (.int .u64 yb) (.string yt) (.slice ya yl yc) (.bool yg) (.string ys))
           clear z0 z1 z2 z3 z4 z5 z6 y0 y1 y2 y3 y4 y5 y6 PA6
           unfold set7 at HV HBX
           generalize hWx : ((((((w6.setCell ⟨W5.heap.size, 0, none⟩ (.int .u8 yk)).setCell ⟨W5.heap.size, 1, none⟩ (.int .i64 yn)).setCell ⟨W5.heap.size, 2, none⟩ (.int .u64 yb)).setCell ⟨W5.heap.size, 3, none⟩ (.string yt)).setCell ⟨W5.heap.size, 4, none⟩ (.slice ya yl yc)).setCell ⟨W5.heap.size, 5, none⟩ (.bool yg)).setCell ⟨W5.heap.size, 6, none⟩ (.string ys) = Wx at HV HBX ⊢
           clear hWx)
        | (have HV := Lib.hid (P7.new w6 (.int .u8 yk) (.int .i64 yn) (.int .u64 yb) (.string yt) (.slice ya yl yc) (.bool yg) (.string ys))
           have HBX := Lib.hid (hb6.alloc hb6.size (.cells #[.int .u8 yk, .int .i64 yn, .int .u64 yb, .string yt, .slice ya yl yc, .bool yg, .string ys] 54))
           generalize hWx : w6.alloc (.cells #[.int .u8 yk, .int .i64 yn, .int .u64 yb, .string yt, .slice ya yl yc, .bool yg, .string ys] 54) = Wx at HV HBX ⊢
           clear hWx)
        clear hb6
        have HBW := Lib.hid (HB5.out.trans (HBX.out.mono (by omega)))
        have HOX : Hid (OwnV Wx W3.heap.size (.slice oa j oc) (vs.take j)) := Lib.hid (Owns.below HOW.out HBW.out (fun k hk => (Owns.lt HOW.out k hk).2))
        have hsx := HBW.out.size
        cases is
        · have HPR := Lib.hid (HP3.out.under (HBR.out.trans (HBW.out.mono hsr)) (by omega))
          have HBF := Lib.hid (HB3.out.trans ((HBR.out.trans (HBW.out.mono hsr)).mono (by omega)))
          obtain ⟨c0, c1, c2, c3, c4, f0, f1, f2, f3, f4⟩ := HPR.out.cells
          clear hlook hzp hW3 hksI hkI k0 k1 HOX HBX HV
          go_wp2_with fail
          obtain ⟨r0, r1, r2, r3, r4, _, _, _, _, _⟩ := (HPR.out.set (.int .u8 0) (.int .i64 0) (.int .u64 0) (.string ⟨#[]⟩) (.slice none 0 0)).cells
          exact bodyPost_ret (v := .tuple #[.agg #[.int .u8 0, .int .i64 0, .int .u64 0, .string ⟨#[]⟩, .slice none 0 0], .bool false]) (by simp [results, Tryz.results11, go_sem, r0, r1, r2, r3, r4]) rfl ⟨rfl, below_set5 HBF.out (Nat.le_refl _) _ _ _ _ _⟩
        · have hji := of_decide_eq_true his
          obtain ⟨v0, v1, v2, v3, v4, v5, v6, _, _, _, _, _, _, _⟩ := HV.out.cells
          go_wp2_with (at_builtin; refine wpList_appv rfl (.tmp 50) (.tmp 52) rfl W3.heap.size _ (vs.take j) rfl HOX.out ⟨yk, yn, yb, yt, .slice ya yl yc, yg, ys⟩ _ rfl rfl rfl (by rw [htl]; omega) (by omega) ?_)
          intro v8 w8 ho8 hg8
          have HO8 : Hid (OwnV w8 W3.heap.size v8 (vs.take (j + 1))) := Lib.hid (by rw [HTS.out]; exact ho8)
          have HB8 := Lib.hid (hg8.below (HBR.out.trans (HBW.out.mono hsr)) (by omega) (fun k hk => (Owns.lt HOX.out k hk).1))
          obtain ⟨oa8, oc8, rfl⟩ := ho8.form
          clear ho8 hg8
          go_wp2_with fail
          go_roundw
          case rel => exact ⟨j + 1, by omega, by go_num, HO8.out, HB8.out⟩
          case measure => simp [RowKit.intOf]; omega
end Go.Proofs.YtlodbibagmblkaaGreatDoor
namespace Go.Proofs.YtlodbibagmblkaaGreatDoor
open Go Go.RowKit Go.Lib
set_option maxRecDepth 4000 in
set_option maxHeartbeats 2000000 in
theorem arity_has (n : Int) (ks : ByteArray) (f : Value) (w : World) (hn : -1000000 ≤ n ∧ n ≤ 1000000) (hf : ∃ fn caps, f = .func (.func fn) #[] caps)
    (hT : ∀ W, Calls Tryz.prog 18 #[] W fun e W' => ∃ b L, e = .returned (.map (some b)) ∧ MapAt W' b L ∧ Below W.heap.size W W' ∧ lk L n = some (primv ks f)) :
    Calls Tryz.prog 13 #[.int .i64 n] w fun e w' => e = .returned (.int .i64 ks.size) ∧ Below w.heap.size w w' := by
  obtain ⟨fn, caps, rfl⟩ := hf
  have hzp := zero_prim
  go_enter Tryz.func13, Tryz.ntmps13
  go_wp2_with fail
  refine (hT _).mono ?_
  rintro e w2 ⟨b, L, rfl, hmap, hb2, hlk⟩
  have hlook := look_ok hmap (t := 50) Tryz.underlying50 (hzp w2) n hn
  rw [hlk] at hlook
  simp only [primv] at hlook
  have HB2 := Lib.hid hb2
  have hs2 := hb2.size
  clear hmap hlk hb2 hT
  have HK := P2.new w2 48 (.string ks) (.func (.func fn) #[] caps)
  obtain ⟨k0, k1, _, _⟩ := HK.cells
  clear HK
  go_wp2_with fail
  go_ret
  exact ⟨rfl, HB2.out.alloc hs2 _⟩
set_option maxRecDepth 4000 in
set_option maxHeartbeats 2000000 in
theorem arity_none (n : Int) (w : World) (hn : -1000000 ≤ n ∧ n ≤ 1000000)
    (hT : ∀ W, Calls Tryz.prog 18 #[] W fun e W' => ∃ b L, e = .returned (.map (some b)) ∧ MapAt W' b L ∧ Below W.heap.size W W' ∧ lk L n = none) :
    Calls Tryz.prog 13 #[.int .i64 n] w fun e w' => e = .returned (.int .i64 (-1)) ∧ Below w.heap.size w w' := by
  have hzp := zero_prim
  go_enter Tryz.func13, Tryz.ntmps13
  go_wp2_with fail
  refine (hT _).mono ?_
  rintro e w2 ⟨b, L, rfl, hmap, hb2, hlk⟩
  have hlook := look_ok hmap (t := 50) Tryz.underlying50 (hzp w2) n hn
  rw [hlk] at hlook
  simp only at hlook
  have HB2 := Lib.hid hb2
  have hs2 := hb2.size
  clear hmap hlk hb2 hT
  have HK := P2.new w2 48 (.string ⟨#[]⟩) .nilFunc
  obtain ⟨k0, k1, _, _⟩ := HK.cells
  clear HK
  go_wp2_with fail
  go_ret
  exact ⟨rfl, HB2.out.alloc hs2 _⟩
end Go.Proofs.YtlodbibagmblkaaGreatDoor
namespace Go.Proofs.YtlodbibagmblkaaGreatDoor
open Go Go.RowKit Go.Lib
/-- what comes out in the end: nothing where it fails -/
def Fin (P : Int → Int → Int → ByteArray → Bool → Prop) (k n b : Int) (t : ByteArray) (is : Bool) : Prop := (is = true ∧ P k n b t true) ∨ (is = false ∧ (∃ k' n' b' t', P k' n' b' t' false) ∧ k = 0 ∧ n = 0 ∧ b = 0 ∧ t = ⟨#[]⟩)
theorem done_came {w w' : World} {P : Int → Int → Int → ByteArray → Bool → Prop} {e : Ending} (h : Done w P e w') : Came w (Fin P) e w' := by
  obtain ⟨k, n, b, t, is, hP, rfl, hb⟩ := h
  cases is
  · exact ⟨0, 0, 0, ⟨#[]⟩, false, .inr ⟨rfl, ⟨_, _, _, _, hP⟩, rfl, rfl, rfl, rfl⟩, rfl, hb⟩
  · exact ⟨k, n, b, t, true, .inl ⟨rfl, hP⟩, rfl, hb⟩
theorem bad_came {w w' : World} {e : Ending} (h : e = .returned (.tuple #[nolit, .bool false]) ∧ Below w.heap.size w w') : Came w (Just 0 0 ⟨#[]⟩ false) e w' := ⟨0, 0, 0, ⟨#[]⟩, false, ⟨rfl, rfl, rfl, rfl, rfl⟩, h.1, h.2⟩
theorem trow_get {l : List PT} {i : Nat} {x : PT} (h : l[i]? = some x) {j : Nat} {u : Value} (hu : x.cells[j]? = some u) : (l.flatMap PT.cells)[i * 5 + j]? = some u := by
  induction l generalizing i with
  | nil => simp at h
  | cons y l ih =>
    rw [List.flatMap_cons]
    have hl : y.cells.length = 5 := rfl
    cases i with
    | zero =>
      simp at h; subst h
      have hj : j < y.cells.length := (List.getElem?_eq_some_iff.1 hu).1
      rw [Nat.zero_mul, Nat.zero_add, List.getElem?_append_left hj]
      exact hu
    | succ i =>
      rw [List.getElem?_append_right (by rw [hl]; omega), hl, show (i + 1) * 5 + j - 5 = i * 5 + j by omega]
      exact ih (by simpa using h)
theorem trow_new (W : World) (l : List PT) (cs : Array Value) (T : TypeId) (h : cs.toList = l.flatMap PT.cells) (m : Nat) (hm : m = l.length) : TRow (W.alloc (.cells cs T)) (.slice (some ⟨W.heap.size, 0, none⟩) m m) l := by
  subst hm
  refine ⟨W.heap.size, l.length, rfl, by simp, fun i x hx j u hu => ?_⟩
  rw [World.cell?_alloc_new, ← Array.getElem?_toList, h]
  exact trow_get hx hu
set_option maxHeartbeats 1000000 in
theorem lsm_any (n : Int) (w : World) : Calls Tryz.prog 12 #[.int .i64 n] w fun e w' => e = .returned (litv 4 n 0 ⟨#[]⟩ (.slice none 0 0)) ∧ Below w.heap.size w w' := by
  obtain ⟨W1, hW1⟩ : ∃ W1, w.alloc (.cells #[.int .u8 0, .int .i64 0, .int .u64 0, .string ⟨#[]⟩, .slice none 0 0] 26) = W1 := ⟨_, rfl⟩
  have HP : Hid (P5 W1 w.heap.size (.int .u8 0) (.int .i64 0) (.int .u64 0) (.string ⟨#[]⟩) (.slice none 0 0)) := Lib.hid (by rw [← hW1]; exact P5.new _ _ _ _ _ _)
  have HB : Hid (Below w.heap.size w W1) := Lib.hid (by rw [← hW1]; exact (Below.refl _ _).alloc (Nat.le_refl _) _)
  obtain ⟨c0, c1, c2, c3, c4, f0, f1, f2, f3, f4⟩ := HP.out.cells
  go_enter Tryz.func12, Tryz.ntmps12
  go_wp2_with fail
  obtain ⟨k0, k1, k2, k3, k4, _, _, _, _, _⟩ := (HP.out.set (.int .u8 4) (.int .i64 n) (.int .u64 0) (.string ⟨#[]⟩) (.slice none 0 0)).cells
  exact bodyPost_ret (v := litv 4 n 0 ⟨#[]⟩ (.slice none 0 0)) (by simp [results, Tryz.results12, go_sem, litv, k0, k1, k2, k3, k4]) rfl ⟨rfl, below_set5 HB.out (Nat.le_refl _) _ _ _ _ _⟩
set_option maxHeartbeats 1000000 in
theorem ltx_any (s : ByteArray) (w : World) : Calls Tryz.prog 15 #[.string s] w fun e w' => e = .returned (litv 8 0 0 s (.slice none 0 0)) ∧ Below w.heap.size w w' := by
  obtain ⟨W1, hW1⟩ : ∃ W1, w.alloc (.cells #[.int .u8 0, .int .i64 0, .int .u64 0, .string ⟨#[]⟩, .slice none 0 0] 26) = W1 := ⟨_, rfl⟩
  have HP : Hid (P5 W1 w.heap.size (.int .u8 0) (.int .i64 0) (.int .u64 0) (.string ⟨#[]⟩) (.slice none 0 0)) := Lib.hid (by rw [← hW1]; exact P5.new _ _ _ _ _ _)
  have HB : Hid (Below w.heap.size w W1) := Lib.hid (by rw [← hW1]; exact (Below.refl _ _).alloc (Nat.le_refl _) _)
  obtain ⟨c0, c1, c2, c3, c4, f0, f1, f2, f3, f4⟩ := HP.out.cells
  go_enter Tryz.func15, Tryz.ntmps15
  go_wp2_with fail
  obtain ⟨k0, k1, k2, k3, k4, _, _, _, _, _⟩ := (HP.out.set (.int .u8 8) (.int .i64 0) (.int .u64 0) (.string s) (.slice none 0 0)).cells
  exact bodyPost_ret (v := litv 8 0 0 s (.slice none 0 0)) (by simp [results, Tryz.results15, go_sem, litv, k0, k1, k2, k3, k4]) rfl ⟨rfl, below_set5 HB.out (Nat.le_refl _) _ _ _ _ _⟩
set_option maxHeartbeats 4000000 in
theorem ldo_any (n : Int) (x y : PT) (xa ya : Option Addr) (xl yl xc yc : Nat) (P : Int → Int → Int → ByteArray → Bool → Prop) (w : World) (hx : x.v = .slice xa xl xc) (hy : y.v = .slice ya yl yc)
    (hd : ∀ W av, TRow W av [x, y] → Calls Tryz.prog 11 #[.int .i64 n, av] W (Came W P)) :
    Calls Tryz.prog 9 #[.int .i64 n, x.lit, y.lit] w (Came w P) := by
  obtain ⟨xk, xn, xb, xt, xv⟩ := x
  obtain ⟨yk, yn, yb, yt, yv⟩ := y
  simp only at hx hy
  subst hx hy
  have HD := Lib.hid hd
  clear hd
  unfold PT.lit litv
  simp only
  obtain ⟨W3, hW3⟩ : ∃ W3, ((w.alloc (.cells #[.int .u8 xk, .int .i64 xn, .int .u64 xb, .string xt, .slice xa xl xc] 26)).alloc (.cells #[.int .u8 yk, .int .i64 yn, .int .u64 yb, .string yt, .slice ya yl yc] 26)).alloc (.cells #[.int .u8 0, .int .i64 0, .int .u64 0, .string ⟨#[]⟩, .slice none 0 0] 26) = W3 := ⟨_, rfl⟩
  have HX : Hid (P5 W3 w.heap.size (.int .u8 xk) (.int .i64 xn) (.int .u64 xb) (.string xt) (.slice xa xl xc)) := Lib.hid (by rw [← hW3]; exact ((P5.new _ _ _ _ _ _).alloc _).alloc _)
  have HY : Hid (P5 W3 (w.heap.size + 1) (.int .u8 yk) (.int .i64 yn) (.int .u64 yb) (.string yt) (.slice ya yl yc)) := Lib.hid (by
    rw [← hW3]
    have := (P5.new (w.alloc (.cells #[.int .u8 xk, .int .i64 xn, .int .u64 xb, .string xt, .slice xa xl xc] 26)) (.int .u8 yk) (.int .i64 yn) (.int .u64 yb) (.string yt) (.slice ya yl yc)).alloc (.cells #[.int .u8 0, .int .i64 0, .int .u64 0, .string ⟨#[]⟩, .slice none 0 0] 26)
    simpa using this)
  have HR : Hid (P5 W3 (w.heap.size + 2) (.int .u8 0) (.int .i64 0) (.int .u64 0) (.string ⟨#[]⟩) (.slice none 0 0)) := Lib.hid (by
    rw [← hW3]
    have := P5.new ((w.alloc (.cells #[.int .u8 xk, .int .i64 xn, .int .u64 xb, .string xt, .slice xa xl xc] 26)).alloc (.cells #[.int .u8 yk, .int .i64 yn, .int .u64 yb, .string yt, .slice ya yl yc] 26)) (.int .u8 0) (.int .i64 0) (.int .u64 0) (.string ⟨#[]⟩) (.slice none 0 0)
    simpa using this)
  have HB : Hid (Below w.heap.size w W3) := Lib.hid (by rw [← hW3]; exact (((Below.refl _ _).alloc (Nat.le_refl _) _).alloc (by simp) _).alloc (by simp; omega) _)
  have hs : w.heap.size + 3 ≤ W3.heap.size := by rw [← hW3]; simp
  obtain ⟨x0, x1, x2, x3, x4, _, _, _, _, _⟩ := HX.out.cells
  obtain ⟨y0, y1, y2, y3, y4, _, _, _, _, _⟩ := HY.out.cells
  go_enter Tryz.func9, Tryz.ntmps9
  go_wp2_with fail
  have HTR := trow_new W3 [⟨xk, xn, xb, xt, .slice xa xl xc⟩, ⟨yk, yn, yb, yt, .slice ya yl yc⟩] #[.int .u8 xk, .int .i64 xn, .int .u64 xb, .string xt, .slice xa xl xc, .int .u8 yk, .int .i64 yn, .int .u64 yb, .string yt, .slice ya yl yc] 26 rfl 2 rfl
  refine (HD.out _ _ HTR).mono ?_
  rintro e w5 ⟨k5, n5, b5, t5, is5, hP5, rfl, hb5⟩
  have HPP := Lib.hid hP5
  have HR5 := Lib.hid ((HR.out.alloc (.cells #[.int .u8 xk, .int .i64 xn, .int .u64 xb, .string xt, .slice xa xl xc, .int .u8 yk, .int .i64 yn, .int .u64 yb, .string yt, .slice ya yl yc] 26)).below hb5)
  have HB5 := Lib.hid ((HB.out.alloc (by omega) (.cells #[.int .u8 xk, .int .i64 xn, .int .u64 xb, .string xt, .slice xa xl xc, .int .u8 yk, .int .i64 yn, .int .u64 yb, .string yt, .slice ya yl yc] 26)).trans (hb5.mono (by simp; omega)))
  clear hb5 hP5 HTR x0 x1 x2 x3 x4 y0 y1 y2 y3 y4 HX HY HR HB hW3
  obtain ⟨c0, c1, c2, c3, c4, f0, f1, f2, f3, f4⟩ := HR5.out.cells
  unfold litv
  go_wp2_with fail
  obtain ⟨k0, k1, k2, k3, k4, _, _, _, _, _⟩ := (HR5.out.set (.int .u8 k5) (.int .i64 n5) (.int .u64 b5) (.string t5) (.slice none 0 0)).cells
  exact bodyPost_ret (v := .tuple #[.agg #[.int .u8 k5, .int .i64 n5, .int .u64 b5, .string t5, .slice none 0 0], .bool is5]) (by simp [results, Tryz.results9, go_sem, k0, k1, k2, k3, k4]) rfl ⟨k5, n5, b5, t5, is5, HPP.out, rfl, below_set5 HB5.out (by omega) _ _ _ _ _⟩
end Go.Proofs.YtlodbibagmblkaaGreatDoor
namespace Go.Proofs.YtlodbibagmblkaaGreatDoor
open Go Go.RowKit Go.Lib
/-- literals and their values -/
def tsm (n : Int) : PT := ⟨4, n, 0, ⟨#[]⟩, .slice none 0 0⟩
def tst (s : ByteArray) : PT := ⟨8, 0, 0, s, .slice none 0 0⟩
def tsy (s : ByteArray) : PT := ⟨9, 0, 0, s, .slice none 0 0⟩
def vsm (n : Int) : PV := ⟨4, n, 0, ⟨#[]⟩, .slice none 0 0, decide (n < 0), bs (Pl.dgs n.natAbs)⟩
def vst (s : ByteArray) : PV := ⟨8, 0, 0, s, .slice none 0 0, false, ⟨#[]⟩⟩
def vsy (s : ByteArray) : PV := ⟨9, 0, 0, s, .slice none 0 0, false, ⟨#[]⟩⟩
def OfV (x : PT) (c : Nat) (y : PV) (is : Bool) : Prop := ∀ W, Calls Tryz.prog 19 #[x.lit, .int .u8 c] W fun e W' => e = .returned (.tuple #[valv y.k y.n y.b y.t y.v y.g y.s, .bool is]) ∧ Below W.heap.size W W'
theorem of_tst (s : ByteArray) (hs : s.size ≤ 65536) : OfV (tst s) 83 (vst s) true := fun W => of_str s none 0 W hs
theorem of_tsy (s : ByteArray) (hs : s.size ≤ 65536) : OfV (tsy s) 89 (vsy s) true := fun W => of_sym s none 0 W hs
theorem of_tsm (n : Int) (c : Nat) (hc : c = 73 ∨ c = 76) (h1 : -9223372036854775808 ≤ n) (h2 : n ≤ 9223372036854775807) : OfV (tsm n) c (vsm n) (decide (FitsI n)) := fun W => of_small n c none 0 W h1 h2 hc
theorem of_tsmF (n : Int) (c : Nat) (hc : c = 73 ∨ c = 76) (h : FitsI n) : OfV (tsm n) c (vsm n) true := by
  have := of_tsm n c hc (by unfold FitsI at h; omega) (by unfold FitsI at h; omega)
  rwa [decide_eq_true h] at this
theorem vs_slice {l : List PV} (h : ∀ y ∈ l, y.v = .slice none 0 0) : ∀ y ∈ l, ∃ a n c, y.v = .slice a n c := fun y hy => ⟨_, _, _, h y hy⟩
theorem ts_slice {l : List PT} (h : ∀ y ∈ l, y.v = .slice none 0 0) : ∀ y ∈ l, ∃ a n c, y.v = .slice a n c := fun y hy => ⟨_, _, _, h y hy⟩

/-- what of answers of each argument -/
def Hof (ks : ByteArray) (ls : List PT) (vs : List PV) (B : Nat → Bool) : Prop := ∀ (i : Nat) (x : PT) (y : PV) (h : i < ks.size), ls[i]? = some x → vs[i]? = some y → ∀ W, Calls Tryz.prog 19 #[x.lit, .int .u8 (ks[i]'h).toNat] W fun e W' => e = .returned (.tuple #[valv y.k y.n y.b y.t y.v y.g y.s, .bool (B i)]) ∧ Below W.heap.size W W'
theorem hof1 {c : UInt8} {x : PT} {y : PV} {B : Nat → Bool} (h0 : OfV x c.toNat y (B 0)) : Hof ⟨#[c]⟩ [x] [y] B := fun i x' y' hi hx hy W => by
  have hi' : i < 1 := hi
  obtain rfl : i = 0 := by omega
  obtain rfl : x = x' := by simpa using hx
  obtain rfl : y = y' := by simpa using hy
  exact h0 W
theorem hof2 {c d : UInt8} {x x2 : PT} {y y2 : PV} {B : Nat → Bool} (h0 : OfV x c.toNat y (B 0)) (h1 : OfV x2 d.toNat y2 (B 1)) : Hof ⟨#[c, d]⟩ [x, x2] [y, y2] B := fun i x' y' hi hx hy W => by
  have hi' : i < 2 := hi
  obtain rfl | rfl : i = 0 ∨ i = 1 := by omega
  · obtain rfl : x = x' := by simpa using hx
    obtain rfl : y = y' := by simpa using hy
    exact h0 W
  · obtain rfl : x2 = x' := by simpa using hx
    obtain rfl : y2 = y' := by simpa using hy
    exact h1 W
theorem hof3 {c d f : UInt8} {x x2 x3 : PT} {y y2 y3 : PV} {B : Nat → Bool} (h0 : OfV x c.toNat y (B 0)) (h1 : OfV x2 d.toNat y2 (B 1)) (h2 : OfV x3 f.toNat y3 (B 2)) : Hof ⟨#[c, d, f]⟩ [x, x2, x3] [y, y2, y3] B := fun i x' y' hi hx hy W => by
  have hi' : i < 3 := hi
  obtain rfl | rfl | rfl : i = 0 ∨ i = 1 ∨ i = 2 := by omega
  · obtain rfl : x = x' := by simpa using hx
    obtain rfl : y = y' := by simpa using hy
    exact h0 W
  · obtain rfl : x2 = x' := by simpa using hx
    obtain rfl : y2 = y' := by simpa using hy
    exact h1 W
  · obtain rfl : x3 = x' := by simpa using hx
    obtain rfl : y3 = y' := by simpa using hy
    exact h2 W
/-- Do where all arguments are values, told short -/
theorem do_ok (n : Int) (ks : ByteArray) (fn : Nat) (vs : List PV) (ls : List PT) (P : Int → Int → Int → ByteArray → Bool → Prop) (av : Value) (w : World) (hn : -1000000 ≤ n ∧ n ≤ 1000000) (hl : TRow w av ls) (hks : ks.size = ls.length) (hvl : vs.length = ls.length) (h0 : 0 < ls.length) (h10 : ls.length ≤ 100)
    (hcf : ∀ args W, (callFunc fn args).run Tryz.prog W = .ok (.enter fn args) W) (hT : HasP n ks fn vs P) (hov : ∀ y ∈ vs, y.v = .slice none 0 0) (hxv : ∀ x ∈ ls, x.v = .slice none 0 0) (hof : Hof ks ls vs fun _ => true) :
    Calls Tryz.prog 11 #[.int .i64 n, av] w (Came w (Fin P)) :=
  (do_all n ks fn vs ls P av w hn hl hks hvl h0 h10 hcf hT (vs_slice hov) (ts_slice hxv) hof).mono fun e w' h => done_came h
theorem do_no (n : Int) (ks : ByteArray) (i0 : Nat) (vs : List PV) (ls : List PT) (av : Value) (w : World) (hn : -1000000 ≤ n ∧ n ≤ 1000000) (hl : TRow w av ls) (hks : ks.size = ls.length) (hvl : vs.length = ls.length) (h0 : 0 < ls.length) (h10 : ls.length ≤ 100)
    (hi0 : i0 < ls.length) (hT : ∀ W, Calls Tryz.prog 18 #[] W fun e W' => ∃ b L fn caps, e = .returned (.map (some b)) ∧ MapAt W' b L ∧ Below W.heap.size W W' ∧ lk L n = some (primv ks (.func (.func fn) #[] caps))) (hov : ∀ y ∈ vs, y.v = .slice none 0 0) (hxv : ∀ x ∈ ls, x.v = .slice none 0 0) (hof : Hof ks ls vs fun i => decide (i ≠ i0)) :
    Calls Tryz.prog 11 #[.int .i64 n, av] w (Came w (Just 0 0 ⟨#[]⟩ false)) :=
  (do_bad n ks i0 vs ls av w hn hl hks hvl h0 h10 hi0 hT (vs_slice hov) (ts_slice hxv) hof).mono fun e w' h => bad_came h
theorem just_ok {k n : Int} {t : ByteArray} {is : Bool} {w w' : World} {e : Ending} (h : Came w (Fin (Just k n t is)) e w') (his : is = true) : Came w (Just k n t true) e w' := by
  subst his
  obtain ⟨a, b, c, d, f, h1, h2, h3⟩ := h
  refine ⟨a, b, c, d, f, ?_, h2, h3⟩
  rcases h1 with ⟨rfl, h⟩ | ⟨rfl, ⟨_, _, _, _, h⟩, _⟩
  · exact h
  · exact absurd h.2.2.2.2 (by simp)
theorem just_no {k n : Int} {t : ByteArray} {is : Bool} {w w' : World} {e : Ending} (h : Came w (Fin (Just k n t is)) e w') (his : is = false) : Came w (Just 0 0 ⟨#[]⟩ false) e w' := by
  subst his
  obtain ⟨a, b, c, d, f, h1, h2, h3⟩ := h
  refine ⟨a, b, c, d, f, ?_, h2, h3⟩
  rcases h1 with ⟨rfl, h⟩ | ⟨rfl, _, rfl, rfl, rfl, rfl⟩
  · exact absurd h.2.2.2.2 (by simp)
  · exact ⟨rfl, rfl, rfl, rfl, rfl⟩
theorem do62 (s : ByteArray) (av : Value) (w : World) (hs : s.size ≤ 65536) (h : TRow w av [tst s]) : Calls Tryz.prog 11 #[.int .i64 62, av] w (Came w (Just 4 s.size ⟨#[]⟩ true)) :=
  (do_ok 62 ⟨#[83]⟩ 110 [vst s] [tst s] (Just 4 s.size ⟨#[]⟩ true) av w (by omega) h rfl rfl (by simp) (by simp) (fun args W => callFunc_go Tryz.func110 rfl rfl args W)
    (has_text rfl (fun W v hv => (cl62 (vst s) v W hv).mono fun e w' h => came_just h)) (by simp [vst, vsm, vsy]) (by simp [tst, tsm, tsy]) (hof1 (of_tst s hs))).mono fun e w' h => just_ok h rfl
theorem do66 (s : ByteArray) (av : Value) (w : World) (hs : s.size ≤ 65536) (h : TRow w av [tst s]) : Calls Tryz.prog 11 #[.int .i64 66, av] w (Came w (Just 9 0 s true)) :=
  (do_ok 66 ⟨#[83]⟩ 115 [vst s] [tst s] (Just 9 0 s true) av w (by omega) h rfl rfl (by simp) (by simp) (fun args W => callFunc_go Tryz.func115 rfl rfl args W)
    (has_text rfl (fun W v hv => (cl66 (vst s) v W hv).mono fun e w' h => came_just h)) (by simp [vst, vsm, vsy]) (by simp [tst, tsm, tsy]) (hof1 (of_tst s hs))).mono fun e w' h => just_ok h rfl
theorem do67 (s : ByteArray) (av : Value) (w : World) (hs : s.size ≤ 65536) (h : TRow w av [tsy s]) : Calls Tryz.prog 11 #[.int .i64 67, av] w (Came w (Just 8 0 s true)) :=
  (do_ok 67 ⟨#[89]⟩ 116 [vsy s] [tsy s] (Just 8 0 s true) av w (by omega) h rfl rfl (by simp) (by simp) (fun args W => callFunc_go Tryz.func116 rfl rfl args W)
    (has_text rfl (fun W v hv => (cl67 (vsy s) v W hv hs).mono fun e w' h => came_just h)) (by simp [vst, vsm, vsy]) (by simp [tst, tsm, tsy]) (hof1 (of_tsy s hs))).mono fun e w' h => just_ok h rfl
theorem do63 (s t : ByteArray) (av : Value) (w : World) (hs : s.size + t.size ≤ 65536) (h : TRow w av [tst s, tst t]) : Calls Tryz.prog 11 #[.int .i64 63, av] w (Came w (Just 8 0 (s ++ t) true)) :=
  (do_ok 63 ⟨#[83, 83]⟩ 111 [vst s, vst t] [tst s, tst t] (Just 8 0 (s ++ t) true) av w (by omega) h rfl rfl (by simp) (by simp) (fun args W => callFunc_go Tryz.func111 rfl rfl args W)
    (has_text rfl (fun W v hv => (cl63 (vst s) (vst t) v W hv (by show (s ++ t).size ≤ 65536; rw [ByteArray.size_append]; exact hs)).mono fun e w' h => came_just h)) (by simp [vst, vsm, vsy]) (by simp [tst, tsm, tsy]) (hof2 (of_tst s (by omega)) (of_tst t (by omega)))).mono fun e w' h => just_ok h rfl
theorem do61 (s : ByteArray) (n : Int) (k : Nat) (c : UInt8) (av : Value) (w : World) (hs : s.size ≤ 65536) (hk : s.data.toList[k]? = some c) (hn : n = (k : Int) + 1) (hf : FitsI n) (h : TRow w av [tst s, tsm n]) : Calls Tryz.prog 11 #[.int .i64 61, av] w (Came w (Just 7 c.toNat ⟨#[]⟩ true)) :=
  (do_ok 61 ⟨#[83, 76]⟩ 109 [vst s, vsm n] [tst s, tsm n] (Just 7 c.toNat ⟨#[]⟩ true) av w (by omega) h rfl rfl (by simp) (by simp) (fun args W => callFunc_go Tryz.func109 rfl rfl args W)
    (has_text rfl (fun W v hv => (cl61_in (vst s) (vsm n) k c v W hv hk hn (by show s.size ≤ _; omega)).mono fun e w' h => came_just h)) (by simp [vst, vsm, vsy]) (by simp [tst, tsm, tsy]) (hof2 (of_tst s hs) (of_tsmF n 76 (.inr rfl) hf))).mono fun e w' h => just_ok h rfl
theorem do61_out (s : ByteArray) (n : Int) (av : Value) (w : World) (hs : s.size ≤ 65536) (hn : n < 1 ∨ (s.size : Int) < n) (hf : FitsI n) (h : TRow w av [tst s, tsm n]) : Calls Tryz.prog 11 #[.int .i64 61, av] w (Came w (Just 0 0 ⟨#[]⟩ false)) :=
  (do_ok 61 ⟨#[83, 76]⟩ 109 [vst s, vsm n] [tst s, tsm n] (Just 0 0 ⟨#[]⟩ false) av w (by omega) h rfl rfl (by simp) (by simp) (fun args W => callFunc_go Tryz.func109 rfl rfl args W)
    (has_text rfl (fun W v hv => (cl61_out (vst s) (vsm n) v W hv hn).mono fun e w' h => came_just h)) (by simp [vst, vsm, vsy]) (by simp [tst, tsm, tsy]) (hof2 (of_tst s hs) (of_tsmF n 76 (.inr rfl) hf))).mono fun e w' h => just_no h rfl
theorem do68 (s : ByteArray) (y z : Int) (a b : Nat) (av : Value) (w : World) (hs : s.size ≤ 65536) (hy : y = (a : Int) + 1) (hz : z = (b : Int)) (hab : a ≤ b) (hb : b ≤ s.size) (h : TRow w av [tst s, tsm y, tsm z]) : Calls Tryz.prog 11 #[.int .i64 68, av] w (Came w (Just 8 0 (s.extract a b) true)) :=
  (do_ok 68 ⟨#[83, 76, 76]⟩ 117 [vst s, vsm y, vsm z] [tst s, tsm y, tsm z] (Just 8 0 (s.extract a b) true) av w (by omega) h rfl rfl (by simp) (by simp) (fun args W => callFunc_go Tryz.func117 rfl rfl args W)
    (has_text rfl (fun W v hv => (cl68 (vst s) (vsm y) (vsm z) a b v W hv hy hz hab hb hs).mono fun e w' h => came_just h)) (by simp [vst, vsm, vsy]) (by simp [tst, tsm, tsy]) (hof3 (of_tst s hs) (of_tsmF y 76 (.inr rfl) (by unfold FitsI; omega)) (of_tsmF z 76 (.inr rfl) (by unfold FitsI; omega)))).mono fun e w' h => just_ok h rfl
theorem has_tab {n : Int} {ks : ByteArray} {fn : Nat} (hk : lk textsL n = some (primv ks (.func (.func fn) #[] #[]))) : ∀ W, Calls Tryz.prog 18 #[] W fun e W' => ∃ b L fn caps, e = .returned (.map (some b)) ∧ MapAt W' b L ∧ Below W.heap.size W W' ∧ lk L n = some (primv ks (.func (.func fn) #[] caps)) := fun W =>
  (table_any W).mono fun e W' ⟨b, L, h1, h2, h3, h4⟩ => ⟨b, L, fn, #[], h1, h2, h4, h3.tx n _ hk⟩
theorem do61_bad (s : ByteArray) (n : Int) (av : Value) (w : World) (hs : s.size ≤ 65536) (h1 : -9223372036854775808 ≤ n) (h2 : n ≤ 9223372036854775807) (hf : ¬ FitsI n) (h : TRow w av [tst s, tsm n]) : Calls Tryz.prog 11 #[.int .i64 61, av] w (Came w (Just 0 0 ⟨#[]⟩ false)) :=
  do_no 61 ⟨#[83, 76]⟩ 1 [vst s, vsm n] [tst s, tsm n] av w (by omega) h rfl rfl (by simp) (by simp) (by simp) (has_tab rfl) (by simp [vst, vsm]) (by simp [tst, tsm]) (hof2 (of_tst s hs) (by have := of_tsm n 76 (.inr rfl) h1 h2; rwa [decide_eq_false hf] at this))
end Go.Proofs.YtlodbibagmblkaaGreatDoor
namespace Go.Proofs.YtlodbibagmblkaaGreatDoor
open Go.RowKit Go.Lib
theorem sg_not (n : Int) : sg (!decide (n < 0)) n.natAbs = -n := by
  unfold sg
  by_cases h : n < 0
  · rw [decide_eq_true h]; simp; omega
  · rw [decide_eq_false h]; simp; omega
theorem sum_len {A B : Int} (hA : Pl.Big A) (hB : Pl.Big B) {V : Nat} {neg : Bool} (h : sg neg V = A + B) : (Pl.wd V).length ≤ 10000 := by
  have hV := sg_abs h
  have h1 : V < 256 ^ 4096 + 256 ^ 4096 := by
    unfold Pl.Big at hA hB
    generalize 256 ^ 4096 = P at *
    omega
  refine Nat.le_trans (Pl.wd_len_pow (k := 1025) (Nat.lt_of_lt_of_le h1 ?_)) (by decide)
  rw [← Pl.p32 1025, show 4 * 1025 = 4096 + 4 by decide, Nat.pow_add 256 4096 4]
  generalize 256 ^ 4096 = P
  omega
theorem Pl.Big.neg {n : Int} (h : Pl.Big n) : Pl.Big (-n) := by unfold Pl.Big at *; rwa [Int.natAbs_neg]
theorem wd_small {n : Int} (h : Pl.Big n) : (Pl.wd n.natAbs).length ≤ 2500 := Nat.le_trans (Pl.wd_len _ h) (by decide)
set_option maxRecDepth 4000 in
set_option maxHeartbeats 2000000 in
theorem ladd_any (A B : Int) (w : World) (hA : Pl.Big A) (hB : Pl.Big B) :
    Calls Tryz.prog 26 #[lof A, lof B] w (ToldV w (A + B)) := by
  have HTW := Lib.hid (fun W => ltwo_any A B W hA hB)
  have HNA : Hid (∀ W va vb, Rd W va (Pl.wd A.natAbs) → Rd W vb (Pl.wd B.natAbs) → Calls Tryz.prog 67 #[.agg #[va, .bool (decide (A < 0))], .agg #[vb, .bool (decide (B < 0))]] W (NumOk W (A + B))) := Lib.hid (fun W va vb h1 h2 => by
    have := numadd_any va vb (decide (A < 0)) (decide (B < 0)) _ _ W h1 h2 (wd_small hA) (wd_small hB)
    rw [sg_of, sg_of] at this
    exact this)
  have HTD : Hid (∀ W v neg V, sg neg V = A + B → Rd W v (Pl.wd V) → Calls Tryz.prog 66 #[.agg #[v, .bool neg]] W (ToldV W (A + B))) := Lib.hid (fun W v neg V h1 h2 => ltold2_any v neg V _ W h1 h2 (sum_len hA hB h1))
  obtain ⟨na, hna⟩ : ∃ na, decide (A < 0) = na := ⟨_, rfl⟩
  obtain ⟨nb, hnb⟩ : ∃ nb, decide (B < 0) = nb := ⟨_, rfl⟩
  have ha : lof A = .agg #[.bool na, .string (bs (Pl.dgs A.natAbs))] := by unfold lof lv; rw [hna]
  have hb : lof B = .agg #[.bool nb, .string (bs (Pl.dgs B.natAbs))] := by unfold lof lv; rw [hnb]
  rw [ha] at HTW ⊢
  rw [hb] at HTW ⊢
  rw [hna] at HTW HNA
  rw [hnb] at HTW HNA
  generalize bs (Pl.dgs A.natAbs) = sa at *
  generalize bs (Pl.dgs B.natAbs) = sb at *
  generalize A.natAbs = U at *
  generalize B.natAbs = V at *
  obtain ⟨tf, ts, te, htv⟩ : ∃ f s e, toldv (A + B) = .tuple #[.agg #[.bool f, .string s], .int .i64 e] := by
    unfold toldv; split
    · exact ⟨_, _, _, rfl⟩
    · exact ⟨_, _, _, rfl⟩
  unfold ToldV at *
  rw [htv] at HTD ⊢
  generalize A + B = S at *
  clear ha hb hna hnb hA hB htv
  obtain ⟨W3, hW3⟩ : ∃ W3, ((w.alloc (.cells #[.bool na, .string sa] 43)).alloc (.cells #[.bool nb, .string sb] 43)).alloc (.cells #[.bool false, .string ⟨#[]⟩] 43) = W3 := ⟨_, rfl⟩
  have P0 : Hid (P2 W3 w.heap.size 43 (.bool na) (.string sa)) := Lib.hid (by rw [← hW3]; exact ((P2.new _ _ _ _).alloc _).alloc _)
  have P1 : Hid (P2 W3 (w.heap.size + 1) 43 (.bool nb) (.string sb)) := Lib.hid (by
    rw [← hW3]
    have := (P2.new (w.alloc (.cells #[.bool na, .string sa] 43)) 43 (.bool nb) (.string sb)).alloc (.cells #[.bool false, .string ⟨#[]⟩] 43)
    simpa using this)
  have R0 : Hid (P2 W3 (w.heap.size + 2) 43 (.bool false) (.string ⟨#[]⟩)) := Lib.hid (by
    rw [← hW3]
    have := P2.new ((w.alloc (.cells #[.bool na, .string sa] 43)).alloc (.cells #[.bool nb, .string sb] 43)) 43 (.bool false) (.string ⟨#[]⟩)
    simpa using this)
  have HB3 : Hid (Below w.heap.size w W3) := Lib.hid (by rw [← hW3]; exact (((Below.refl _ _).alloc (Nat.le_refl _) _).alloc (by simp) _).alloc (by simp; omega) _)
  have hs3 : w.heap.size + 3 ≤ W3.heap.size := by rw [← hW3]; simp
  obtain ⟨p0, p1, _, _⟩ := P0.out.cells
  obtain ⟨q0, q1, _, _⟩ := P1.out.cells
  go_enter Tryz.func26, Tryz.ntmps26
  go_wp2_with fail
  refine (HTW.out _).mono ?_
  rintro e w4 ⟨va, vb, rfl, hra, hrb, hb4⟩
  obtain ⟨aa, ac, rfl⟩ := hra.form
  obtain ⟨ba, bc, rfl⟩ := hrb.form
  generalize (Pl.wd U).length = lu at *
  generalize (Pl.wd V).length = lv' at *
  obtain ⟨W5, hW5⟩ : ∃ W5, (w4.alloc (.cells #[.slice aa lu ac, .bool na] 92)).alloc (.cells #[.slice ba lv' bc, .bool nb] 92) = W5 := ⟨_, rfl⟩
  have hb5 : Below w4.heap.size w4 W5 := by rw [← hW5]; exact ((Below.refl _ _).alloc (Nat.le_refl _) _).alloc (by simp) _
  have hs4 : w.heap.size + 3 ≤ w4.heap.size := Nat.le_trans hs3 hb4.size
  have HB5 := Lib.hid (chain (chain HB3.out hb4 (by omega)) hb5 (by omega))
  have R5 := Lib.hid ((R0.out.below hb4).below hb5)
  have RA := Lib.hid (hra.below hb5)
  have RB := Lib.hid (hrb.below hb5)
  have PA : Hid (P2 W5 w4.heap.size 92 (.slice aa lu ac) (.bool na)) := Lib.hid (by rw [← hW5]; exact (P2.new _ _ _ _).alloc _)
  have PB : Hid (P2 W5 (w4.heap.size + 1) 92 (.slice ba lv' bc) (.bool nb)) := Lib.hid (by
    rw [← hW5]
    have := P2.new (w4.alloc (.cells #[.slice aa lu ac, .bool na] 92)) 92 (.slice ba lv' bc) (.bool nb)
    simpa using this)
  have hs5 : w.heap.size + 3 ≤ W5.heap.size := Nat.le_trans hs4 hb5.size
  clear p0 p1 q0 q1 P0 P1 R0 HB3 hs3 hb4 hra hrb hW3 hb5
  obtain ⟨p0, p1, _, _⟩ := PA.out.cells
  obtain ⟨q0, q1, _, _⟩ := PB.out.cells
  go_wp2_with fail
  refine (HNA.out _ _ _ (by exact RA.out) (by exact RB.out)).mono ?_
  rintro e w7 ⟨v7, n7, V7, rfl, hr7, hsg, hb7⟩
  obtain ⟨a7, c7, rfl⟩ := hr7.form
  have HB7 := Lib.hid (chain HB5.out hb7 (by omega))
  have R7 := Lib.hid (R5.out.below hb7)
  have hs7 : w.heap.size + 3 ≤ w7.heap.size := Nat.le_trans hs5 hb7.size
  clear p0 p1 q0 q1 hb7 hW5
  go_wp2_with fail
  refine (HTD.out _ _ _ _ hsg hr7).mono ?_
  rintro e w8 ⟨rfl, hb8⟩
  have HB8 := Lib.hid (chain HB7.out hb8 (by omega))
  have R8 := Lib.hid (R7.out.below hb8)
  obtain ⟨r0, r1, f0, f1⟩ := R8.out.cells
  clear hb8
  go_wp2_with fail
  have hfin := R8.out.set (.bool tf) (.string ts)
  obtain ⟨k0, k1, _, _⟩ := hfin.cells
  refine bodyPost_ret (v := .tuple #[.agg #[.bool tf, .string ts], .int .i64 te]) (by simp [results, Tryz.results26, go_sem, k0, k1]) rfl ⟨rfl, below_set2 HB8.out (by omega) _ _⟩
set_option maxRecDepth 4000 in
set_option maxHeartbeats 2000000 in
theorem lsub_any (A B : Int) (w : World) (hA : Pl.Big A) (hB : Pl.Big B) :
    Calls Tryz.prog 27 #[lof A, lof B] w (ToldV w (A - B)) := by
  have HTW := Lib.hid (fun W => ltwo_any A B W hA hB)
  have HNA : Hid (∀ W va vb, Rd W va (Pl.wd A.natAbs) → Rd W vb (Pl.wd B.natAbs) → Calls Tryz.prog 67 #[.agg #[va, .bool (decide (A < 0))], .agg #[vb, .bool (!decide (B < 0))]] W (NumOk W (A - B))) := Lib.hid (fun W va vb h1 h2 => by
    have := numadd_any va vb (decide (A < 0)) (!decide (B < 0)) _ _ W h1 h2 (wd_small hA) (wd_small hB)
    rw [sg_of, sg_not] at this
    rw [Int.sub_eq_add_neg]; exact this)
  have HTD : Hid (∀ W v neg V, sg neg V = A - B → Rd W v (Pl.wd V) → Calls Tryz.prog 66 #[.agg #[v, .bool neg]] W (ToldV W (A - B))) := Lib.hid (fun W v neg V h1 h2 => ltold2_any v neg V _ W h1 h2 (sum_len hA hB.neg (by rw [h1, Int.sub_eq_add_neg])))
  obtain ⟨na, hna⟩ : ∃ na, decide (A < 0) = na := ⟨_, rfl⟩
  obtain ⟨nb, hnb⟩ : ∃ nb, decide (B < 0) = nb := ⟨_, rfl⟩
  have ha : lof A = .agg #[.bool na, .string (bs (Pl.dgs A.natAbs))] := by unfold lof lv; rw [hna]
  have hb : lof B = .agg #[.bool nb, .string (bs (Pl.dgs B.natAbs))] := by unfold lof lv; rw [hnb]
  rw [ha] at HTW ⊢
  rw [hb] at HTW ⊢
  rw [hna] at HTW HNA
  rw [hnb] at HTW HNA
  generalize bs (Pl.dgs A.natAbs) = sa at *
  generalize bs (Pl.dgs B.natAbs) = sb at *
  generalize A.natAbs = U at *
  generalize B.natAbs = V at *
  obtain ⟨tf, ts, te, htv⟩ : ∃ f s e, toldv (A - B) = .tuple #[.agg #[.bool f, .string s], .int .i64 e] := by
    unfold toldv; split
    · exact ⟨_, _, _, rfl⟩
    · exact ⟨_, _, _, rfl⟩
  unfold ToldV at *
  rw [htv] at HTD ⊢
  generalize A - B = S at *
  clear ha hb hna hnb hA hB htv
  obtain ⟨W3, hW3⟩ : ∃ W3, ((w.alloc (.cells #[.bool na, .string sa] 43)).alloc (.cells #[.bool nb, .string sb] 43)).alloc (.cells #[.bool false, .string ⟨#[]⟩] 43) = W3 := ⟨_, rfl⟩
  have P0 : Hid (P2 W3 w.heap.size 43 (.bool na) (.string sa)) := Lib.hid (by rw [← hW3]; exact ((P2.new _ _ _ _).alloc _).alloc _)
  have P1 : Hid (P2 W3 (w.heap.size + 1) 43 (.bool nb) (.string sb)) := Lib.hid (by
    rw [← hW3]
    have := (P2.new (w.alloc (.cells #[.bool na, .string sa] 43)) 43 (.bool nb) (.string sb)).alloc (.cells #[.bool false, .string ⟨#[]⟩] 43)
    simpa using this)
  have R0 : Hid (P2 W3 (w.heap.size + 2) 43 (.bool false) (.string ⟨#[]⟩)) := Lib.hid (by
    rw [← hW3]
    have := P2.new ((w.alloc (.cells #[.bool na, .string sa] 43)).alloc (.cells #[.bool nb, .string sb] 43)) 43 (.bool false) (.string ⟨#[]⟩)
    simpa using this)
  have HB3 : Hid (Below w.heap.size w W3) := Lib.hid (by rw [← hW3]; exact (((Below.refl _ _).alloc (Nat.le_refl _) _).alloc (by simp) _).alloc (by simp; omega) _)
  have hs3 : w.heap.size + 3 ≤ W3.heap.size := by rw [← hW3]; simp
  obtain ⟨p0, p1, _, _⟩ := P0.out.cells
  obtain ⟨q0, q1, _, _⟩ := P1.out.cells
  go_enter Tryz.func27, Tryz.ntmps27
  go_wp2_with fail
  refine (HTW.out _).mono ?_
  rintro e w4 ⟨va, vb, rfl, hra, hrb, hb4⟩
  obtain ⟨aa, ac, rfl⟩ := hra.form
  obtain ⟨ba, bc, rfl⟩ := hrb.form
  generalize (Pl.wd U).length = lu at *
  generalize (Pl.wd V).length = lv' at *
  obtain ⟨W5, hW5⟩ : ∃ W5, (w4.alloc (.cells #[.slice aa lu ac, .bool na] 92)).alloc (.cells #[.slice ba lv' bc, .bool nb] 92) = W5 := ⟨_, rfl⟩
  have hb5 : Below w4.heap.size w4 W5 := by rw [← hW5]; exact ((Below.refl _ _).alloc (Nat.le_refl _) _).alloc (by simp) _
  have hs4 : w.heap.size + 3 ≤ w4.heap.size := Nat.le_trans hs3 hb4.size
  have HB5 := Lib.hid (chain (chain HB3.out hb4 (by omega)) hb5 (by omega))
  have R5 := Lib.hid ((R0.out.below hb4).below hb5)
  have RA := Lib.hid (hra.below hb5)
  have RB := Lib.hid (hrb.below hb5)
  have PA : Hid (P2 W5 w4.heap.size 92 (.slice aa lu ac) (.bool na)) := Lib.hid (by rw [← hW5]; exact (P2.new _ _ _ _).alloc _)
  have PB : Hid (P2 W5 (w4.heap.size + 1) 92 (.slice ba lv' bc) (.bool nb)) := Lib.hid (by
    rw [← hW5]
    have := P2.new (w4.alloc (.cells #[.slice aa lu ac, .bool na] 92)) 92 (.slice ba lv' bc) (.bool nb)
    simpa using this)
  have hs5 : w.heap.size + 3 ≤ W5.heap.size := Nat.le_trans hs4 hb5.size
  clear p0 p1 q0 q1 P0 P1 R0 HB3 hs3 hb4 hra hrb hW3 hb5
  obtain ⟨W6, hW6⟩ : ∃ W6, W5.setCell ⟨w4.heap.size + 1, 1, none⟩ (.bool (!nb)) = W6 := ⟨_, rfl⟩
  obtain ⟨p0, p1, _, _⟩ := PA.out.cells
  obtain ⟨q0, q1, g0, g1⟩ := PB.out.cells
  have PA6 : Hid (P2 W6 w4.heap.size 92 (.slice aa lu ac) (.bool na)) := Lib.hid (by rw [← hW6]; exact PA.out.other (by omega))
  have PB6 : Hid (P2 W6 (w4.heap.size + 1) 92 (.slice ba lv' bc) (.bool (!nb))) := Lib.hid (by rw [← hW6]; exact PB.out.set1 _)
  have RA6 : Hid (Rd W6 (.slice aa lu ac) (Pl.wd U)) := Lib.hid (by rw [← hW6]; exact RA.out.clear PB.out (by simp))
  have RB6 : Hid (Rd W6 (.slice ba lv' bc) (Pl.wd V)) := Lib.hid (by rw [← hW6]; exact RB.out.clear PB.out (by simp))
  have R6 : Hid (P2 W6 (w.heap.size + 2) 43 (.bool false) (.string ⟨#[]⟩)) := Lib.hid (by rw [← hW6]; exact R5.out.other (by omega))
  have HB6 : Hid (Below w.heap.size w W6) := Lib.hid (by rw [← hW6]; exact HB5.out.setCell (p := ⟨w4.heap.size + 1, 1, none⟩) (by show w.heap.size ≤ w4.heap.size + 1; omega) _)
  have hs6 : w.heap.size + 3 ≤ W6.heap.size := by rw [← hW6]; simpa [World.setCell] using hs5
  obtain ⟨p60, p61, _, _⟩ := PA6.out.cells
  obtain ⟨q60, q61, _, _⟩ := PB6.out.cells
  go_wp2_with fail
  refine (HNA.out _ _ _ (by exact RA6.out) (by exact RB6.out)).mono ?_
  rintro e w7 ⟨v7, n7, V7, rfl, hr7, hsg, hb7⟩
  obtain ⟨a7, c7, rfl⟩ := hr7.form
  have HB7 := Lib.hid (chain HB6.out hb7 (by omega))
  have R7 := Lib.hid (R6.out.below hb7)
  have hs7 : w.heap.size + 3 ≤ w7.heap.size := Nat.le_trans hs6 hb7.size
  clear p0 p1 q0 q1 p60 p61 q60 q61 hb7 hW5 hW6
  go_wp2_with fail
  refine (HTD.out _ _ _ _ hsg hr7).mono ?_
  rintro e w8 ⟨rfl, hb8⟩
  have HB8 := Lib.hid (chain HB7.out hb8 (by omega))
  have R8 := Lib.hid (R7.out.below hb8)
  obtain ⟨r0, r1, f0, f1⟩ := R8.out.cells
  clear hb8
  go_wp2_with fail
  have hfin := R8.out.set (.bool tf) (.string ts)
  obtain ⟨k0, k1, _, _⟩ := hfin.cells
  refine bodyPost_ret (v := .tuple #[.agg #[.bool tf, .string ts], .int .i64 te]) (by simp [results, Tryz.results27, go_sem, k0, k1]) rfl ⟨rfl, below_set2 HB8.out (by omega) _ _⟩
end Go.Proofs.YtlodbibagmblkaaGreatDoor
namespace Go.Proofs.YtlodbibagmblkaaGreatDoor
open Go Go.RowKit Go.Lib
theorem Pl.intT_five : Pl.IntT 10 [53] 5 := by
  unfold Pl.IntT
  rw [if_neg (by omega)]
  exact ⟨by decide, by decide, by decide, by decide⟩
theorem Pl.wd_two : (Pl.wd 2).length = 1 := by
  rw [← Pl.wd_eq (xs := [2]) (V := 2) (by intro d hd; simp at hd; omega) (.inr ⟨[], 2, rfl, by omega⟩) (by decide)]
  rfl
theorem Pl.dgs_one : (bs (Pl.dgs 1)).toList.isEmpty = false := by
  simp [bs, ByteArray.toList_eq, Pl.dgs_empty]
/-- the literal of a whole number comes out -/
def IntP (R : Int) (k n b : Int) (t : ByteArray) (is : Bool) : Prop := ∃ s, IntLit R k n s ∧ b = 0 ∧ t = bs s ∧ is = true
theorem who_came {w w' : World} {R : Int} {e : Ending} (h : WhoOk w R e w') : Came w (IntP R) e w' := by
  obtain ⟨k, n, s, h1, h2, h3⟩ := h
  exact ⟨k, n, 0, bs s, true, ⟨s, h1, rfl, rfl, rfl⟩, h2, h3⟩
theorem fin_int {w w' : World} {R : Int} {e : Ending} (h : Came w (Fin (IntP R)) e w') : Came w (IntP R) e w' := by
  obtain ⟨a, b, c, d, f, h1, h2, h3⟩ := h
  refine ⟨a, b, c, d, f, ?_, h2, h3⟩
  rcases h1 with ⟨rfl, h⟩ | ⟨_, ⟨_, _, _, _, _, _, _, _, h⟩, _⟩
  · exact h
  · cases h
/-- a literal is a whole number -/
def ArgI (x : PT) (y : PV) (A : Int) : Prop := OfV x 73 y true ∧ Value.agg #[.bool y.g, .string y.s] = lof A ∧ Pl.Big A ∧ (∃ a n c, x.v = .slice a n c) ∧ ∃ a n c, y.v = .slice a n c
theorem small_big {n : Int} (h1 : -9223372036854775808 ≤ n) (h2 : n ≤ 9223372036854775808) : Pl.Big n := by
  unfold Pl.Big
  refine Nat.lt_of_le_of_lt (m := 9223372036854775808) (by omega) ?_
  exact Pl.lt_p (a := 8) (b := 4096) (by decide) (by decide)
theorem arg_small {n : Int} (h : FitsI n) : ArgI (tsm n) (vsm n) n := ⟨of_tsmF n 73 (.inl rfl) h, rfl, small_big (by unfold FitsI at h; omega) (by unfold FitsI at h; omega), ⟨_, _, _, rfl⟩, ⟨_, _, _, rfl⟩⟩
def tlg (l : List UInt8) : PT := ⟨5, 0, 0, bs l, .slice none 0 0⟩
def vlg (l : List UInt8) (n : Int) : PV := ⟨5, 0, 0, bs l, .slice none 0 0, decide (n < 0), bs (Pl.dgs n.natAbs)⟩
theorem of_tlg (l : List UInt8) (n : Int) (hl : l.length ≤ 300000) (hn : Pl.Big n) (ht : Pl.IntT 10 l n) : OfV (tlg l) 73 (vlg l n) (!decide (FitsI n)) := fun W => of_large l n none 0 W hl hn ht
theorem arg_large {l : List UInt8} {n : Int} (hl : l.length ≤ 300000) (hn : Pl.Big n) (ht : Pl.IntT 10 l n) (hf : ¬ FitsI n) : ArgI (tlg l) (vlg l n) n :=
  ⟨by have := of_tlg l n hl hn ht; rwa [decide_eq_false hf] at this, rfl, hn, ⟨_, _, _, rfl⟩, ⟨_, _, _, rfl⟩⟩
theorem two_all {α : Type} {p : α → Prop} {x y : α} (hx : p x) (hy : p y) : ∀ z ∈ [x, y], p z := by
  intro z hz
  simp only [List.mem_cons, List.not_mem_nil, or_false] at hz
  rcases hz with rfl | rfl
  · exact hx
  · exact hy
theorem toldv_big {n : Int} (h : Pl.Big n) : toldv n = .tuple #[lof n, .int .i64 0] := by unfold toldv; exact if_pos h
theorem do_two (n : Int) (f : Nat) (P : Int → Int → Int → ByteArray → Bool → Prop) (x x2 : PT) (y y2 : PV) (A B : Int) (av : Value) (w : World) (hn : -1000000 ≤ n ∧ n ≤ 1000000) (hi : ∀ w L, TabOk w L → InsAt w L n f) (h1 : ArgI x y A) (h2 : ArgI x2 y2 B) (h : TRow w av [x, x2])
    (hc : ∀ W v p, VRow W v [y, y2] → W.cell? ⟨p, 0, none⟩ = some (.func (.func f) #[] #[]) → p < W.heap.size → Calls Tryz.prog 24 #[v, .pointer (some ⟨p, 0, none⟩)] W (Came W P)) :
    Calls Tryz.prog 11 #[.int .i64 n, av] w (Came w (Fin P)) :=
  (do_all n ⟨#[73, 73]⟩ 24 [y, y2] [x, x2] P av w hn h rfl rfl (by simp) (by simp) (fun args W => callFunc_go Tryz.func24 rfl rfl args W)
    (has_ints hi hc) (two_all h1.2.2.2.2 h2.2.2.2.2) (two_all h1.2.2.2.1 h2.2.2.2.1) (hof2 h1.1 h2.1)).mono fun e w' h => done_came h
theorem do1 (x x2 : PT) (y y2 : PV) (A B : Int) (av : Value) (w : World) (h1 : ArgI x y A) (h2 : ArgI x2 y2 B) (hR : Pl.Big (A + B)) (h : TRow w av [x, x2]) : Calls Tryz.prog 11 #[.int .i64 1, av] w (Came w (IntP (A + B))) :=
  (do_two 1 26 (IntP (A + B)) x x2 y y2 A B av w (by omega) (fun w L h => h.i1) h1 h2 h (fun W v p hv hp hpl => (cl_add p (A + B) y y2 v W hv hp hpl (fun W => by
    rw [h1.2.1, h2.2.1]
    refine (ladd_any A B W h1.2.2.1 h2.2.2.1).mono ?_
    rintro e w' ⟨rfl, hb⟩
    exact ⟨by rw [toldv_big hR], hb⟩) hR).mono fun e w' h => who_came h)).mono fun e w' h => fin_int h
theorem do2 (x x2 : PT) (y y2 : PV) (A B : Int) (av : Value) (w : World) (h1 : ArgI x y A) (h2 : ArgI x2 y2 B) (hR : Pl.Big (A - B)) (h : TRow w av [x, x2]) : Calls Tryz.prog 11 #[.int .i64 2, av] w (Came w (IntP (A - B))) :=
  (do_two 2 27 (IntP (A - B)) x x2 y y2 A B av w (by omega) (fun w L h => h.i2) h1 h2 h (fun W v p hv hp hpl => (cl_sub p (A - B) y y2 v W hv hp hpl (fun W => by
    rw [h1.2.1, h2.2.1]
    refine (lsub_any A B W h1.2.2.1 h2.2.2.1).mono ?_
    rintro e w' ⟨rfl, hb⟩
    exact ⟨by rw [toldv_big hR], hb⟩) hR).mono fun e w' h => who_came h)).mono fun e w' h => fin_int h
/-- 7 / 2 is no whole number -/
theorem do10_72 (av : Value) (w : World) (h : TRow w av [tsm 7, tsm 2]) : Calls Tryz.prog 11 #[.int .i64 10, av] w (Came w (Just 0 0 ⟨#[]⟩ false)) :=
  (do_two 10 29 (Just 0 0 ⟨#[]⟩ false) (tsm 7) (tsm 2) (vsm 7) (vsm 2) 7 2 av w (by omega) (fun w L h => h.i10) (arg_small (by unfold FitsI; omega)) (arg_small (by unfold FitsI; omega)) h (fun W v p hv hp hpl =>
    (cl_quo_err p (decide ((3 : Int) < 0)) (bs (Pl.dgs 3)) 1 (vsm 7) (vsm 2) v W hv hp hpl (fun W => whole_only _ _ _ (decide ((1 : Int) < 0)) _ _ _ (bs (Pl.dgs 1)) W (fun W => ldiv_same _ _ _ _ _ _ _ _ W (fun W => lquo_any 7 2 W (small_big (by omega) (by omega)) (small_big (by omega) (by omega)) (by omega) (divHyp_one (Pl.lt_p (a := 1) (b := 4096) (by decide) (by decide)) (Pl.wd_two)) ) (.inr rfl)) (Pl.dgs_one)) (by omega)).mono fun e w' h => came_just h)).mono fun e w' h => just_no h rfl
theorem has_int_tab {n : Int} {f : Nat} (hi : ∀ w L, TabOk w L → InsAt w L n f) : ∀ W, Calls Tryz.prog 18 #[] W fun e W' => ∃ b L fn caps, e = .returned (.map (some b)) ∧ MapAt W' b L ∧ Below W.heap.size W W' ∧ lk L n = some (primv ⟨#[73, 73]⟩ (.func (.func fn) #[] caps)) := fun W =>
  (table_any W).mono fun e W' ⟨b, L, h1, h2, h3, h4⟩ => by
    obtain ⟨p, q1, q2, q3⟩ := hi W' L h3
    exact ⟨b, L, _, _, h1, h2, h4, q1⟩
/-- a large 5 is no value -/
theorem do1_bad (av : Value) (w : World) (h : TRow w av [tlg [53], tsm 1]) : Calls Tryz.prog 11 #[.int .i64 1, av] w (Came w (Just 0 0 ⟨#[]⟩ false)) :=
  do_no 1 ⟨#[73, 73]⟩ 0 [vlg [53] 5, vsm 1] [tlg [53], tsm 1] av w (by omega) h rfl rfl (by simp) (by simp) (by simp) (has_int_tab fun w L h => h.i1) (by simp [vlg, vsm]) (by simp [tlg, tsm])
    (hof2 (by have := of_tlg [53] 5 (by simp) (small_big (by omega) (by omega)) Pl.intT_five; rwa [decide_eq_true (show FitsI 5 by unfold FitsI; omega)] at this) (of_tsmF 1 73 (.inl rfl) (by unfold FitsI; omega)))
theorem arity68 (w : World) : Calls Tryz.prog 13 #[.int .i64 68] w fun e w' => e = .returned (.int .i64 3) ∧ Below w.heap.size w w' :=
  arity_has 68 ⟨#[83, 76, 76]⟩ (.func (.func 117) #[] #[]) w (by omega) ⟨_, _, rfl⟩ fun W => (table_any W).mono fun e W' ⟨b, L, h1, h2, h3, h4⟩ => ⟨b, L, h1, h2, h4, h3.tx 68 _ rfl⟩
theorem arity0 (w : World) : Calls Tryz.prog 13 #[.int .i64 0] w fun e w' => e = .returned (.int .i64 (-1)) ∧ Below w.heap.size w w' :=
  arity_none 0 w (by omega) fun W => (table_any W).mono fun e W' ⟨b, L, h1, h2, h3, h4⟩ => ⟨b, L, h1, h2, h4, h3.no⟩
end Go.Proofs.YtlodbibagmblkaaGreatDoor
