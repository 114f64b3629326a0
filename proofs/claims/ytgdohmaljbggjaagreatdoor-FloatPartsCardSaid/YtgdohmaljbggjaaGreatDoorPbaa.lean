/- The plain law of FloatParts. The walk of FloatParts. (Written by gen_par.py.) -/
import Derived.Test.YtgdohmaljbggjaaGreatDoorBaas
import Derived.Test.YtgdohmaljbggjaaGreatDoorBaat
namespace Go.Proofs.YtgdohmaljbggjaaGreatDoor.Fl
open Ieee
theorem is_self {a : Nat} (ha : a < 18446744073709551616) (hf : a % 9223372036854775808 < 9218868437227405312) : Is a (V a) := ⟨ha, hf, rfl⟩
theorem is_size {a : Nat} {x : Int} (h : Is a x) : Is (a % 9223372036854775808) x.natAbs := by
  have hf := h.fin
  refine ⟨by omega, by omega, ?_⟩
  have e1 := fin_read h.fin
  obtain ⟨m, i, hr, _, _, _, hv, hA⟩ := e1
  rw [is_V h] at hA
  have hr' : D.read (a % 9223372036854775808) = .number false m i := by
    rw [read_eq] at hr ⊢
    have e : a % 9223372036854775808 % 9223372036854775808 = a % 9223372036854775808 := by omega
    have e2 : a % 9223372036854775808 / 9223372036854775808 % 2 = 0 := by omega
    rw [e, e2]
    by_cases h1 : a % 9223372036854775808 < 4503599627370496
    · rw [if_pos h1] at hr ⊢
      injection hr with _ h2 h3
      rw [h2, h3]; rfl
    · rw [if_neg h1, if_pos hf] at hr ⊢
      injection hr with _ h2 h3
      rw [h2, h3]; rfl
  rw [hr']
  simp only [val]
  rw [signed_is, if_neg (by simp), ← hA]
theorem V_zero {a : Nat} (hz : a % 9223372036854775808 = 0) : V a = 0 := by
  unfold V
  rw [read_eq, if_pos (by omega), hz]
  simp [val, signed]
theorem V_ne {a : Nat} (hf : a % 9223372036854775808 < 9218868437227405312) (hz : a % 9223372036854775808 ≠ 0) : V a ≠ 0 := by
  intro h
  obtain ⟨m, i, hr, _, _, _, _, hA⟩ := fin_read hf
  rw [h] at hA
  have hm : m = 0 := by
    have := Nat.two_pow_pos (i + 1074).toNat
    rcases Nat.mul_eq_zero.1 hA.symm with h | h <;> omega
  rw [read_eq] at hr
  by_cases h1 : a % 9223372036854775808 < 4503599627370496
  · rw [if_pos h1] at hr
    injection hr with _ h2 _
    omega
  · rw [if_neg h1, if_pos hf] at hr
    injection hr with _ h2 _
    omega
/-- The power of two of the first bit, told by the value. -/
theorem fexp_V {a : Nat} {n : Int} (h : fexp a = some n) : -1074 ≤ n ∧ n ≤ 1023 ∧ 2 ^ (n + 1074).toNat ≤ (V a).natAbs ∧ (V a).natAbs < 2 ^ ((n + 1074).toNat + 1) := by
  obtain ⟨_, h0, h1⟩ := fexp_some h
  obtain ⟨m, i, hr, hm, hi, hi2, _, hA⟩ := fin_read h1
  unfold fexp at h
  rw [if_neg (by omega)] at h
  rw [read_eq] at hr
  generalize a % 9223372036854775808 = r at *
  by_cases hs : r < 4503599627370496
  · rw [if_pos (by omega)] at h
    rw [if_pos hs] at hr
    injection hr with _ h2 h3
    injection h with h
    have hl : r.log2 < 52 := (Nat.log2_lt h0).2 (by simpa using hs)
    refine ⟨by omega, by omega, ?_, ?_⟩
    · rw [hA, ← h2, ← h3, show ((-1074 : Int) + 1074).toNat = 0 by decide, Nat.pow_zero, Nat.mul_one, show (n + 1074).toNat = r.log2 by omega]
      exact Nat.log2_self_le h0
    · rw [hA, ← h2, ← h3, show ((-1074 : Int) + 1074).toNat = 0 by decide, Nat.pow_zero, Nat.mul_one, show (n + 1074).toNat = r.log2 by omega]
      exact Nat.lt_log2_self
  · rw [if_neg (by omega)] at h
    rw [if_neg hs, if_pos h1] at hr
    injection hr with _ h2 h3
    injection h with h
    have hm1 : 4503599627370496 ≤ m := by omega
    obtain ⟨u, hu⟩ : ∃ u, (i + 1074).toNat = u := ⟨_, rfl⟩
    have hn : (n + 1074).toNat = 52 + u := by omega
    rw [hu] at hA
    refine ⟨by omega, by omega, ?_, ?_⟩
    · rw [hA, hn, Nat.pow_add]
      exact Nat.mul_le_mul_right _ (by simpa using hm1)
    · rw [hA, hn, show 52 + u + 1 = 53 + u by omega, Nat.pow_add]
      exact Nat.mul_lt_mul_of_pos_right (by simpa using hm) (Nat.two_pow_pos _)
theorem fits_pow {u : Nat} (h : u ≤ 2097) : Fits (2 ^ u) := by
  rcases Nat.lt_or_ge u 2046 with h1 | h1
  · exact ⟨1, u, by simp, by omega, by omega⟩
  · refine ⟨2 ^ 52, u - 52, ?_, by decide, by omega⟩
    rw [← Nat.pow_add]; congr 1; omega
theorem is_one : Is (fint 1) (2 ^ E74) := by
  have := is_int (n := 1) (by decide)
  rw [Int.one_mul] at this
  exact this
theorem is_pow {n : Int} (h1 : -1074 ≤ n) (h2 : n ≤ 1023) : Is (fscale (fint 1) n) ((2 ^ (n + 1074).toNat : Nat) : Int) := by
  have hE := E74_is
  refine is_scale is_one (by omega) ?_ (by rw [Int.natAbs_natCast]; exact fits_pow (by omega))
  rw [Int.natCast_pow]
  show (2 : Int) ^ E74 * 2 ^ n.toNat = 2 ^ (n + 1074).toNat * 2 ^ (-n).toNat
  rw [← Int.pow_add, ← Int.pow_add]
  congr 1
  omega
theorem fcmp_self_zero (x : Int) : ordInt (compare x x) = 0 := by rw [cmp_eq]; rfl
theorem ord_lt {x y : Int} (h : x < y) : ordInt (compare x y) = -1 := by rw [cmp_lt h]; rfl
theorem ord_gt {x y : Int} (h : y < x) : ordInt (compare x y) = 1 := by rw [cmp_gt h]; rfl
theorem ord_le {x y : Int} (h : x ≤ y) : ordInt (compare x y) ≤ 0 := by
  rcases ordInt_spec x y with ⟨_, e⟩ | ⟨_, e⟩ | ⟨h', _⟩
  · omega
  · omega
  · omega
theorem scale_inf : fscale (fint 1) 1024 = 9218868437227405312 := by
  have e : fint 1 = 4607182418800017408 := by decide +kernel
  rw [e]; decide +kernel
theorem fcmp_inf {a : Nat} {x : Int} (h : Is a x) : (fcmp a 9218868437227405312) = (-1, true) := by
  rw [fcmp_key h.nan (by decide), h.val]
  have e : val (D.read 9218868437227405312) = signed false 1 2200 := by
    have : D.read 9218868437227405312 = .infinity false := by decide +kernel
    rw [this]; rfl
  obtain ⟨m, i, _, hm, hi, hi2, hv, _⟩ := fin_read h.fin
  rw [e, ← is_V h, hv]
  rw [ord_lt (signed_lt _ hm (by omega)).1]
/-- What the law asks of a number that is not nought. -/
theorem parts_law {a : Nat} {n : Int} (ha : a < 18446744073709551616) (h : fexp a = some n) :
    (fcmp (fscale (fint 1) n) (a % 9223372036854775808)).1 ≤ 0 ∧ (fcmp (a % 9223372036854775808) (fscale (fint 1) (n + 1))).1 < 0 := by
  obtain ⟨h1, h2, h3, h4⟩ := fexp_V h
  obtain ⟨_, _, hf⟩ := fexp_some h
  have hs := is_size (is_self ha hf)
  constructor
  · rw [is_cmp (is_pow h1 h2) hs]
    exact ord_le (by omega)
  · by_cases hn : n = 1023
    · subst hn
      rw [show (1023 : Int) + 1 = 1024 from rfl, scale_inf, fcmp_inf hs]
      decide
    · rw [is_cmp hs (is_pow (by omega) (by omega)), ord_lt]
      · decide
      · rw [show (n + 1 + 1074).toNat = (n + 1074).toNat + 1 by omega]
        omega
/-- What is cut off, and what is left. -/
theorem parts_sum {a : Nat} {x : Int} (h : Is a x) {w : Nat} (hw : Is w (cutI x * 2 ^ E74)) : fcmp (fadd w (ffr a)) a = (0, true) := by
  have hs := is_add hw (is_ffr h) (by
    have e : cutI x * 2 ^ E74 + restI x = x := by unfold restI; omega
    rw [e]
    obtain ⟨m, u, h1, h2, h3⟩ := fits_of h
    exact ⟨m, u, h1, h2, h3⟩)
  have e : cutI x * 2 ^ E74 + restI x = x := by unfold restI; omega
  rw [e] at hs
  rw [is_cmp hs h, fcmp_self_zero]
theorem rest_lt (x : Int) : (restI x).natAbs < 2 ^ E74 := by
  rw [(restI_abs x).1]; exact Nat.mod_lt _ (Nat.two_pow_pos _)
theorem rest_one {a : Nat} {x : Int} (h : Is a x) : fcmp (ffr a) (fint 1) = (-1, true) ∧ fcmp (ffr a) (fneg (fint 1)) = (1, true) := by
  have hl := rest_lt x
  have hp : ((2 ^ E74 : Nat) : Int) = (2 : Int) ^ E74 := Int.natCast_pow 2 E74
  constructor
  · rw [is_cmp (is_ffr h) is_one, ord_lt (by omega)]
  · rw [is_cmp (is_ffr h) (is_neg is_one), ord_gt (by omega)]
theorem ffr_zero {a : Nat} (ha : a < 18446744073709551616) (hz : a % 9223372036854775808 = 0) : ffr a = 0 := by
  have h : Is a 0 := ⟨ha, by omega, V_zero hz⟩
  obtain ⟨d, h1, h2⟩ := sub_trunc h
  have e : restI 0 = 0 := by unfold restI cutI; simp
  rw [e] at h2
  rw [ffr_is h1, if_pos ((order_eq_zero h2).2 rfl)]
/-- The whole part as a float. -/
theorem is_whole {a : Nat} {x : Int} (h : Is a x) : rung ((cutI x).natAbs * 2 ^ E74) 1 ≠ 9218868437227405312 ∧ Is (D.word (decide (cutI x < 0)) (rung ((cutI x).natAbs * 2 ^ E74) 1)) (cutI x * 2 ^ E74) := by
  obtain ⟨m, u, h1, h2, h3⟩ := fits_of h
  have hf := fits_whole h1 h2 h3
  rw [← cutI_abs] at hf
  have hi := is_rung (decide (cutI x < 0)) (p := (cutI x).natAbs * 2 ^ E74) (q := 1) (by omega) (Nat.mul_one _).symm hf
  constructor
  · have := hi.fin
    rw [(word_mod _ (Nat.lt_of_le_of_lt (rung_le _ _) (by decide))).1] at this
    omega
  · refine hi.of_eq ?_
    rw [Int.natCast_mul, Int.natCast_pow]
    generalize ((2 : Nat) : Int) ^ E74 = P
    by_cases h0 : cutI x < 0
    · rw [decide_eq_true h0, if_pos rfl, ← Int.neg_mul]; congr 1; omega
    · rw [decide_eq_false h0, if_neg (by simp)]; congr 1; omega
end Go.Proofs.YtgdohmaljbggjaaGreatDoor.Fl
namespace Go.Proofs.YtgdohmaljbggjaaGreatDoor
open Go.RowKit Go.Lib
theorem number_any (a : Nat) (w : World) : Calls Tryz.prog 12 #[.int .u64 a] w fun e w' => e = .returned (.bool (decide (a % 9223372036854775808 < 9218868437227405312))) ∧ w = w' := by
  have HD := Lib.hid (show decide ((a : Int) % 9223372036854775808 < 9218868437227405312) = decide (a % 9223372036854775808 < 9218868437227405312) by congr 1; exact propext ⟨fun h => by omega, fun h => by omega⟩)
  rw [← HD.out]
  go_enter Tryz.func12, Tryz.ntmps12
  go_wp2_with fail
  go_ret
  exact ⟨by first | rfl | simp, rfl⟩
set_option maxRecDepth 4000 in
set_option maxHeartbeats 4000000 in
theorem parts_none (a : Nat) (w : World) (ha : a < 18446744073709551616) (he : Env w) (hf : 9218868437227405312 ≤ a % 9223372036854775808) :
    Calls Tryz.prog 9 #[.int .u64 a] w fun e w' => e = .returned (.bool true) ∧ Below w.heap.size w w' := by
  have HW := Lib.hid (works_any w he)
  have HT := Lib.hid (fun w => truncate_none a w ha hf)
  have HF := Lib.hid (fun w => fraction_none a w ha hf)
  have HNU := Lib.hid (fun w => number_any a w)
  rw [decide_eq_false (by omega)] at HNU
  clear hf ha
  obtain ⟨N, hN⟩ : ∃ N, w.heap.size = N := ⟨_, rfl⟩
  have HB0 : Hid (Below N w w) := Lib.hid (Below.refl _ _)
  have HN0 := Lib.hid (Nat.le_of_eq hN.symm)
  rw [hN]
  clear hN he
  go_enter Tryz.func9, Tryz.ntmps9
  go_wp2_with fail
  refine HW.out.mono ?_
  rintro e w1 ⟨rfl, hb⟩
  have HB1 := Lib.hid (HB0.out.trans (hb.mono HN0.out))
  have HN1 := Lib.hid (Nat.le_trans HN0.out hb.size)
  clear hb HB0 HN0 HW
  go_wp2_with fail
  refine (HT.out _).mono ?_
  rintro e w2 ⟨rfl, hb⟩
  have HB2 := Lib.hid (HB1.out.trans (hb.mono HN1.out))
  have HN2 := Lib.hid (Nat.le_trans HN1.out hb.size)
  clear hb HB1 HN1
  go_wp2_with fail
  obtain ⟨C, hC⟩ : ∃ C, w2.heap.size = C := ⟨_, rfl⟩
  have hb : Below w2.heap.size w2 (w2.alloc (.cells #[.bool false, .string ⟨#[]⟩] 42)) := (Below.refl _ _).alloc (Nat.le_refl _) _
  generalize w2.alloc (.cells #[.bool false, .string ⟨#[]⟩] 42) = w3 at hb ⊢
  have HB3 := Lib.hid (HB2.out.trans (hb.mono HN2.out))
  clear hb HB2 HN2
  refine (HF.out _).mono ?_
  rintro e w' ⟨rfl, rfl⟩
  go_wp2_with fail
  refine (HNU.out _).mono ?_
  rintro e w' ⟨rfl, rfl⟩
  go_wp2_with fail
  go_ret
  exact ⟨rfl, HB3.out⟩
theorem cut_lt {a : Nat} {x : Int} (h : Fl.Is a x) : (Fl.cutI x).natAbs < 256 ^ 4096 := by
  rw [Fl.cutI_abs]
  obtain ⟨m, u, h1, h2, h3⟩ := Fl.fits_of h
  refine Nat.lt_of_le_of_lt (Nat.div_le_self _ _) ?_
  rw [h1]
  obtain ⟨b, hb⟩ : ∃ b, b = 4096 := ⟨_, rfl⟩
  rw [← hb, show (256 : Nat) = 2 ^ 8 from rfl, ← Nat.pow_mul]
  have q1 : m * 2 ^ u < 2 ^ 53 * 2 ^ u := Nat.mul_lt_mul_of_pos_right (by simpa using h2) (Nat.two_pow_pos _)
  rw [← Nat.pow_add] at q1
  exact Nat.lt_of_lt_of_le q1 (Nat.pow_le_pow_right (by decide) (by omega))
set_option maxRecDepth 4000 in
set_option maxHeartbeats 4000000 in
theorem parts_zero (a : Nat) (w : World) (ha : a < 18446744073709551616) (he : Env w) (hf : a % 9223372036854775808 < 9218868437227405312) (hz : a % 9223372036854775808 = 0) :
    Calls Tryz.prog 9 #[.int .u64 a] w fun e w' => e = .returned (.bool true) ∧ Below w.heap.size w w' := by
  have HW := Lib.hid (works_any w he)
  have hI := Fl.is_self ha hf
  have HT := Lib.hid (fun w => truncate_fin a _ w hI)
  have HF := Lib.hid (fun w => fraction_fin a _ w hI)
  have HNU := Lib.hid (fun w => number_any a w)
  rw [decide_eq_true hf] at HNU
  obtain ⟨hri, hwi⟩ := Fl.is_whole hI
  have HOL := Lib.hid (fun w => oflarge_any (decide (Fl.cutI (Fl.V a) < 0)) (Fl.cutI (Fl.V a)).natAbs w (cut_lt hI) (by simp; omega))
  unfold oflv at HOL
  rw [if_neg hri] at HOL
  have hsum := Fl.parts_sum hI hwi
  obtain ⟨hr1, hr2⟩ := Fl.rest_one hI
  have HX := Lib.hid (fun w => exponent_any a w ha)
  have hxn : Fl.fexp a = none := by unfold Fl.fexp; rw [if_pos (.inl hz)]
  unfold expv at HX
  rw [hxn] at HX
  generalize Fl.D.word (decide (Fl.cutI (Fl.V a) < 0)) (Fl.rung ((Fl.cutI (Fl.V a)).natAbs * 2 ^ Fl.E74) 1) = wv at *
  have HAD := Lib.hid (fun w => add_any wv (Fl.ffr a) w)
  have HC1 := Lib.hid (fun w => cmp_any (Fl.fadd wv (Fl.ffr a)) a w)
  rw [hsum] at HC1
  have HON := Lib.hid (fun w => ofsmall_any 1 w)
  have HC2 := Lib.hid (fun w => cmp_any (Fl.ffr a) (Fl.fint 1) w)
  rw [hr1] at HC2
  have HNG := Lib.hid (fun w => neg_any (Fl.fint 1) w)
  have HC3' := Lib.hid (fun w => cmp_any (Fl.ffr a) (Fl.fneg (Fl.fint 1)) w)
  rw [hr2] at HC3'
  have HZF := Lib.hid (Fl.ffr_zero ha hz)
  have hcz : Fl.cutI (Fl.V a) = 0 := by rw [Fl.V_zero hz]; unfold Fl.cutI; simp
  have HZ1 := Lib.hid (show decide (Fl.cutI (Fl.V a) < 0) = false by rw [hcz]; decide)
  have HZ2 := Lib.hid (show bs (Pl.dgs (Fl.cutI (Fl.V a)).natAbs) = ⟨#[]⟩ by rw [hcz]; show bs (Pl.dgs 0) = _; rw [Pl.dgs_zero])
  generalize Fl.fadd wv (Fl.ffr a) = sv at *
  generalize Fl.fneg (Fl.fint 1) = mo at *
  generalize Fl.fint 1 = on at *
  generalize Fl.ffr a = fr at *
  have HTL : Hid (lof (Fl.cutI (Fl.V a)) = .agg #[.bool (decide (Fl.cutI (Fl.V a) < 0)), .string (bs (Pl.dgs (Fl.cutI (Fl.V a)).natAbs))]) := Lib.hid rfl
  rw [HTL.out] at HT
  unfold lv at HOL
  generalize decide (Fl.cutI (Fl.V a) < 0) = g1 at *
  generalize bs (Pl.dgs (Fl.cutI (Fl.V a)).natAbs) = S1 at *
  clear hI hri hwi hsum hr1 hr2 hf HTL
  have hz' : (a : Int) % 9223372036854775808 = 0 := by omega
  have hfr := HZF.out
  obtain rfl := HZ1.out
  have hS1 := HZ2.out
  subst hS1
  subst hfr
  clear hz hxn hcz HZF HZ1 HZ2
  have hg := guard_large
  have heq : ∀ w, (binOp .eql 42 (.agg #[.bool false, .string ⟨#[]⟩]) (.agg #[.bool false, .string ⟨#[]⟩])).run Tryz.prog w = .ok (.bool true) w := fun w => by rw [run_large_eq]; simp
  obtain ⟨N, hN⟩ : ∃ N, w.heap.size = N := ⟨_, rfl⟩
  have HB0 : Hid (Below N w w) := Lib.hid (Below.refl _ _)
  have HN0 := Lib.hid (Nat.le_of_eq hN.symm)
  rw [hN]
  clear hN he
  go_enter Tryz.func9, Tryz.ntmps9
  go_wp2_with fail
  refine HW.out.mono ?_
  rintro e w1 ⟨rfl, hb⟩
  have HB1 := Lib.hid (HB0.out.trans (hb.mono HN0.out))
  have HN1 := Lib.hid (Nat.le_trans HN0.out hb.size)
  clear hb HB0 HN0 HW
  go_wp2_with fail
  refine (HT.out _).mono ?_
  rintro e w2 ⟨rfl, hb⟩
  have HB2 := Lib.hid (HB1.out.trans (hb.mono HN1.out))
  have HN2 := Lib.hid (Nat.le_trans HN1.out hb.size)
  clear hb HB1 HN1
  go_wp2_with fail
  obtain ⟨C, hC⟩ : ∃ C, w2.heap.size = C := ⟨_, rfl⟩
  have hb : Below w2.heap.size w2 (w2.alloc (.cells #[.bool false, .string ⟨#[]⟩] 42)) := (Below.refl _ _).alloc (Nat.le_refl _) _
  have hh : (w2.alloc (.cells #[.bool false, .string ⟨#[]⟩] 42)).heap[w2.heap.size]? = some (.cells #[.bool false, .string ⟨#[]⟩] 42) := heap_alloc_at _ _
  rw [hC] at hh ⊢
  generalize w2.alloc (.cells #[.bool false, .string ⟨#[]⟩] 42) = w3 at hb hh ⊢
  have HB3 := Lib.hid (HB2.out.trans (hb.mono HN2.out))
  have HN3 := Lib.hid (Nat.le_trans HN2.out hb.size)
  have HC3 := Lib.hid hh
  clear hb hh hC HB2 HN2
  refine (HF.out _).mono ?_
  rintro e w' ⟨rfl, rfl⟩
  go_wp2_with fail
  refine (HNU.out _).mono ?_
  rintro e w' ⟨rfl, rfl⟩
  obtain ⟨c0, c1, _⟩ := large_cells HC3.out
  go_wp2_with fail
  clear c0 c1
  refine (HOL.out _).mono ?_
  rintro e w4 ⟨rfl, hb⟩
  have HB4 := Lib.hid (HB3.out.trans (hb.mono HN3.out))
  have HN4 := Lib.hid (Nat.le_trans HN3.out hb.size)
  have HC4 := Lib.hid (large_kept HC3.out hb)
  clear hb HB3 HN3 HC3
  go_wp2_with fail
  refine (HAD.out _).mono ?_
  rintro e w5 ⟨rfl, hb⟩
  have HB5 := Lib.hid (HB4.out.trans (hb.mono HN4.out))
  have HN5 := Lib.hid (Nat.le_trans HN4.out hb.size)
  have HC5 := Lib.hid (large_kept HC4.out hb)
  clear hb HB4 HN4 HC4
  go_wp2_with fail
  refine (HC1.out _).mono ?_
  rintro e w' ⟨rfl, rfl⟩
  go_wp2_with fail
  refine (HON.out _).mono ?_
  rintro e w' ⟨rfl, rfl⟩
  go_wp2_with fail
  refine (HC2.out _).mono ?_
  rintro e w' ⟨rfl, rfl⟩
  go_wp2_with fail
  refine (HNG.out _).mono ?_
  rintro e w' ⟨rfl, rfl⟩
  go_wp2_with fail
  refine (HC3'.out _).mono ?_
  rintro e w' ⟨rfl, rfl⟩
  go_wp2_with fail
  refine (HX.out _).mono ?_
  rintro e w' ⟨rfl, rfl⟩
  obtain ⟨c0, c1, _⟩ := large_cells HC5.out
  go_wp2_with fail
  go_ret
  exact ⟨rfl, HB5.out⟩
set_option maxRecDepth 4000 in
set_option maxHeartbeats 4000000 in
theorem parts_num (a : Nat) (n : Int) (w : World) (ha : a < 18446744073709551616) (he : Env w) (hx : Fl.fexp a = some n) :
    Calls Tryz.prog 9 #[.int .u64 a] w fun e w' => e = .returned (.bool true) ∧ Below w.heap.size w w' := by
  obtain ⟨_, hz, hf⟩ := Fl.fexp_some hx
  have HW := Lib.hid (works_any w he)
  have hI := Fl.is_self ha hf
  have HT := Lib.hid (fun w => truncate_fin a _ w hI)
  have HF := Lib.hid (fun w => fraction_fin a _ w hI)
  have HNU := Lib.hid (fun w => number_any a w)
  rw [decide_eq_true hf] at HNU
  obtain ⟨hri, hwi⟩ := Fl.is_whole hI
  have HOL := Lib.hid (fun w => oflarge_any (decide (Fl.cutI (Fl.V a) < 0)) (Fl.cutI (Fl.V a)).natAbs w (cut_lt hI) (by simp; omega))
  unfold oflv at HOL
  rw [if_neg hri] at HOL
  have hsum := Fl.parts_sum hI hwi
  obtain ⟨hr1, hr2⟩ := Fl.rest_one hI
  have HX := Lib.hid (fun w => exponent_any a w ha)
  unfold expv at HX
  rw [hx] at HX
  generalize Fl.D.word (decide (Fl.cutI (Fl.V a) < 0)) (Fl.rung ((Fl.cutI (Fl.V a)).natAbs * 2 ^ Fl.E74) 1) = wv at *
  have HAD := Lib.hid (fun w => add_any wv (Fl.ffr a) w)
  have HC1 := Lib.hid (fun w => cmp_any (Fl.fadd wv (Fl.ffr a)) a w)
  rw [hsum] at HC1
  have HON := Lib.hid (fun w => ofsmall_any 1 w)
  have HC2 := Lib.hid (fun w => cmp_any (Fl.ffr a) (Fl.fint 1) w)
  rw [hr1] at HC2
  have HNG := Lib.hid (fun w => neg_any (Fl.fint 1) w)
  have HC3' := Lib.hid (fun w => cmp_any (Fl.ffr a) (Fl.fneg (Fl.fint 1)) w)
  rw [hr2] at HC3'
  obtain ⟨hl1, hl2⟩ := Fl.parts_law ha hx
  obtain ⟨hn1, hn2, _, _⟩ := Fl.fexp_V hx
  have HP := Lib.hid (fun w => scale_any (Fl.fint 1) n w Fl.is_one.lt)
  have HQ := Lib.hid (fun w => scale_any (Fl.fint 1) (n + 1) w Fl.is_one.lt)
  have HC4' := Lib.hid (fun w => cmp_any (Fl.fscale (Fl.fint 1) n) (a % 9223372036854775808) w)
  have HC5' := Lib.hid (fun w => cmp_any (a % 9223372036854775808) (Fl.fscale (Fl.fint 1) (n + 1)) w)
  generalize (Fl.fcmp (Fl.fscale (Fl.fint 1) n) (a % 9223372036854775808)).2 = b4 at *
  generalize (Fl.fcmp (a % 9223372036854775808) (Fl.fscale (Fl.fint 1) (n + 1))).2 = b5 at *
  generalize (Fl.fcmp (Fl.fscale (Fl.fint 1) n) (a % 9223372036854775808)).1 = o4 at *
  generalize (Fl.fcmp (a % 9223372036854775808) (Fl.fscale (Fl.fint 1) (n + 1))).1 = o5 at *
  generalize Fl.fscale (Fl.fint 1) n = pv at *
  generalize Fl.fscale (Fl.fint 1) (n + 1) = qv at *
  generalize Fl.fadd wv (Fl.ffr a) = sv at *
  generalize Fl.fneg (Fl.fint 1) = mo at *
  generalize Fl.fint 1 = on at *
  generalize Fl.ffr a = fr at *
  have HTL : Hid (lof (Fl.cutI (Fl.V a)) = .agg #[.bool (decide (Fl.cutI (Fl.V a) < 0)), .string (bs (Pl.dgs (Fl.cutI (Fl.V a)).natAbs))]) := Lib.hid rfl
  rw [HTL.out] at HT
  unfold lv at HOL
  generalize decide (Fl.cutI (Fl.V a) < 0) = g1 at *
  generalize bs (Pl.dgs (Fl.cutI (Fl.V a)).natAbs) = S1 at *
  clear hI hri hwi hsum hr1 hr2 hf HTL
  obtain ⟨ma, hma⟩ : ∃ ma : Nat, a % 9223372036854775808 = ma := ⟨_, rfl⟩
  have hma' : (a : Int) % 9223372036854775808 = (ma : Int) := by omega
  rw [hma] at hz HC4' HC5'
  have hz' : ((ma : Int) == 0) = false := by rw [beq_eq_false_iff_ne]; omega
  have hl1' : decide (o4 ≤ 0) = true := decide_eq_true hl1
  have hl2' : decide (o5 < 0) = true := decide_eq_true hl2
  have hwn : IntKind.i64.wrap (n + 1) = n + 1 := by rw [IntKind.wrap_i64]; omega
  clear hma hx hz hl1 hl2
  obtain ⟨N, hN⟩ : ∃ N, w.heap.size = N := ⟨_, rfl⟩
  have HB0 : Hid (Below N w w) := Lib.hid (Below.refl _ _)
  have HN0 := Lib.hid (Nat.le_of_eq hN.symm)
  rw [hN]
  clear hN he
  go_enter Tryz.func9, Tryz.ntmps9
  go_wp2_with fail
  refine HW.out.mono ?_
  rintro e w1 ⟨rfl, hb⟩
  have HB1 := Lib.hid (HB0.out.trans (hb.mono HN0.out))
  have HN1 := Lib.hid (Nat.le_trans HN0.out hb.size)
  clear hb HB0 HN0 HW
  go_wp2_with fail
  refine (HT.out _).mono ?_
  rintro e w2 ⟨rfl, hb⟩
  have HB2 := Lib.hid (HB1.out.trans (hb.mono HN1.out))
  have HN2 := Lib.hid (Nat.le_trans HN1.out hb.size)
  clear hb HB1 HN1
  go_wp2_with fail
  obtain ⟨C, hC⟩ : ∃ C, w2.heap.size = C := ⟨_, rfl⟩
  have hb : Below w2.heap.size w2 (w2.alloc (.cells #[.bool g1, .string S1] 42)) := (Below.refl _ _).alloc (Nat.le_refl _) _
  have hh : (w2.alloc (.cells #[.bool g1, .string S1] 42)).heap[w2.heap.size]? = some (.cells #[.bool g1, .string S1] 42) := heap_alloc_at _ _
  rw [hC] at hh ⊢
  generalize w2.alloc (.cells #[.bool g1, .string S1] 42) = w3 at hb hh ⊢
  have HB3 := Lib.hid (HB2.out.trans (hb.mono HN2.out))
  have HN3 := Lib.hid (Nat.le_trans HN2.out hb.size)
  have HC3 := Lib.hid hh
  clear hb hh hC HB2 HN2
  refine (HF.out _).mono ?_
  rintro e w' ⟨rfl, rfl⟩
  go_wp2_with fail
  refine (HNU.out _).mono ?_
  rintro e w' ⟨rfl, rfl⟩
  obtain ⟨c0, c1, _⟩ := large_cells HC3.out
  go_wp2_with fail
  clear c0 c1
  refine (HOL.out _).mono ?_
  rintro e w4 ⟨rfl, hb⟩
  have HB4 := Lib.hid (HB3.out.trans (hb.mono HN3.out))
  have HN4 := Lib.hid (Nat.le_trans HN3.out hb.size)
  have HC4 := Lib.hid (large_kept HC3.out hb)
  clear hb HB3 HN3 HC3
  go_wp2_with fail
  refine (HAD.out _).mono ?_
  rintro e w5 ⟨rfl, hb⟩
  have HB5 := Lib.hid (HB4.out.trans (hb.mono HN4.out))
  have HN5 := Lib.hid (Nat.le_trans HN4.out hb.size)
  have HC5 := Lib.hid (large_kept HC4.out hb)
  clear hb HB4 HN4 HC4
  go_wp2_with fail
  refine (HC1.out _).mono ?_
  rintro e w' ⟨rfl, rfl⟩
  go_wp2_with fail
  refine (HON.out _).mono ?_
  rintro e w' ⟨rfl, rfl⟩
  go_wp2_with fail
  refine (HC2.out _).mono ?_
  rintro e w' ⟨rfl, rfl⟩
  go_wp2_with fail
  refine (HNG.out _).mono ?_
  rintro e w' ⟨rfl, rfl⟩
  go_wp2_with fail
  refine (HC3'.out _).mono ?_
  rintro e w' ⟨rfl, rfl⟩
  go_wp2_with fail
  refine (HX.out _).mono ?_
  rintro e w' ⟨rfl, rfl⟩
  go_wp2_with fail
  refine (HP.out _).mono ?_
  rintro e w' ⟨rfl, rfl⟩
  go_wp2_with fail
  refine (HQ.out _).mono ?_
  rintro e w' ⟨rfl, rfl⟩
  go_wp2_with fail
  refine (HC4'.out _).mono ?_
  rintro e w' ⟨rfl, rfl⟩
  go_wp2_with fail
  refine (HC5'.out _).mono ?_
  rintro e w' ⟨rfl, rfl⟩
  go_wp2_with fail
  go_ret
  exact ⟨rfl, HB5.out⟩
theorem parts_any (a : Nat) (w : World) (ha : a < 18446744073709551616) (he : Env w) :
    Calls Tryz.prog 9 #[.int .u64 a] w fun e w' => e = .returned (.bool true) ∧ Below w.heap.size w w' := by
  rcases Nat.lt_or_ge (a % 9223372036854775808) 9218868437227405312 with hf | hf
  · cases hx : Fl.fexp a with
    | some n => exact parts_num a n w ha he hx
    | none =>
      refine parts_zero a w ha he hf ?_
      unfold Fl.fexp at hx
      split at hx
      · rename_i h
        omega
      · split at hx <;> cases hx
  · exact parts_none a w ha he hf
end Go.Proofs.YtgdohmaljbggjaaGreatDoor
