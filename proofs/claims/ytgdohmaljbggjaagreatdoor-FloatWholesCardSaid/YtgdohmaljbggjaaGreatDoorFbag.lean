/- The document's sums, products, quotients: the contracts of Neg, Cmp, Add, Sub, Mul, Div. (Its cases by gen_rte.py.) -/
import Derived.Test.YtgdohmaljbggjaaGreatDoorFbaf
namespace Go.Proofs.YtgdohmaljbggjaaGreatDoor
open Go.RowKit Go.Lib
theorem lofn (V : Nat) : lof (V : Int) = .agg #[.bool false, .string (bs (Pl.dgs V))] := by rw [lof_is, nb_nat, decide_eq_false (by omega)]
theorem none_is : Fl.none' = 9221120237041090560 := rfl
theorem nb_E (k : Nat) : Pl.nb (2 ^ k) ≤ k + 1 := by
  have h := Pl.nb_shift 1 k
  have h1 : Pl.nb 1 = 1 := by decide
  rw [Nat.one_mul] at h
  omega
theorem rmuln_any (A B : Nat) (w : World) (hA : Pl.nb A ≤ 9000) (hB : Pl.nb B ≤ 9000) :
    Calls Tryz.prog 80 #[lof A, lof B] w fun e w' => e = .returned (.tuple #[lof (A * B : Nat), .int .i64 0]) ∧ Below w.heap.size w w' := by
  have h := rmul_any false false A B w ⟨Pl.nb_good (by omega), by simp⟩ ⟨Pl.nb_good (by omega), by simp⟩ (Pl.nb_good (by have := Pl.nb_mul A B; omega))
  rw [lofn, lofn, lofn]
  exact h
theorem bits_xor {a b : Nat} (ha : a < 18446744073709551616) (hb : b < 18446744073709551616) : bits .xor .u64 (a : Int) (b : Int) = ((a ^^^ b : Nat) : Int) := by
  have h64 : (2 : Nat) ^ IntKind.u64.bits = 18446744073709551616 := rfl
  have ho : a ^^^ b < 2 ^ 64 := Nat.xor_lt_two_pow (by simpa using ha) (by simpa using hb)
  simp only [bits, BitVec.ofInt_natCast, BitVec.toNat_xor, BitVec.toNat_ofNat, h64]
  rw [Nat.mod_eq_of_lt ha, Nat.mod_eq_of_lt hb, wrap_nat (by simpa using ho)]
theorem fneg_lt {a : Nat} (ha : a < 18446744073709551616) : Fl.fneg a < 18446744073709551616 := by
  unfold Fl.fneg Fl.told
  split
  · rw [none_is]; omega
  · exact (Fl.xor_mod ha).2.2
theorem nb_V {a : Nat} (ha : a < 18446744073709551616) (h : Fl.kind a ≤ 1) : Pl.nb (Fl.V a).natAbs ≤ 2098 := by
  have h1 := nb_val h
  have h2 := val_parts ha h
  have h3 : (Fl.V a).natAbs = pm a * 2 ^ (pe a + 1074).toNat := by rw [h2]; split <;> omega
  rw [h3]; exact h1
set_option maxHeartbeats 2000000 in
theorem rneg_any (a : Nat) (w : World) (ha : a < 18446744073709551616) : Calls Tryz.prog 40 #[.int .u64 a] w fun e w' => e = .returned (.int .u64 (Fl.fneg a : Nat)) ∧ w = w' := by
  have HKA := Lib.hid (fun w => rkind_any a w ha)
  have hka := Fl.kind_cases a
  obtain ⟨x, hx⟩ : ∃ x, Fl.kind a = x := ⟨_, rfl⟩
  rw [hx] at hka HKA
  by_cases h3 : x = 3
  · have HR := Lib.hid (show Fl.fneg a = 9221120237041090560 by
      have hn := Fl.kind_nan (hx.trans h3)
      unfold Fl.fneg Fl.told
      rw [Fl.isNan_xor ha, hn]; rfl)
    have f3 : ((x : Int) == 3) = true := by rw [beq_iff_eq]; omega
    clear hka hx h3
    go_enter Tryz.func40, Tryz.ntmps40
    go_wp2_with fail
    refine (HKA.out _).mono ?_
    rintro e w1 ⟨rfl, rfl⟩
    go_wp2_with fail
    go_ret
    exact ⟨ret_int (by rw [HR.out]; rfl), rfl⟩
  · have HR := Lib.hid (show Fl.fneg a = a ^^^ 9223372036854775808 by
      have hn : Fl.isNan a = false := by
        simp only [Fl.isNan, decide_eq_false_iff_not]
        rcases Fl.kind_cases a with h1 | h1 | h1 | h1
        · have := Fl.kind_fin (by omega : Fl.kind a ≤ 1); omega
        · have := Fl.kind_fin (by omega : Fl.kind a ≤ 1); omega
        · have := Fl.kind_inf h1; omega
        · omega
      unfold Fl.fneg Fl.told
      rw [Fl.isNan_xor ha, hn]; rfl)
    have f3 : ((x : Int) == 3) = false := by rw [beq_eq_false_iff_ne]; omega
    clear hka hx h3
    go_enter Tryz.func40, Tryz.ntmps40
    go_wp2_with fail
    refine (HKA.out _).mono ?_
    rintro e w1 ⟨rfl, rfl⟩
    go_wp2_with fail
    go_ret
    refine ⟨ret_int ?_, rfl⟩
    rw [HR.out]
    exact bits_xor (b := 9223372036854775808) ha (by omega)
set_option maxRecDepth 4000 in
set_option maxHeartbeats 16000000 in
theorem rtadd_any (a b : Nat) (w : World) (ha : a < 18446744073709551616) (hb : b < 18446744073709551616) :
    Calls Tryz.prog 36 #[.int .u64 a, .int .u64 b] w (U64Ok w (Fl.fadd a b)) := by
  have HKA := Lib.hid (fun w => rkind_any a w ha)
  have HKB := Lib.hid (fun w => rkind_any b w hb)
  have hka := Fl.kind_cases a
  have hkb := Fl.kind_cases b
  obtain ⟨x, hx⟩ : ∃ x, Fl.kind a = x := ⟨_, rfl⟩
  obtain ⟨y, hy⟩ : ∃ y, Fl.kind b = y := ⟨_, rfl⟩
  rw [hx] at hka HKA
  rw [hy] at hkb HKB
  unfold U64Ok
  rcases (show x = 3 ∨ (x ≠ 3 ∧ y = 3) ∨ (x = 2 ∧ y = 2 ∧ a ≠ b) ∨ (x = 2 ∧ y = 2 ∧ a = b) ∨ (x = 2 ∧ y ≤ 1) ∨ (x ≤ 1 ∧ y = 2) ∨ (x = 0 ∧ y = 0 ∧ a = b) ∨ ((x = 1 ∧ y ≤ 1 ∨ x = 0 ∧ y = 1) ∨ x = 0 ∧ y = 0 ∧ a ≠ b) by omega) with h | h | h | h | h | h | h | h
  · have HR := Lib.hid (show Fl.fadd a b = 9221120237041090560 by rw [Fl.fadd_none ha hb (by omega)]; rfl)
    have fX3 : (((x : Nat) : Int) == 3) = true := by rw [beq_iff_eq]; omega
    clear ha hb hka hkb hx hy h
    go_enter Tryz.func36, Tryz.ntmps36
    go_wp2_with fail
    refine (HKA.out _).mono ?_
    rintro e w1 ⟨rfl, rfl⟩
    go_wp2_with fail
    refine (HKB.out _).mono ?_
    rintro e w1 ⟨rfl, rfl⟩
    go_wp2_with fail
    go_ret
    exact ⟨ret_int (by rw [HR.out]; rfl), Below.refl _ _⟩
  · have HR := Lib.hid (show Fl.fadd a b = 9221120237041090560 by rw [Fl.fadd_none ha hb (by omega)]; rfl)
    have fX3 : (((x : Nat) : Int) == 3) = false := by rw [beq_eq_false_iff_ne]; omega
    have fY3 : (((y : Nat) : Int) == 3) = true := by rw [beq_iff_eq]; omega
    clear ha hb hka hkb hx hy h
    go_enter Tryz.func36, Tryz.ntmps36
    go_wp2_with fail
    refine (HKA.out _).mono ?_
    rintro e w1 ⟨rfl, rfl⟩
    go_wp2_with fail
    refine (HKB.out _).mono ?_
    rintro e w1 ⟨rfl, rfl⟩
    go_wp2_with fail
    go_ret
    exact ⟨ret_int (by rw [HR.out]; rfl), Below.refl _ _⟩
  · have HR := Lib.hid (show Fl.fadd a b = 9221120237041090560 by rw [Fl.fadd_none ha hb (by omega)]; rfl)
    have fX3 : (((x : Nat) : Int) == 3) = false := by rw [beq_eq_false_iff_ne]; omega
    have fY3 : (((y : Nat) : Int) == 3) = false := by rw [beq_eq_false_iff_ne]; omega
    have fX2 : (((x : Nat) : Int) == 2) = true := by rw [beq_iff_eq]; omega
    have fY2 : (((y : Nat) : Int) == 2) = true := by rw [beq_iff_eq]; omega
    have fab : ((a : Int) != (b : Int)) = true := by rw [bne_iff_ne]; omega
    clear ha hb hka hkb hx hy h
    go_enter Tryz.func36, Tryz.ntmps36
    go_wp2_with fail
    refine (HKA.out _).mono ?_
    rintro e w1 ⟨rfl, rfl⟩
    go_wp2_with fail
    refine (HKB.out _).mono ?_
    rintro e w1 ⟨rfl, rfl⟩
    go_wp2_with fail
    go_ret
    exact ⟨ret_int (by rw [HR.out]; rfl), Below.refl _ _⟩
  · have HR := Lib.hid (show Fl.fadd a b = a by rw [Fl.fadd_infl ha hb (by omega) (by omega) (by omega)])
    have fX3 : (((x : Nat) : Int) == 3) = false := by rw [beq_eq_false_iff_ne]; omega
    have fY3 : (((y : Nat) : Int) == 3) = false := by rw [beq_eq_false_iff_ne]; omega
    have fX2 : (((x : Nat) : Int) == 2) = true := by rw [beq_iff_eq]; omega
    have fY2 : (((y : Nat) : Int) == 2) = true := by rw [beq_iff_eq]; omega
    obtain rfl := h.2.2
    have fab : ((a : Int) != (a : Int)) = false := by simp
    clear ha hb hka hkb hx hy h
    go_enter Tryz.func36, Tryz.ntmps36
    go_wp2_with fail
    refine (HKA.out _).mono ?_
    rintro e w1 ⟨rfl, rfl⟩
    go_wp2_with fail
    refine (HKB.out _).mono ?_
    rintro e w1 ⟨rfl, rfl⟩
    go_wp2_with fail
    go_ret
    exact ⟨ret_int (by rw [HR.out]), Below.refl _ _⟩
  · have HR := Lib.hid (show Fl.fadd a b = a by rw [Fl.fadd_infl ha hb (by omega) (by omega) (by omega)])
    have fX3 : (((x : Nat) : Int) == 3) = false := by rw [beq_eq_false_iff_ne]; omega
    have fY3 : (((y : Nat) : Int) == 3) = false := by rw [beq_eq_false_iff_ne]; omega
    have fX2 : (((x : Nat) : Int) == 2) = true := by rw [beq_iff_eq]; omega
    have fY2 : (((y : Nat) : Int) == 2) = false := by rw [beq_eq_false_iff_ne]; omega
    clear ha hb hka hkb hx hy h
    go_enter Tryz.func36, Tryz.ntmps36
    go_wp2_with fail
    refine (HKA.out _).mono ?_
    rintro e w1 ⟨rfl, rfl⟩
    go_wp2_with fail
    refine (HKB.out _).mono ?_
    rintro e w1 ⟨rfl, rfl⟩
    go_wp2_with fail
    go_ret
    exact ⟨ret_int (by rw [HR.out]), Below.refl _ _⟩
  · have HR := Lib.hid (show Fl.fadd a b = b by rw [Fl.fadd_infr hb (by omega) (by omega)])
    have fX3 : (((x : Nat) : Int) == 3) = false := by rw [beq_eq_false_iff_ne]; omega
    have fY3 : (((y : Nat) : Int) == 3) = false := by rw [beq_eq_false_iff_ne]; omega
    have fX2 : (((x : Nat) : Int) == 2) = false := by rw [beq_eq_false_iff_ne]; omega
    have fY2 : (((y : Nat) : Int) == 2) = true := by rw [beq_iff_eq]; omega
    clear ha hb hka hkb hx hy h
    go_enter Tryz.func36, Tryz.ntmps36
    go_wp2_with fail
    refine (HKA.out _).mono ?_
    rintro e w1 ⟨rfl, rfl⟩
    go_wp2_with fail
    refine (HKB.out _).mono ?_
    rintro e w1 ⟨rfl, rfl⟩
    go_wp2_with fail
    go_ret
    exact ⟨ret_int (by rw [HR.out]), Below.refl _ _⟩
  · have HR := Lib.hid (show Fl.fadd a b = a by rw [← h.2.2]; exact Fl.fadd_zero ha (by omega))
    have fX3 : (((x : Nat) : Int) == 3) = false := by rw [beq_eq_false_iff_ne]; omega
    have fY3 : (((y : Nat) : Int) == 3) = false := by rw [beq_eq_false_iff_ne]; omega
    have fX2 : (((x : Nat) : Int) == 2) = false := by rw [beq_eq_false_iff_ne]; omega
    have fY2 : (((y : Nat) : Int) == 2) = false := by rw [beq_eq_false_iff_ne]; omega
    have fX0 : (((x : Nat) : Int) == 0) = true := by rw [beq_iff_eq]; omega
    have fY0 : (((y : Nat) : Int) == 0) = true := by rw [beq_iff_eq]; omega
    have fab : ((a : Int) == (b : Int)) = true := by rw [beq_iff_eq]; omega
    clear ha hb hka hkb hx hy h
    go_enter Tryz.func36, Tryz.ntmps36
    go_wp2_with fail
    refine (HKA.out _).mono ?_
    rintro e w1 ⟨rfl, rfl⟩
    go_wp2_with fail
    refine (HKB.out _).mono ?_
    rintro e w1 ⟨rfl, rfl⟩
    go_wp2_with fail
    go_ret
    exact ⟨ret_int (by rw [HR.out]), Below.refl _ _⟩
  · have k1 : Fl.kind a ≤ 1 := by omega
    have k2 : Fl.kind b ≤ 1 := by omega
    obtain ⟨s, hs⟩ : ∃ s, Fl.V a + Fl.V b = s := ⟨_, rfl⟩
    have hbs : Pl.nb s.natAbs ≤ 2100 := by
      have h1 := nb_V ha k1
      have h2 := nb_V hb k2
      have h3 := Pl.nb_add (Fl.V a).natAbs (Fl.V b).natAbs
      have h4 : s.natAbs ≤ (Fl.V a).natAbs + (Fl.V b).natAbs := by omega
      have h5 := Pl.nb_mono h4
      omega
    have HR := Lib.hid (show Fl.D.word (decide (s < 0)) (Fl.rung (s.natAbs * 2 ^ Fl.E74) (2 ^ Fl.E74)) = Fl.fadd a b by
      have h1 := Fl.rung_scale s.natAbs 1 (Nat.two_pow_pos Fl.E74)
      rw [Nat.one_mul] at h1
      rw [h1, Fl.fadd_fin ha hb k1 k2 (by omega), hs])
    have HEA := Lib.hid (fun w => rexact_any a w ha k1)
    have HEB := Lib.hid (fun w => rexact_any b w hb k2)
    have HAD := Lib.hid (fun w => radd_any (Fl.V a) (Fl.V b) w (by have := nb_V ha k1; omega) (by have := nb_V hb k2; omega))
    rw [hs] at HAD
    have HWH := Lib.hid (fun w => rwhole_any s w)
    have HUN := Lib.hid (fun w => runit_any w)
    have HRD := Lib.hid (fun w => rround_any (decide (s < 0)) s.natAbs (2 ^ Fl.E74) w (by omega) (by have := Fl.E74_is; have := nb_E Fl.E74; omega) (by have := Nat.two_pow_pos Fl.E74; omega))
    rw [HR.out] at HRD
    have hx0 : (((x : Nat) : Int) == 0 && ((y : Nat) : Int) == 0 && (a : Int) == (b : Int)) = false := by
      rcases h with (h | h) | h
      · rw [show (((x : Nat) : Int) == 0) = false by rw [beq_eq_false_iff_ne]; omega]; rfl
      · rw [show (((y : Nat) : Int) == 0) = false by rw [beq_eq_false_iff_ne]; omega, Bool.and_false]; rfl
      · rw [show ((a : Int) == (b : Int)) = false by rw [beq_eq_false_iff_ne]; omega, Bool.and_false]
    have fX3 : (((x : Nat) : Int) == 3) = false := by rw [beq_eq_false_iff_ne]; omega
    have fY3 : (((y : Nat) : Int) == 3) = false := by rw [beq_eq_false_iff_ne]; omega
    have fX2 : (((x : Nat) : Int) == 2) = false := by rw [beq_eq_false_iff_ne]; omega
    have fY2 : (((y : Nat) : Int) == 2) = false := by rw [beq_eq_false_iff_ne]; omega
    unfold LofOk at *
    unfold U64Ok at HRD
    simp only [lof_is] at HEA HEB HAD HWH HUN HRD
    generalize bs (Pl.dgs (Fl.V a).natAbs) = sa at *
    generalize decide (Fl.V a < 0) = na at *
    generalize bs (Pl.dgs (Fl.V b).natAbs) = sb at *
    generalize decide (Fl.V b < 0) = nb at *
    generalize bs (Pl.dgs ((s.natAbs : Nat) : Int).natAbs) = sw at *
    generalize decide (((s.natAbs : Nat) : Int) < 0) = nw at *
    generalize bs (Pl.dgs ((2 ^ Fl.E74 : Nat) : Int).natAbs) = su at *
    generalize decide (((2 ^ Fl.E74 : Nat) : Int) < 0) = nu at *
    generalize bs (Pl.dgs s.natAbs) = ss at *
    generalize decide (s < 0) = ns at *
    have hcase : (((x : Nat) : Int) == 0) = false ∨ ((((x : Nat) : Int) == 0) = true ∧ (((y : Nat) : Int) == 0) = false) ∨ ((((x : Nat) : Int) == 0) = true ∧ (((y : Nat) : Int) == 0) = true ∧ ((a : Int) == (b : Int)) = false) := by
      generalize (((x : Nat) : Int) == 0) = u at hx0 ⊢
      generalize (((y : Nat) : Int) == 0) = v at hx0 ⊢
      generalize ((a : Int) == (b : Int)) = z at hx0 ⊢
      cases u <;> cases v <;> cases z <;> simp_all
    clear ha hb hka hkb hx hy h k1 k2 hs hbs hx0 HR
    rcases hcase with fX0 | ⟨fX0, fY0⟩ | ⟨fX0, fY0, fab⟩
    all_goals
      go_enter Tryz.func36, Tryz.ntmps36
      go_wp2_with fail
      refine (HKA.out _).mono ?_
      rintro e w1 ⟨rfl, rfl⟩
      go_wp2_with fail
      refine (HKB.out _).mono ?_
      rintro e w1 ⟨rfl, rfl⟩
      go_wp2_with fail
      refine (HEA.out _).mono ?_
      rintro e w1 ⟨rfl, hb1⟩
      have HB1 := Lib.hid hb1
      clear hb1
      go_wp2_with fail
      refine (HEB.out _).mono ?_
      rintro e w2 ⟨rfl, hb2⟩
      have HB2 := Lib.hid (chain HB1.out hb2)
      clear hb2
      go_wp2_with fail
      refine (HAD.out _).mono ?_
      rintro e w3 ⟨rfl, hb3⟩
      have HB3 := Lib.hid (chain HB2.out hb3)
      clear hb3
      go_wp2_with fail
      have L7 := Lib.hid (Lg.new w3 ns ss)
      have HB4 := Lib.hid (show Below w.heap.size w (w3.alloc (.cells #[.bool ns, .string ss] 42)) from HB3.out.alloc HB3.out.size _)
      obtain ⟨k7, hk7⟩ : ∃ k7, w3.heap.size = k7 := ⟨_, rfl⟩
      rw [hk7] at L7 ⊢
      clear hk7
      generalize w3.alloc (.cells #[.bool ns, .string ss] 42) = w4 at L7 HB4 ⊢
      obtain ⟨p0, p1, _, _⟩ := L7.out.cells
      have BD := Lib.hid (show Below w4.heap.size w4 w4.drew from (Below.refl _ _).drew)
      have HKC := Lib.hid (fun (W : World) (hb : Below w4.heap.size w4 W) => show W.cell? ⟨k7, 0, none⟩ = some (.bool ns) ∧ W.cell? ⟨k7, 1, none⟩ = some (.string ss) from ⟨(L7.out.below hb).cells.1, (L7.out.below hb).cells.2.1⟩)
      go_region_held3 (fun W => W.cell? ⟨k7, 0, none⟩ = some (.bool ns) ∧ W.cell? ⟨k7, 1, none⟩ = some (.string ss)) (first | exact ⟨p0, p1⟩ | exact HKC.out _ BD.out | exact HKC.out _ hB6 | exact HKC.out _ hB7 | exact HKC.out _ hB8 | exact HKC.out _ hB9) (first | (go_at_call 60; (with_reducible refine (HWH.out _).mono ?_); rintro e w9 ⟨rfl, hb9⟩; (first | (have hB9 : Below w4.heap.size w4 w9 := chain hB8 hb9) | (have hB8 : Below w4.heap.size w4 w9 := chain hB7 hb9) | (have hB7 : Below w4.heap.size w4 w9 := chain hB6 hb9) | (have hB6 : Below w4.heap.size w4 w9 := chain BD.out hb9)); clear hb9) | (go_at_call 72; (with_reducible refine (HUN.out _).mono ?_); rintro e w9 ⟨rfl, hb9⟩; (first | (have hB9 : Below w4.heap.size w4 w9 := chain hB8 hb9) | (have hB8 : Below w4.heap.size w4 w9 := chain hB7 hb9) | (have hB7 : Below w4.heap.size w4 w9 := chain hB6 hb9) | (have hB6 : Below w4.heap.size w4 w9 := chain BD.out hb9)); clear hb9) | (go_at_call 59; (with_reducible refine (HRD.out _).mono ?_); rintro e w9 ⟨rfl, hb9⟩; (first | (have hB9 : Below w4.heap.size w4 w9 := chain hB8 hb9) | (have hB8 : Below w4.heap.size w4 w9 := chain hB7 hb9) | (have hB7 : Below w4.heap.size w4 w9 := chain hB6 hb9) | (have hB6 : Below w4.heap.size w4 w9 := chain BD.out hb9)); clear hb9))
      all_goals
        go_wp2_with fail
        go_ret
        exact ⟨rfl, chain HB4.out hB8⟩
set_option maxHeartbeats 2000000 in
theorem rtSub_any (a b : Nat) (w : World) (ha : a < 18446744073709551616) (hb : b < 18446744073709551616) :
    Calls Tryz.prog 37 #[.int .u64 a, .int .u64 b] w (U64Ok w (Fl.fsub a b)) := by
  have HN := Lib.hid (fun w => rneg_any b w hb)
  have HA := Lib.hid (fun w => rtadd_any a (Fl.fneg b) w ha (fneg_lt hb))
  rw [← Fl.fsub_eq a hb] at HA
  unfold U64Ok at *
  clear ha hb
  go_enter Tryz.func37, Tryz.ntmps37
  go_wp2_with fail
  refine (HN.out _).mono ?_
  rintro e w1 ⟨rfl, rfl⟩
  go_wp2_with fail
  refine (HA.out _).mono ?_
  rintro e w1 ⟨rfl, hb⟩
  go_wp2_with fail
  go_ret
  exact ⟨rfl, hb⟩
set_option maxRecDepth 4000 in
set_option maxHeartbeats 16000000 in
theorem rtmul_any (a b : Nat) (w : World) (ha : a < 18446744073709551616) (hb : b < 18446744073709551616) :
    Calls Tryz.prog 38 #[.int .u64 a, .int .u64 b] w (U64Ok w (Fl.fmul a b)) := by
  have HKA := Lib.hid (fun w => rkind_any a w ha)
  have HKB := Lib.hid (fun w => rkind_any b w hb)
  have hka := Fl.kind_cases a
  have hkb := Fl.kind_cases b
  obtain ⟨x, hx⟩ : ∃ x, Fl.kind a = x := ⟨_, rfl⟩
  obtain ⟨y, hy⟩ : ∃ y, Fl.kind b = y := ⟨_, rfl⟩
  rw [hx] at hka HKA
  rw [hy] at hkb HKB
  unfold U64Ok
  obtain ⟨ga, hga⟩ : ∃ g, Fl.sg a = g := ⟨_, rfl⟩
  obtain ⟨gb, hgb⟩ : ∃ g, Fl.sg b = g := ⟨_, rfl⟩
  have hpa : decide ((9223372036854775808 : Int) ≤ (a : Int)) = ga := by rw [← hga, sg_pn ha]; unfold pn; simp only [decide_eq_decide]; omega
  have hpb : decide ((9223372036854775808 : Int) ≤ (b : Int)) = gb := by rw [← hgb, sg_pn hb]; unfold pn; simp only [decide_eq_decide]; omega
  obtain ⟨g, hg⟩ : ∃ g, (!(ga == gb)) = g := ⟨_, rfl⟩
  have hxr : (Fl.sg a ^^ Fl.sg b) = g := by rw [hga, hgb, ← hg]; cases ga <;> cases gb <;> rfl
  rcases (show x = 3 ∨ (x ≠ 3 ∧ y = 3) ∨ (x = 2 ∧ y = 0) ∨ (x = 0 ∧ y = 2) ∨ (x = 2 ∧ (y = 1 ∨ y = 2)) ∨ (x = 1 ∧ y = 2) ∨ (x = 0 ∧ y ≤ 1 ∨ x = 1 ∧ y ≤ 1) by omega) with h | h | h | h | h | h | h
  · have HR := Lib.hid (show Fl.fmul a b = 9221120237041090560 by exact (Fl.fmul_none (by omega)).trans rfl)
    have fX3 : (((x : Nat) : Int) == 3) = true := by rw [beq_iff_eq]; omega
    clear ha hb hka hkb hx hy h hga hgb hxr
    go_enter Tryz.func38, Tryz.ntmps38
    go_wp2_with fail
    refine (HKA.out _).mono ?_
    rintro e w1 ⟨rfl, rfl⟩
    go_wp2_with fail
    refine (HKB.out _).mono ?_
    rintro e w1 ⟨rfl, rfl⟩
    go_wp2_with fail
    go_ret
    exact ⟨ret_int (by rw [HR.out]; rfl), Below.refl _ _⟩
  · have HR := Lib.hid (show Fl.fmul a b = 9221120237041090560 by exact (Fl.fmul_none (by omega)).trans rfl)
    have fX3 : (((x : Nat) : Int) == 3) = false := by rw [beq_eq_false_iff_ne]; omega
    have fY3 : (((y : Nat) : Int) == 3) = true := by rw [beq_iff_eq]; omega
    clear ha hb hka hkb hx hy h hga hgb hxr
    go_enter Tryz.func38, Tryz.ntmps38
    go_wp2_with fail
    refine (HKA.out _).mono ?_
    rintro e w1 ⟨rfl, rfl⟩
    go_wp2_with fail
    refine (HKB.out _).mono ?_
    rintro e w1 ⟨rfl, rfl⟩
    go_wp2_with fail
    go_ret
    exact ⟨ret_int (by rw [HR.out]; rfl), Below.refl _ _⟩
  · have HR := Lib.hid (show Fl.fmul a b = 9221120237041090560 by exact (Fl.fmul_none (by omega)).trans rfl)
    have fX3 : (((x : Nat) : Int) == 3) = false := by rw [beq_eq_false_iff_ne]; omega
    have fY3 : (((y : Nat) : Int) == 3) = false := by rw [beq_eq_false_iff_ne]; omega
    have fX2 : (((x : Nat) : Int) == 2) = true := by rw [beq_iff_eq]; omega
    have fY0 : (((y : Nat) : Int) == 0) = true := by rw [beq_iff_eq]; omega
    clear ha hb hka hkb hx hy h hga hgb hxr
    go_enter Tryz.func38, Tryz.ntmps38
    go_wp2_with fail
    refine (HKA.out _).mono ?_
    rintro e w1 ⟨rfl, rfl⟩
    go_wp2_with fail
    refine (HKB.out _).mono ?_
    rintro e w1 ⟨rfl, rfl⟩
    go_wp2_with fail
    go_ret
    exact ⟨ret_int (by rw [HR.out]; rfl), Below.refl _ _⟩
  · have HR := Lib.hid (show Fl.fmul a b = 9221120237041090560 by exact (Fl.fmul_none (by omega)).trans rfl)
    have fX3 : (((x : Nat) : Int) == 3) = false := by rw [beq_eq_false_iff_ne]; omega
    have fY3 : (((y : Nat) : Int) == 3) = false := by rw [beq_eq_false_iff_ne]; omega
    have fX2 : (((x : Nat) : Int) == 2) = false := by rw [beq_eq_false_iff_ne]; omega
    have fX0 : (((x : Nat) : Int) == 0) = true := by rw [beq_iff_eq]; omega
    have fY2 : (((y : Nat) : Int) == 2) = true := by rw [beq_iff_eq]; omega
    clear ha hb hka hkb hx hy h hga hgb hxr
    go_enter Tryz.func38, Tryz.ntmps38
    go_wp2_with fail
    refine (HKA.out _).mono ?_
    rintro e w1 ⟨rfl, rfl⟩
    go_wp2_with fail
    refine (HKB.out _).mono ?_
    rintro e w1 ⟨rfl, rfl⟩
    go_wp2_with fail
    go_ret
    exact ⟨ret_int (by rw [HR.out]; rfl), Below.refl _ _⟩
  · have HR := Lib.hid (show Fl.fmul a b = Fl.D.word g 9218868437227405312 by rw [Fl.fmul_inf (by omega) (by omega) (by omega), hxr])
    have fX3 : (((x : Nat) : Int) == 3) = false := by rw [beq_eq_false_iff_ne]; omega
    have fY3 : (((y : Nat) : Int) == 3) = false := by rw [beq_eq_false_iff_ne]; omega
    have fX2 : (((x : Nat) : Int) == 2) = true := by rw [beq_iff_eq]; omega
    have fY0 : (((y : Nat) : Int) == 0) = false := by rw [beq_eq_false_iff_ne]; omega
    have fX0 : (((x : Nat) : Int) == 0) = false := by rw [beq_eq_false_iff_ne]; omega
    have HSG := Lib.hid (fun w => rsg_any g 9218868437227405312 w (by omega))
    clear ha hb hka hkb hx hy h hga hgb hxr
    go_enter Tryz.func38, Tryz.ntmps38
    go_wp2_with fail
    refine (HKA.out _).mono ?_
    rintro e w1 ⟨rfl, rfl⟩
    go_wp2_with fail
    refine (HKB.out _).mono ?_
    rintro e w1 ⟨rfl, rfl⟩
    go_wp2_with fail
    refine (HSG.out _).mono ?_
    rintro e w1 ⟨rfl, rfl⟩
    go_wp2_with fail
    go_ret
    exact ⟨ret_int (by rw [HR.out]), Below.refl _ _⟩
  · have HR := Lib.hid (show Fl.fmul a b = Fl.D.word g 9218868437227405312 by rw [Fl.fmul_inf (by omega) (by omega) (by omega), hxr])
    have fX3 : (((x : Nat) : Int) == 3) = false := by rw [beq_eq_false_iff_ne]; omega
    have fY3 : (((y : Nat) : Int) == 3) = false := by rw [beq_eq_false_iff_ne]; omega
    have fX2 : (((x : Nat) : Int) == 2) = false := by rw [beq_eq_false_iff_ne]; omega
    have fX0 : (((x : Nat) : Int) == 0) = false := by rw [beq_eq_false_iff_ne]; omega
    have fY2 : (((y : Nat) : Int) == 2) = true := by rw [beq_iff_eq]; omega
    have HSG := Lib.hid (fun w => rsg_any g 9218868437227405312 w (by omega))
    clear ha hb hka hkb hx hy h hga hgb hxr
    go_enter Tryz.func38, Tryz.ntmps38
    go_wp2_with fail
    refine (HKA.out _).mono ?_
    rintro e w1 ⟨rfl, rfl⟩
    go_wp2_with fail
    refine (HKB.out _).mono ?_
    rintro e w1 ⟨rfl, rfl⟩
    go_wp2_with fail
    refine (HSG.out _).mono ?_
    rintro e w1 ⟨rfl, rfl⟩
    go_wp2_with fail
    go_ret
    exact ⟨ret_int (by rw [HR.out]), Below.refl _ _⟩
  · have k1 : Fl.kind a ≤ 1 := by omega
    have k2 : Fl.kind b ≤ 1 := by omega
    obtain ⟨A, hA⟩ : ∃ A, (Fl.V a).natAbs = A := ⟨_, rfl⟩
    obtain ⟨B, hB⟩ : ∃ B, (Fl.V b).natAbs = B := ⟨_, rfl⟩
    have hbA : Pl.nb A ≤ 2098 := by rw [← hA]; exact nb_V ha k1
    have hbB : Pl.nb B ≤ 2098 := by rw [← hB]; exact nb_V hb k2
    have HR := Lib.hid (show Fl.D.word g (Fl.rung (A * B * 2 ^ Fl.E74) (2 ^ (Fl.E74 + Fl.E74))) = Fl.fmul a b by
      rw [Nat.pow_add, Fl.rung_scale (A * B) (2 ^ Fl.E74) (Nat.two_pow_pos Fl.E74), Fl.fmul_fin k1 k2, hxr, hA, hB])
    have HEA := Lib.hid (fun w => rexact_any a w ha k1)
    have HEB := Lib.hid (fun w => rexact_any b w hb k2)
    have HWA := Lib.hid (fun w => rwhole_any (Fl.V a) w)
    have HWB := Lib.hid (fun w => rwhole_any (Fl.V b) w)
    rw [hA] at HWA
    rw [hB] at HWB
    have HMU := Lib.hid (fun w => rmuln_any A B w (by omega) (by omega))
    have HOF : Hid (∀ w, Calls Tryz.prog 58 #[.int .i64 1] w fun e w' => e = .returned (lof ((1 : Nat) : Int)) ∧ Below w.heap.size w w') := Lib.hid (fun w => rof_any 1 w (by omega) (by omega))
    have HSH : Hid (∀ w, Calls Tryz.prog 81 #[lof ((1 : Nat) : Int), .int .i64 2148] w (LofOk w (2 ^ (Fl.E74 + Fl.E74) : Nat))) := Lib.hid (fun w => by
      have hE := Fl.E74_is
      have h := rsh_any 1 (Fl.E74 + Fl.E74) w (by decide) (by omega)
      rw [Nat.one_mul, show ((Fl.E74 + Fl.E74 : Nat) : Int) = 2148 by omega] at h
      exact h)
    have HRD := Lib.hid (fun w => rround_any g (A * B) (2 ^ (Fl.E74 + Fl.E74)) w (by have := Pl.nb_mul A B; omega) (by have := Fl.E74_is; have := nb_E (Fl.E74 + Fl.E74); omega) (by have := Nat.two_pow_pos (Fl.E74 + Fl.E74); omega))
    rw [HR.out] at HRD
    have fX3 : (((x : Nat) : Int) == 3) = false := by rw [beq_eq_false_iff_ne]; omega
    have fY3 : (((y : Nat) : Int) == 3) = false := by rw [beq_eq_false_iff_ne]; omega
    have fX2 : (((x : Nat) : Int) == 2) = false := by rw [beq_eq_false_iff_ne]; omega
    have fY2 : (((y : Nat) : Int) == 2) = false := by rw [beq_eq_false_iff_ne]; omega
    unfold LofOk at *
    unfold U64Ok at HRD
    simp only [lofn] at HWA HWB HMU HOF HSH HRD
    simp only [lof_is] at HEA HEB HWA HWB
    generalize bs (Pl.dgs (Fl.V a).natAbs) = sa at *
    generalize decide (Fl.V a < 0) = na at *
    generalize bs (Pl.dgs (Fl.V b).natAbs) = sb at *
    generalize decide (Fl.V b < 0) = nb at *
    generalize bs (Pl.dgs A) = swa at *
    generalize bs (Pl.dgs B) = swb at *
    generalize bs (Pl.dgs (A * B)) = ss at *
    generalize bs (Pl.dgs 1) = so at *
    generalize bs (Pl.dgs (2 ^ (Fl.E74 + Fl.E74))) = su at *
    obtain ⟨ns, hns⟩ : ∃ ns, ns = false := ⟨_, rfl⟩
    have hcase : (((x : Nat) : Int) == 0) = true ∨ (((x : Nat) : Int) == 0) = false := by
      cases (((x : Nat) : Int) == 0)
      · exact .inr rfl
      · exact .inl rfl
    clear ha hb hka hkb hx hy h k1 k2 hbA hbB HR hga hgb hxr hns ns hA hB
    rcases hcase with fX0 | fX0
    all_goals
      go_enter Tryz.func38, Tryz.ntmps38
      go_wp2_with fail
      refine (HKA.out _).mono ?_
      rintro e w1 ⟨rfl, rfl⟩
      go_wp2_with fail
      refine (HKB.out _).mono ?_
      rintro e w1 ⟨rfl, rfl⟩
      go_wp2_with fail
      refine (HEA.out _).mono ?_
      rintro e w1 ⟨rfl, hb1⟩
      have HB1 := Lib.hid hb1
      clear hb1
      go_wp2_with fail
      refine (HWA.out _).mono ?_
      rintro e w2 ⟨rfl, hb2⟩
      have HB2 := Lib.hid (chain HB1.out hb2)
      clear hb2
      go_wp2_with fail
      refine (HEB.out _).mono ?_
      rintro e w3 ⟨rfl, hb3⟩
      have HB3 := Lib.hid (chain HB2.out hb3)
      clear hb3
      go_wp2_with fail
      refine (HWB.out _).mono ?_
      rintro e w4 ⟨rfl, hb4⟩
      have HB4 := Lib.hid (chain HB3.out hb4)
      clear hb4
      go_wp2_with fail
      refine (HMU.out _).mono ?_
      rintro e w5 ⟨rfl, hb5⟩
      have HB5 := Lib.hid (chain HB4.out hb5)
      clear hb5
      go_wp2_with fail
      have L7 := Lib.hid (Lg.new w5 false ss)
      have HB6 := Lib.hid (show Below w.heap.size w (w5.alloc (.cells #[.bool false, .string ss] 42)) from HB5.out.alloc HB5.out.size _)
      obtain ⟨k7, hk7⟩ : ∃ k7, w5.heap.size = k7 := ⟨_, rfl⟩
      rw [hk7] at L7 ⊢
      clear hk7
      generalize w5.alloc (.cells #[.bool false, .string ss] 42) = w6 at L7 HB6 ⊢
      obtain ⟨p0, p1, _, _⟩ := L7.out.cells
      have BD := Lib.hid (show Below w6.heap.size w6 w6.drew from (Below.refl _ _).drew)
      have HKC := Lib.hid (fun (W : World) (hb : Below w6.heap.size w6 W) => show W.cell? ⟨k7, 0, none⟩ = some (.bool false) ∧ W.cell? ⟨k7, 1, none⟩ = some (.string ss) from ⟨(L7.out.below hb).cells.1, (L7.out.below hb).cells.2.1⟩)
      go_region_held3 (fun W => W.cell? ⟨k7, 0, none⟩ = some (.bool false) ∧ W.cell? ⟨k7, 1, none⟩ = some (.string ss)) (first | exact ⟨p0, p1⟩ | exact HKC.out _ BD.out | exact HKC.out _ hB6 | exact HKC.out _ hB7 | exact HKC.out _ hB8 | exact HKC.out _ hB9) (first | (go_at_call 58; (with_reducible refine (HOF.out _).mono ?_); rintro e w9 ⟨rfl, hb9⟩; (first | (have hB9 : Below w6.heap.size w6 w9 := chain hB8 hb9) | (have hB8 : Below w6.heap.size w6 w9 := chain hB7 hb9) | (have hB7 : Below w6.heap.size w6 w9 := chain hB6 hb9) | (have hB6 : Below w6.heap.size w6 w9 := chain BD.out hb9)); clear hb9) | (go_at_call 81; (with_reducible refine (HSH.out _).mono ?_); rintro e w9 ⟨rfl, hb9⟩; (first | (have hB9 : Below w6.heap.size w6 w9 := chain hB8 hb9) | (have hB8 : Below w6.heap.size w6 w9 := chain hB7 hb9) | (have hB7 : Below w6.heap.size w6 w9 := chain hB6 hb9) | (have hB6 : Below w6.heap.size w6 w9 := chain BD.out hb9)); clear hb9) | (go_at_call 59; (with_reducible refine (HRD.out _).mono ?_); rintro e w9 ⟨rfl, hb9⟩; (first | (have hB9 : Below w6.heap.size w6 w9 := chain hB8 hb9) | (have hB8 : Below w6.heap.size w6 w9 := chain hB7 hb9) | (have hB7 : Below w6.heap.size w6 w9 := chain hB6 hb9) | (have hB6 : Below w6.heap.size w6 w9 := chain BD.out hb9)); clear hb9))
      all_goals
        go_wp2_with fail
        go_ret
        exact ⟨rfl, chain HB6.out hB8⟩
set_option maxRecDepth 4000 in
set_option maxHeartbeats 16000000 in
theorem rtdiv_any (a b : Nat) (w : World) (ha : a < 18446744073709551616) (hb : b < 18446744073709551616) :
    Calls Tryz.prog 39 #[.int .u64 a, .int .u64 b] w (U64Ok w (Fl.fdiv a b)) := by
  have HKA := Lib.hid (fun w => rkind_any a w ha)
  have HKB := Lib.hid (fun w => rkind_any b w hb)
  have hka := Fl.kind_cases a
  have hkb := Fl.kind_cases b
  obtain ⟨x, hx⟩ : ∃ x, Fl.kind a = x := ⟨_, rfl⟩
  obtain ⟨y, hy⟩ : ∃ y, Fl.kind b = y := ⟨_, rfl⟩
  rw [hx] at hka HKA
  rw [hy] at hkb HKB
  unfold U64Ok
  obtain ⟨ga, hga⟩ : ∃ g, Fl.sg a = g := ⟨_, rfl⟩
  obtain ⟨gb, hgb⟩ : ∃ g, Fl.sg b = g := ⟨_, rfl⟩
  have hpa : decide ((9223372036854775808 : Int) ≤ (a : Int)) = ga := by rw [← hga, sg_pn ha]; unfold pn; simp only [decide_eq_decide]; omega
  have hpb : decide ((9223372036854775808 : Int) ≤ (b : Int)) = gb := by rw [← hgb, sg_pn hb]; unfold pn; simp only [decide_eq_decide]; omega
  obtain ⟨g, hg⟩ : ∃ g, (!(ga == gb)) = g := ⟨_, rfl⟩
  have hxr : (Fl.sg a ^^ Fl.sg b) = g := by rw [hga, hgb, ← hg]; cases ga <;> cases gb <;> rfl
  rcases (show x = 3 ∨ (x ≠ 3 ∧ y = 3) ∨ (x = 2 ∧ y = 2) ∨ (x = 0 ∧ y = 0) ∨ (x = 2 ∧ y ≤ 1) ∨ (x = 1 ∧ y = 0) ∨ (x = 0 ∧ y = 2) ∨ (x = 1 ∧ y = 2) ∨ (x ≤ 1 ∧ y = 1) by omega) with h | h | h | h | h | h | h | h | h
  · have HR := Lib.hid (show Fl.fdiv a b = 9221120237041090560 by exact (Fl.fdiv_none (by omega)).trans rfl)
    have fX3 : (((x : Nat) : Int) == 3) = true := by rw [beq_iff_eq]; omega
    clear ha hb hka hkb hx hy h hga hgb hxr
    go_enter Tryz.func39, Tryz.ntmps39
    go_wp2_with fail
    refine (HKA.out _).mono ?_
    rintro e w1 ⟨rfl, rfl⟩
    go_wp2_with fail
    refine (HKB.out _).mono ?_
    rintro e w1 ⟨rfl, rfl⟩
    go_wp2_with fail
    go_ret
    exact ⟨ret_int (by rw [HR.out]; rfl), Below.refl _ _⟩
  · have HR := Lib.hid (show Fl.fdiv a b = 9221120237041090560 by exact (Fl.fdiv_none (by omega)).trans rfl)
    have fX3 : (((x : Nat) : Int) == 3) = false := by rw [beq_eq_false_iff_ne]; omega
    have fY3 : (((y : Nat) : Int) == 3) = true := by rw [beq_iff_eq]; omega
    clear ha hb hka hkb hx hy h hga hgb hxr
    go_enter Tryz.func39, Tryz.ntmps39
    go_wp2_with fail
    refine (HKA.out _).mono ?_
    rintro e w1 ⟨rfl, rfl⟩
    go_wp2_with fail
    refine (HKB.out _).mono ?_
    rintro e w1 ⟨rfl, rfl⟩
    go_wp2_with fail
    go_ret
    exact ⟨ret_int (by rw [HR.out]; rfl), Below.refl _ _⟩
  · have HR := Lib.hid (show Fl.fdiv a b = 9221120237041090560 by exact (Fl.fdiv_none (by omega)).trans rfl)
    have fX3 : (((x : Nat) : Int) == 3) = false := by rw [beq_eq_false_iff_ne]; omega
    have fY3 : (((y : Nat) : Int) == 3) = false := by rw [beq_eq_false_iff_ne]; omega
    have fX2 : (((x : Nat) : Int) == 2) = true := by rw [beq_iff_eq]; omega
    have fY2 : (((y : Nat) : Int) == 2) = true := by rw [beq_iff_eq]; omega
    clear ha hb hka hkb hx hy h hga hgb hxr
    go_enter Tryz.func39, Tryz.ntmps39
    go_wp2_with fail
    refine (HKA.out _).mono ?_
    rintro e w1 ⟨rfl, rfl⟩
    go_wp2_with fail
    refine (HKB.out _).mono ?_
    rintro e w1 ⟨rfl, rfl⟩
    go_wp2_with fail
    go_ret
    exact ⟨ret_int (by rw [HR.out]; rfl), Below.refl _ _⟩
  · have HR := Lib.hid (show Fl.fdiv a b = 9221120237041090560 by exact (Fl.fdiv_none (by omega)).trans rfl)
    have fX3 : (((x : Nat) : Int) == 3) = false := by rw [beq_eq_false_iff_ne]; omega
    have fY3 : (((y : Nat) : Int) == 3) = false := by rw [beq_eq_false_iff_ne]; omega
    have fX2 : (((x : Nat) : Int) == 2) = false := by rw [beq_eq_false_iff_ne]; omega
    have fX0 : (((x : Nat) : Int) == 0) = true := by rw [beq_iff_eq]; omega
    have fY0 : (((y : Nat) : Int) == 0) = true := by rw [beq_iff_eq]; omega
    clear ha hb hka hkb hx hy h hga hgb hxr
    go_enter Tryz.func39, Tryz.ntmps39
    go_wp2_with fail
    refine (HKA.out _).mono ?_
    rintro e w1 ⟨rfl, rfl⟩
    go_wp2_with fail
    refine (HKB.out _).mono ?_
    rintro e w1 ⟨rfl, rfl⟩
    go_wp2_with fail
    go_ret
    exact ⟨ret_int (by rw [HR.out]; rfl), Below.refl _ _⟩
  · have HR := Lib.hid (show Fl.fdiv a b = Fl.D.word g 9218868437227405312 by rw [Fl.fdiv_inf (by omega), hxr])
    have fX3 : (((x : Nat) : Int) == 3) = false := by rw [beq_eq_false_iff_ne]; omega
    have fY3 : (((y : Nat) : Int) == 3) = false := by rw [beq_eq_false_iff_ne]; omega
    have fX2 : (((x : Nat) : Int) == 2) = true := by rw [beq_iff_eq]; omega
    have fY2 : (((y : Nat) : Int) == 2) = false := by rw [beq_eq_false_iff_ne]; omega
    have fX0 : (((x : Nat) : Int) == 0) = false := by rw [beq_eq_false_iff_ne]; omega
    have HSG := Lib.hid (fun w => rsg_any g 9218868437227405312 w (by omega))
    clear ha hb hka hkb hx hy h hga hgb hxr
    go_enter Tryz.func39, Tryz.ntmps39
    go_wp2_with fail
    refine (HKA.out _).mono ?_
    rintro e w1 ⟨rfl, rfl⟩
    go_wp2_with fail
    refine (HKB.out _).mono ?_
    rintro e w1 ⟨rfl, rfl⟩
    go_wp2_with fail
    refine (HSG.out _).mono ?_
    rintro e w1 ⟨rfl, rfl⟩
    go_wp2_with fail
    go_ret
    exact ⟨ret_int (by rw [HR.out]), Below.refl _ _⟩
  · have HR := Lib.hid (show Fl.fdiv a b = Fl.D.word g 9218868437227405312 by rw [Fl.fdiv_inf (by omega), hxr])
    have fX3 : (((x : Nat) : Int) == 3) = false := by rw [beq_eq_false_iff_ne]; omega
    have fY3 : (((y : Nat) : Int) == 3) = false := by rw [beq_eq_false_iff_ne]; omega
    have fX2 : (((x : Nat) : Int) == 2) = false := by rw [beq_eq_false_iff_ne]; omega
    have fX0 : (((x : Nat) : Int) == 0) = false := by rw [beq_eq_false_iff_ne]; omega
    have fY0 : (((y : Nat) : Int) == 0) = true := by rw [beq_iff_eq]; omega
    have HSG := Lib.hid (fun w => rsg_any g 9218868437227405312 w (by omega))
    clear ha hb hka hkb hx hy h hga hgb hxr
    go_enter Tryz.func39, Tryz.ntmps39
    go_wp2_with fail
    refine (HKA.out _).mono ?_
    rintro e w1 ⟨rfl, rfl⟩
    go_wp2_with fail
    refine (HKB.out _).mono ?_
    rintro e w1 ⟨rfl, rfl⟩
    go_wp2_with fail
    refine (HSG.out _).mono ?_
    rintro e w1 ⟨rfl, rfl⟩
    go_wp2_with fail
    go_ret
    exact ⟨ret_int (by rw [HR.out]), Below.refl _ _⟩
  · have HR := Lib.hid (show Fl.fdiv a b = Fl.D.word g 0 by rw [Fl.fdiv_zero (by omega) (by omega), hxr])
    have fX3 : (((x : Nat) : Int) == 3) = false := by rw [beq_eq_false_iff_ne]; omega
    have fY3 : (((y : Nat) : Int) == 3) = false := by rw [beq_eq_false_iff_ne]; omega
    have fX2 : (((x : Nat) : Int) == 2) = false := by rw [beq_eq_false_iff_ne]; omega
    have fX0 : (((x : Nat) : Int) == 0) = true := by rw [beq_iff_eq]; omega
    have fY0 : (((y : Nat) : Int) == 0) = false := by rw [beq_eq_false_iff_ne]; omega
    have fY2 : (((y : Nat) : Int) == 2) = true := by rw [beq_iff_eq]; omega
    have HSG := Lib.hid (fun w => rsg_any g 0 w (by omega))
    clear ha hb hka hkb hx hy h hga hgb hxr
    go_enter Tryz.func39, Tryz.ntmps39
    go_wp2_with fail
    refine (HKA.out _).mono ?_
    rintro e w1 ⟨rfl, rfl⟩
    go_wp2_with fail
    refine (HKB.out _).mono ?_
    rintro e w1 ⟨rfl, rfl⟩
    go_wp2_with fail
    refine (HSG.out _).mono ?_
    rintro e w1 ⟨rfl, rfl⟩
    go_wp2_with fail
    go_ret
    exact ⟨ret_int (by rw [HR.out]), Below.refl _ _⟩
  · have HR := Lib.hid (show Fl.fdiv a b = Fl.D.word g 0 by rw [Fl.fdiv_zero (by omega) (by omega), hxr])
    have fX3 : (((x : Nat) : Int) == 3) = false := by rw [beq_eq_false_iff_ne]; omega
    have fY3 : (((y : Nat) : Int) == 3) = false := by rw [beq_eq_false_iff_ne]; omega
    have fX2 : (((x : Nat) : Int) == 2) = false := by rw [beq_eq_false_iff_ne]; omega
    have fX0 : (((x : Nat) : Int) == 0) = false := by rw [beq_eq_false_iff_ne]; omega
    have fY0 : (((y : Nat) : Int) == 0) = false := by rw [beq_eq_false_iff_ne]; omega
    have fY2 : (((y : Nat) : Int) == 2) = true := by rw [beq_iff_eq]; omega
    have HSG := Lib.hid (fun w => rsg_any g 0 w (by omega))
    clear ha hb hka hkb hx hy h hga hgb hxr
    go_enter Tryz.func39, Tryz.ntmps39
    go_wp2_with fail
    refine (HKA.out _).mono ?_
    rintro e w1 ⟨rfl, rfl⟩
    go_wp2_with fail
    refine (HKB.out _).mono ?_
    rintro e w1 ⟨rfl, rfl⟩
    go_wp2_with fail
    refine (HSG.out _).mono ?_
    rintro e w1 ⟨rfl, rfl⟩
    go_wp2_with fail
    go_ret
    exact ⟨ret_int (by rw [HR.out]), Below.refl _ _⟩
  · have k1 : Fl.kind a ≤ 1 := by omega
    have k2 : Fl.kind b = 1 := by omega
    obtain ⟨A, hA⟩ : ∃ A, (Fl.V a).natAbs = A := ⟨_, rfl⟩
    obtain ⟨B, hB⟩ : ∃ B, (Fl.V b).natAbs = B := ⟨_, rfl⟩
    have hbA : Pl.nb A ≤ 2098 := by rw [← hA]; exact nb_V ha k1
    have hbB : Pl.nb B ≤ 2098 := by rw [← hB]; exact nb_V hb (by omega)
    have hB0 : B ≠ 0 := by have := Fl.V_ne k2; omega
    have HR := Lib.hid (show Fl.D.word g (Fl.rung (A * 2 ^ Fl.E74) B) = Fl.fdiv a b by
      rw [Fl.fdiv_fin k1 k2, hxr, hA, hB])
    have HEA := Lib.hid (fun w => rexact_any a w ha k1)
    have HEB := Lib.hid (fun w => rexact_any b w hb (by omega))
    have HWA := Lib.hid (fun w => rwhole_any (Fl.V a) w)
    have HWB := Lib.hid (fun w => rwhole_any (Fl.V b) w)
    rw [hA] at HWA
    rw [hB] at HWB
    have HRD := Lib.hid (fun w => rround_any g A B w (by omega) (by omega) hB0)
    rw [HR.out] at HRD
    have fX3 : (((x : Nat) : Int) == 3) = false := by rw [beq_eq_false_iff_ne]; omega
    have fY3 : (((y : Nat) : Int) == 3) = false := by rw [beq_eq_false_iff_ne]; omega
    have fX2 : (((x : Nat) : Int) == 2) = false := by rw [beq_eq_false_iff_ne]; omega
    have fY2 : (((y : Nat) : Int) == 2) = false := by rw [beq_eq_false_iff_ne]; omega
    have fY0 : (((y : Nat) : Int) == 0) = false := by rw [beq_eq_false_iff_ne]; omega
    unfold LofOk at *
    unfold U64Ok at HRD
    simp only [lofn] at HWA HWB HRD
    simp only [lof_is] at HEA HEB HWA HWB
    generalize bs (Pl.dgs (Fl.V a).natAbs) = sa at *
    generalize decide (Fl.V a < 0) = na at *
    generalize bs (Pl.dgs (Fl.V b).natAbs) = sb at *
    generalize decide (Fl.V b < 0) = nb at *
    generalize bs (Pl.dgs A) = swa at *
    generalize bs (Pl.dgs B) = swb at *
    have hcase : (((x : Nat) : Int) == 0) = true ∨ (((x : Nat) : Int) == 0) = false := by
      cases (((x : Nat) : Int) == 0)
      · exact .inr rfl
      · exact .inl rfl
    clear ha hb hka hkb hx hy h k1 k2 hbA hbB hB0 HR hga hgb hxr hA hB
    rcases hcase with fX0 | fX0
    all_goals
      go_enter Tryz.func39, Tryz.ntmps39
      go_wp2_with fail
      refine (HKA.out _).mono ?_
      rintro e w1 ⟨rfl, rfl⟩
      go_wp2_with fail
      refine (HKB.out _).mono ?_
      rintro e w1 ⟨rfl, rfl⟩
      go_wp2_with fail
      refine (HEA.out _).mono ?_
      rintro e w1 ⟨rfl, hb1⟩
      have HB1 := Lib.hid hb1
      clear hb1
      go_wp2_with fail
      refine (HWA.out _).mono ?_
      rintro e w2 ⟨rfl, hb2⟩
      have HB2 := Lib.hid (chain HB1.out hb2)
      clear hb2
      go_wp2_with fail
      refine (HEB.out _).mono ?_
      rintro e w3 ⟨rfl, hb3⟩
      have HB3 := Lib.hid (chain HB2.out hb3)
      clear hb3
      go_wp2_with fail
      refine (HWB.out _).mono ?_
      rintro e w4 ⟨rfl, hb4⟩
      have HB4 := Lib.hid (chain HB3.out hb4)
      clear hb4
      go_wp2_with fail
      refine (HRD.out _).mono ?_
      rintro e w5 ⟨rfl, hb5⟩
      have HB5 := Lib.hid (chain HB4.out hb5)
      clear hb5
      go_wp2_with fail
      go_ret
      exact ⟨rfl, HB5.out⟩
set_option maxHeartbeats 4000000 in
theorem rtcmp_any (a b : Nat) (w : World) (ha : a < 18446744073709551616) (hb : b < 18446744073709551616) :
    Calls Tryz.prog 42 #[.int .u64 a, .int .u64 b] w fun e w' => e = .returned (.tuple #[.int .i64 (Fl.fcmp a b).1, .bool (Fl.fcmp a b).2]) ∧ w = w' := by
  have HKA := Lib.hid (fun w => rkind_any a w ha)
  have HKB := Lib.hid (fun w => rkind_any b w hb)
  have HPA := Lib.hid (fun w => rplace_any a w ha)
  have HPB := Lib.hid (fun w => rplace_any b w hb)
  have HF := Lib.hid (@Fl.fcmp_place a b)
  obtain ⟨x, hx⟩ : ∃ x, Fl.kind a = x := ⟨_, rfl⟩
  obtain ⟨y, hy⟩ : ∃ y, Fl.kind b = y := ⟨_, rfl⟩
  rw [hx] at HKA HF
  rw [hy] at HKB HF
  generalize Fl.place a = p at *
  generalize Fl.place b = q at *
  rcases (show x = 3 ∨ (x ≠ 3 ∧ y = 3) ∨ (x ≠ 3 ∧ y ≠ 3 ∧ p < q) ∨ (x ≠ 3 ∧ y ≠ 3 ∧ q < p) ∨ (x ≠ 3 ∧ y ≠ 3 ∧ p = q) by omega) with h | h | h | h | h
  · have HR := Lib.hid (show Fl.fcmp a b = (0, false) by rw [HF.out, if_pos (.inl h)])
    have fX3 : (((x : Nat) : Int) == 3) = true := by rw [beq_iff_eq]; omega
    clear ha hb hx hy h HF
    go_enter Tryz.func42, Tryz.ntmps42
    go_wp2_with fail
    refine (HKA.out _).mono ?_
    rintro e w1 ⟨rfl, rfl⟩
    go_wp2_with fail
    refine (HKB.out _).mono ?_
    rintro e w1 ⟨rfl, rfl⟩
    go_wp2_with fail
    go_ret2
    exact ⟨by rw [HR.out]; rfl, rfl⟩
  · have HR := Lib.hid (show Fl.fcmp a b = (0, false) by rw [HF.out, if_pos (.inr h.2)])
    have fX3 : (((x : Nat) : Int) == 3) = false := by rw [beq_eq_false_iff_ne]; omega
    have fY3 : (((y : Nat) : Int) == 3) = true := by rw [beq_iff_eq]; omega
    clear ha hb hx hy h HF
    go_enter Tryz.func42, Tryz.ntmps42
    go_wp2_with fail
    refine (HKA.out _).mono ?_
    rintro e w1 ⟨rfl, rfl⟩
    go_wp2_with fail
    refine (HKB.out _).mono ?_
    rintro e w1 ⟨rfl, rfl⟩
    go_wp2_with fail
    go_ret2
    exact ⟨by rw [HR.out]; rfl, rfl⟩
  · have HR := Lib.hid (show Fl.fcmp a b = (-1, true) by rw [HF.out, if_neg (by omega), if_pos h.2.2])
    have fX3 : (((x : Nat) : Int) == 3) = false := by rw [beq_eq_false_iff_ne]; omega
    have fY3 : (((y : Nat) : Int) == 3) = false := by rw [beq_eq_false_iff_ne]; omega
    have fp : decide (p < q) = true := decide_eq_true h.2.2
    clear ha hb hx hy h HF
    go_enter Tryz.func42, Tryz.ntmps42
    go_wp2_with fail
    refine (HKA.out _).mono ?_
    rintro e w1 ⟨rfl, rfl⟩
    go_wp2_with fail
    refine (HKB.out _).mono ?_
    rintro e w1 ⟨rfl, rfl⟩
    go_wp2_with fail
    refine (HPA.out _).mono ?_
    rintro e w1 ⟨rfl, rfl⟩
    go_wp2_with fail
    refine (HPB.out _).mono ?_
    rintro e w1 ⟨rfl, rfl⟩
    go_wp2_with fail
    go_ret2
    exact ⟨by rw [HR.out]; rfl, rfl⟩
  · have HR := Lib.hid (show Fl.fcmp a b = (1, true) by rw [HF.out, if_neg (by omega), if_neg (by omega), if_pos h.2.2])
    have fX3 : (((x : Nat) : Int) == 3) = false := by rw [beq_eq_false_iff_ne]; omega
    have fY3 : (((y : Nat) : Int) == 3) = false := by rw [beq_eq_false_iff_ne]; omega
    have fp : decide (p < q) = false := decide_eq_false (by omega)
    have fq : decide (q < p) = true := decide_eq_true h.2.2
    clear ha hb hx hy h HF
    go_enter Tryz.func42, Tryz.ntmps42
    go_wp2_with fail
    refine (HKA.out _).mono ?_
    rintro e w1 ⟨rfl, rfl⟩
    go_wp2_with fail
    refine (HKB.out _).mono ?_
    rintro e w1 ⟨rfl, rfl⟩
    go_wp2_with fail
    refine (HPA.out _).mono ?_
    rintro e w1 ⟨rfl, rfl⟩
    go_wp2_with fail
    refine (HPB.out _).mono ?_
    rintro e w1 ⟨rfl, rfl⟩
    go_wp2_with fail
    go_ret2
    exact ⟨by rw [HR.out]; rfl, rfl⟩
  · have HR := Lib.hid (show Fl.fcmp a b = (0, true) by rw [HF.out, if_neg (by omega), if_neg (by omega), if_neg (by omega)])
    have fX3 : (((x : Nat) : Int) == 3) = false := by rw [beq_eq_false_iff_ne]; omega
    have fY3 : (((y : Nat) : Int) == 3) = false := by rw [beq_eq_false_iff_ne]; omega
    have fp : decide (p < q) = false := decide_eq_false (by omega)
    have fq : decide (q < p) = false := decide_eq_false (by omega)
    clear ha hb hx hy h HF
    go_enter Tryz.func42, Tryz.ntmps42
    go_wp2_with fail
    refine (HKA.out _).mono ?_
    rintro e w1 ⟨rfl, rfl⟩
    go_wp2_with fail
    refine (HKB.out _).mono ?_
    rintro e w1 ⟨rfl, rfl⟩
    go_wp2_with fail
    refine (HPA.out _).mono ?_
    rintro e w1 ⟨rfl, rfl⟩
    go_wp2_with fail
    refine (HPB.out _).mono ?_
    rintro e w1 ⟨rfl, rfl⟩
    go_wp2_with fail
    go_ret2
    exact ⟨by rw [HR.out]; rfl, rfl⟩
end Go.Proofs.YtgdohmaljbggjaaGreatDoor
