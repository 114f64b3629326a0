/- The document's floats: the contract of scaled. The document's roots: the contract of Sqrt. The walk of FloatSums. -/
import Derived.Test.YtgdohmaljbggjaaGreatDoorFbag
import Derived.Deep.RegionWith
import Derived.Test.YtgdohmaljbggjaaGreatDoorBaas
import Derived.Test.YtgdohmaljbggjaaGreatDoorBaat
namespace Go.Proofs.YtgdohmaljbggjaaGreatDoor
open Go.RowKit Go.Lib
set_option maxRecDepth 4000 in
set_option maxHeartbeats 8000000 in
theorem rscaled_any (neg : Bool) (p : Nat) (k : Int) (w : World) (hp : Pl.nb p ≤ 1000) (h1 : -4900 ≤ k) (h2 : k ≤ 4900) :
    Calls Tryz.prog 74 #[.bool neg, lof p, .int .i64 k] w (U64Ok w (Fl.D.word neg (Fl.rung (p * 2 ^ k.toNat * 2 ^ Fl.E74) (2 ^ (-k).toNat)))) := by
  have HOF : Hid (∀ w, Calls Tryz.prog 58 #[.int .i64 1] w fun e w' => e = .returned (lof ((1 : Nat) : Int)) ∧ Below w.heap.size w w') := Lib.hid (fun w => rof_any 1 w (by omega) (by omega))
  unfold U64Ok
  rcases Int.lt_or_le k 0 with hk | hk
  · have HSH : Hid (∀ w, Calls Tryz.prog 81 #[lof ((1 : Nat) : Int), .int .i64 (-k)] w (LofOk w (2 ^ (-k).toNat : Nat))) := Lib.hid (fun w => by
      have h := rsh_any 1 (-k).toNat w (by decide) (by omega)
      rw [Nat.one_mul, Int.toNat_of_nonneg (by omega)] at h
      exact h)
    have HRD := Lib.hid (fun w => rround_any neg p (2 ^ (-k).toNat) w (by omega) (by have := nb_E (-k).toNat; omega) (by have := Nat.two_pow_pos (-k).toNat; omega))
    rw [show k.toNat = 0 by omega, Nat.pow_zero, Nat.mul_one]
    have hb0 : decide (0 ≤ k) = false := decide_eq_false (by omega)
    unfold LofOk at HSH
    unfold U64Ok at HRD
    simp only [lofn] at HOF HSH HRD ⊢
    have hw : IntKind.i64.wrap (-k) = -k := IntWalk.i64_in _ (by omega)
    generalize bs (Pl.dgs p) = sp at *
    generalize bs (Pl.dgs 1) = so at *
    generalize bs (Pl.dgs (2 ^ (-k).toNat)) = ss at *
    generalize Fl.D.word neg (Fl.rung (p * 2 ^ Fl.E74) (2 ^ (-k).toNat)) = r at *
    go_enter Tryz.func74, Tryz.ntmps74
    go_wp2_with fail
    have L4 := Lib.hid (Lg.new w false sp)
    have HB0 := Lib.hid (show Below w.heap.size w (w.alloc (.cells #[.bool false, .string sp] 42)) from (Below.refl w.heap.size w).alloc (Nat.le_refl _) _)
    generalize w.alloc (.cells #[.bool false, .string sp] 42) = w4 at L4 HB0 ⊢
    obtain ⟨p0, p1, _, _⟩ := L4.out.cells
    have BD := Lib.hid (show Below w4.heap.size w4 w4.drew from (Below.refl _ _).drew)
    have HKC := Lib.hid (fun (W : World) (hb : Below w4.heap.size w4 W) => show W.cell? ⟨w.heap.size, 0, none⟩ = some (.bool false) ∧ W.cell? ⟨w.heap.size, 1, none⟩ = some (.string sp) from ⟨(L4.out.below hb).cells.1, (L4.out.below hb).cells.2.1⟩)
    go_region_held3 (fun W => W.cell? ⟨w.heap.size, 0, none⟩ = some (.bool false) ∧ W.cell? ⟨w.heap.size, 1, none⟩ = some (.string sp)) (first | exact ⟨p0, p1⟩ | exact HKC.out _ BD.out | exact HKC.out _ hB6 | exact HKC.out _ hB7 | exact HKC.out _ hB8) (first
      | (go_at_call 58; (with_reducible refine (HOF.out _).mono ?_); rintro e w9 ⟨rfl, hb9⟩; (have hB6 : Below w4.heap.size w4 w9 := chain BD.out hb9); clear hb9)
      | (go_at_call 81; (with_reducible refine (HSH.out _).mono ?_); rintro e w9 ⟨rfl, hb9⟩; (have hB7 : Below w4.heap.size w4 w9 := chain hB6 hb9); clear hb9)
      | (go_at_call 59; (with_reducible refine (HRD.out _).mono ?_); rintro e w9 ⟨rfl, hb9⟩; (have hB8 : Below w4.heap.size w4 w9 := chain hB7 hb9); clear hb9))
    all_goals
      go_wp2_with fail
      go_ret
      exact ⟨rfl, chain HB0.out hB8⟩
  · have HSH : Hid (∀ w, Calls Tryz.prog 81 #[lof p, .int .i64 k] w (LofOk w (p * 2 ^ k.toNat : Nat))) := Lib.hid (fun w => by
      have h := rsh_any p k.toNat w (by omega) (by omega)
      rw [Int.toNat_of_nonneg (by omega)] at h
      exact h)
    have HRD := Lib.hid (fun w => rround_any neg (p * 2 ^ k.toNat) 1 w (by have := Pl.nb_shift p k.toNat; omega) (by decide) (by decide))
    rw [show (-k).toNat = 0 by omega, Nat.pow_zero]
    have hb0 : decide (0 ≤ k) = true := decide_eq_true (by omega)
    unfold LofOk at HSH
    unfold U64Ok at HRD
    simp only [lofn] at HOF HSH HRD ⊢
    generalize bs (Pl.dgs p) = sp at *
    generalize bs (Pl.dgs 1) = so at *
    generalize bs (Pl.dgs (p * 2 ^ k.toNat)) = ss at *
    generalize Fl.D.word neg (Fl.rung (p * 2 ^ k.toNat * 2 ^ Fl.E74) 1) = r at *
    go_enter Tryz.func74, Tryz.ntmps74
    go_wp2_with fail
    refine (HSH.out _).mono ?_
    rintro e w1 ⟨rfl, hb1⟩
    have HB1 := Lib.hid (chain ((Below.refl w.heap.size w).alloc (Nat.le_refl _) _) hb1)
    clear hb1
    go_wp2_with fail
    refine (HOF.out _).mono ?_
    rintro e w2 ⟨rfl, hb2⟩
    have HB2 := Lib.hid (chain HB1.out hb2)
    clear hb2
    go_wp2_with fail
    refine (HRD.out _).mono ?_
    rintro e w3 ⟨rfl, hb3⟩
    have HB3 := Lib.hid (chain HB2.out hb3)
    clear hb3
    go_wp2_with fail
    go_ret
    exact ⟨rfl, HB3.out⟩
end Go.Proofs.YtgdohmaljbggjaaGreatDoor
namespace Go.Proofs.YtgdohmaljbggjaaGreatDoor
open Go.RowKit Go.Lib
/-- What the loop of bits keeps. -/
theorem root_yes {n v k : Nat} (h : v * v ≤ n ∧ n < (v + 2 ^ (k + 1)) * (v + 2 ^ (k + 1))) (hy : (v + 2 ^ k) * (v + 2 ^ k) ≤ n) : (v + 2 ^ k) * (v + 2 ^ k) ≤ n ∧ n < (v + 2 ^ k + 2 ^ k) * (v + 2 ^ k + 2 ^ k) := by
  refine ⟨hy, ?_⟩
  rw [Nat.add_assoc, ← Nat.two_mul, ← Nat.pow_succ']
  exact h.2
theorem root_bound {n v : Nat} (h : v * v ≤ n) (hn : n < 2 ^ 174) : v < 2 ^ 87 := by
  rcases Nat.lt_or_ge v (2 ^ 87) with h1 | h1
  · exact h1
  · have := Nat.mul_le_mul h1 h1
    rw [← Nat.pow_add] at this
    omega
/-- The number that is left when the bits are done. -/
theorem sqrt_parts {a : Nat} (ha : a < 9223372036854775808) (h : Fl.kind a = 1) {t : Nat} {c : Int} (hc : pe a - t - 120 = 2 * c) {v : Nat} (h1 : v * v ≤ pm a * 2 ^ t * 2 ^ 120) (h2 : pm a * 2 ^ t * 2 ^ 120 < (v + 1) * (v + 1)) (ht : t ≤ 1) :
    Fl.fsqrt a = Fl.D.word false (Fl.rung ((2 * v + (v * v != pm a * 2 ^ t * 2 ^ 120).toNat) * 2 ^ (c - 1).toNat * 2 ^ Fl.E74) (2 ^ (-(c - 1)).toNat)) := by
  have hE := Fl.E74_is
  have hp := parts_mag (a := a) (by omega)
  have hv := val_parts (a := a) (by omega) (by omega)
  have hpn : pn a = false := by unfold pn; exact decide_eq_false (by omega)
  have hsg : Fl.sg a = false := by rw [sg_pn (by omega), hpn]
  rw [hpn, if_neg (by simp)] at hv
  have hA : (Fl.V a).natAbs = pm a * 2 ^ (pe a + 1074).toNat := by omega
  have hm0 : pm a ≠ 0 := by
    intro h0
    have := Fl.V_ne h
    rw [hv, h0] at this
    simp at this
  have hK : 1 ≤ (c + 1074).toNat := by omega
  have hb : 2 ^ 107 ≤ pm a * 2 ^ t * 2 ^ 120 := by
    have h3 : 1 ≤ pm a * 2 ^ t := Nat.mul_pos (by omega) (Nat.two_pow_pos _)
    calc 2 ^ 107 ≤ 1 * 2 ^ 120 := by decide
      _ ≤ _ := Nat.mul_le_mul_right _ h3
  rw [Fl.fsqrt_fin (n := pm a * 2 ^ t * 2 ^ 120) (w := v) (K := (c + 1074).toNat) h hsg ?_ hK h1 h2 hb]
  · have hr := Fl.rung_pow (2 * v + (v * v != pm a * 2 ^ t * 2 ^ 120).toNat) 1 (x := (c + 1074).toNat - 1) (y := 0) (x' := (c - 1).toNat + Fl.E74) (y' := (-(c - 1)).toNat) (by omega)
    rw [Nat.one_mul, Nat.one_mul, Nat.pow_zero] at hr
    rw [hr, Nat.pow_add, ← Nat.mul_assoc]
  · rw [hA, show (4 : Nat) = 2 ^ 2 from rfl, ← Nat.pow_mul, Nat.mul_assoc, Nat.mul_assoc, Nat.mul_assoc, ← Nat.pow_add, ← Nat.pow_add, ← Nat.pow_add]
    congr 2
    omega
set_option maxRecDepth 4000 in
set_option maxHeartbeats 16000000 in
theorem rsqrt_any (a : Nat) (w : World) (ha : a < 18446744073709551616) :
    Calls Tryz.prog 41 #[.int .u64 a] w (U64Ok w (Fl.fsqrt a)) := by
  have HKA := Lib.hid (fun w => rkind_any a w ha)
  have hka := Fl.kind_cases a
  obtain ⟨x, hx⟩ : ∃ x, Fl.kind a = x := ⟨_, rfl⟩
  rw [hx] at hka HKA
  unfold U64Ok
  rcases (show x = 3 ∨ (x ≠ 3 ∧ 9223372036854775808 < a) ∨ (x = 0 ∧ a ≤ 9223372036854775808) ∨ (x = 2 ∧ a ≤ 9223372036854775808) ∨ (x = 1 ∧ a ≤ 9223372036854775808) by omega) with h | h | h | h | h
  · have HR := Lib.hid (show Fl.fsqrt a = 9221120237041090560 by exact (Fl.fsqrt_none ha (by omega)).trans rfl)
    have f3 : ((x : Int) == 3) = true := by rw [beq_iff_eq]; omega
    clear ha hka hx h
    go_enter Tryz.func41, Tryz.ntmps41
    go_wp2_with fail
    refine (HKA.out _).mono ?_
    rintro e w1 ⟨rfl, rfl⟩
    go_wp2_with fail
    go_ret
    exact ⟨ret_int (by rw [HR.out]; rfl), Below.refl _ _⟩
  · have HR := Lib.hid (show Fl.fsqrt a = 9221120237041090560 by exact (Fl.fsqrt_none ha (by omega)).trans rfl)
    have f3 : ((x : Int) == 3) = false := by rw [beq_eq_false_iff_ne]; omega
    have fd : decide ((9223372036854775808 : Int) < (a : Int)) = true := decide_eq_true (by omega)
    clear ha hka hx h
    go_enter Tryz.func41, Tryz.ntmps41
    go_wp2_with fail
    refine (HKA.out _).mono ?_
    rintro e w1 ⟨rfl, rfl⟩
    go_wp2_with fail
    go_ret
    exact ⟨ret_int (by rw [HR.out]; rfl), Below.refl _ _⟩
  · have HR := Lib.hid (show Fl.fsqrt a = a by exact Fl.fsqrt_same ha (by omega) (by omega))
    have f3 : ((x : Int) == 3) = false := by rw [beq_eq_false_iff_ne]; omega
    have fd : decide ((9223372036854775808 : Int) < (a : Int)) = false := decide_eq_false (by omega)
    have f0 : ((x : Int) == 0) = true := by rw [beq_iff_eq]; omega
    clear ha hka hx h
    go_enter Tryz.func41, Tryz.ntmps41
    go_wp2_with fail
    refine (HKA.out _).mono ?_
    rintro e w1 ⟨rfl, rfl⟩
    go_wp2_with fail
    go_ret
    exact ⟨ret_int (by rw [HR.out]), Below.refl _ _⟩
  · have HR := Lib.hid (show Fl.fsqrt a = a by exact Fl.fsqrt_same ha (by omega) (by omega))
    have f3 : ((x : Int) == 3) = false := by rw [beq_eq_false_iff_ne]; omega
    have fd : decide ((9223372036854775808 : Int) < (a : Int)) = false := decide_eq_false (by omega)
    have f0 : ((x : Int) == 0) = false := by rw [beq_eq_false_iff_ne]; omega
    have f2 : ((x : Int) == 2) = true := by rw [beq_iff_eq]; omega
    clear ha hka hx h
    go_enter Tryz.func41, Tryz.ntmps41
    go_wp2_with fail
    refine (HKA.out _).mono ?_
    rintro e w1 ⟨rfl, rfl⟩
    go_wp2_with fail
    go_ret
    exact ⟨ret_int (by rw [HR.out]), Below.refl _ _⟩
  · have hal : a < 9223372036854775808 := by
      rcases Nat.lt_or_ge a 9223372036854775808 with h1 | h1
      · exact h1
      · have : a = 9223372036854775808 := by omega
        rw [this] at hx
        have : Fl.kind 9223372036854775808 = 0 := by decide
        omega
    have hk1 : Fl.kind a = 1 := by omega
    obtain ⟨_, hm, he1, he2⟩ := parts_mag (a := a) (by omega)
    have HSP := Lib.hid (fun (t : Nat) (c : Int) (hc : pe a - t - 120 = 2 * c) (v : Nat) h1 h2 (ht : t ≤ 1) => sqrt_parts hal hk1 hc (v := v) h1 h2 ht)
    have hnb := (Pl.nb_lt_iff (pm a) 53).1 hm
    have HP := Lib.hid (fun w => rparts_any a w ha)
    have HO := Lib.hid (fun w => rofn_any (pm a) w (by omega))
    have HS1 := Lib.hid (fun w => rsh_any (pm a) 1 w (by omega) (by omega))
    have HS2 := Lib.hid (fun (t : Nat) (ht : t ≤ 1) w => rsh_any (pm a * 2 ^ t) 120 w (by have := Pl.nb_shift (pm a) t; omega) (by omega))
    have HZ : Hid (∀ w, Calls Tryz.prog 58 #[.int .i64 0] w fun e w' => e = .returned (lof ((0 : Nat) : Int)) ∧ Below w.heap.size w w') := Lib.hid (fun w => rof_any 0 w (by omega) (by omega))
    have HOF : Hid (∀ w, Calls Tryz.prog 58 #[.int .i64 1] w fun e w' => e = .returned (lof ((1 : Nat) : Int)) ∧ Below w.heap.size w w') := Lib.hid (fun w => rof_any 1 w (by omega) (by omega))
    have f3 : ((x : Int) == 3) = false := by rw [beq_eq_false_iff_ne]; omega
    have fd : decide ((9223372036854775808 : Int) < (a : Int)) = false := decide_eq_false (by omega)
    have f0 : ((x : Int) == 0) = false := by rw [beq_eq_false_iff_ne]; omega
    have f2 : ((x : Int) == 2) = false := by rw [beq_eq_false_iff_ne]; omega
    obtain ⟨m, hmd⟩ : ∃ m, pm a = m := ⟨_, rfl⟩
    obtain ⟨e, hed⟩ : ∃ e, pe a = e := ⟨_, rfl⟩
    rw [hmd] at hm hnb HP HO HS1 HS2 HSP
    rw [hed] at he1 he2 HP HSP
    obtain ⟨t, e1, ht, hte, hpar, htm⟩ : ∃ (t : Nat) (e1 : Int), t ≤ 1 ∧ e - t = e1 ∧ e1 % 2 = 0 ∧ (e.tmod 2 != 0) = decide (t = 1) := by
      have hq : e.tmod 2 = 0 ↔ e % 2 = 0 := by
        constructor <;> intro h
        · exact Int.emod_eq_zero_of_dvd (Int.dvd_of_tmod_eq_zero h)
        · exact Int.tmod_eq_zero_of_dvd (Int.dvd_of_emod_eq_zero h)
      by_cases h : e % 2 = 0
      · exact ⟨0, e, by omega, by omega, h, by rw [hq.2 h]; rfl⟩
      · refine ⟨1, e - 1, by omega, by omega, by omega, ?_⟩
        rw [bne_iff_ne.2 (fun h2 => h (hq.1 h2))]; rfl
    obtain ⟨e6, he6⟩ : ∃ e6, e1 - 120 = e6 := ⟨_, rfl⟩
    obtain ⟨c, hc⟩ : ∃ c, e6 = 2 * c := ⟨e6 / 2, by omega⟩
    obtain ⟨n, hn⟩ : ∃ n, m * 2 ^ t * 2 ^ 120 = n := ⟨_, rfl⟩
    have hn174 : n < 2 ^ 174 := by
      have h1 : m * 2 ^ t ≤ m * 2 := Nat.mul_le_mul_left _ (by rcases (show t = 0 ∨ t = 1 by omega) with rfl | rfl <;> decide)
      have h2 : (2 : Nat) ^ 54 * 2 ^ 120 = 2 ^ 174 := by rw [← Nat.pow_add]
      rw [← hn, ← h2]
      refine Nat.mul_lt_mul_of_pos_right ?_ (Nat.two_pow_pos _)
      have : (2 : Nat) ^ 54 = 18014398509481984 := by decide
      omega
    have HFIN := Lib.hid (fun v h1 h2 => HSP.out t c (by omega) v h1 h2 ht)
    rw [hn] at HFIN
    have HS3 := Lib.hid (HS2.out t ht)
    rw [hn] at HS3
    have HSC := Lib.hid (fun p w (hp : Pl.nb p ≤ 1000) => rscaled_any false p (c - 1) w hp (by omega) (by omega))
    have hq1 : e6.tdiv 2 = c := by rw [hc, Int.mul_comm]; exact Int.mul_tdiv_cancel _ (by decide)
    have hcb : -1000 ≤ c ∧ c ≤ 1000 := by omega
    have hcb1 := hcb.1
    have hcb2 := hcb.2
    clear HSP HS2 hka hx h hk1 hmd hed hcb hc hpar
    have HMU := Lib.hid (fun (v : Nat) (hv : Pl.nb v ≤ 200) w => rmuln_any v v w (by omega) (by omega))
    have hnbn : Pl.nb n ≤ 174 := (Pl.nb_lt_iff n 174).1 hn174
    have HCM : Hid (∀ (v : Nat) (_ : Pl.nb v ≤ 200) w, Calls Tryz.prog 82 #[.agg #[.bool false, .string (bs (Pl.dgs (v * v)))], .agg #[.bool false, .string (bs (Pl.dgs n))]] w fun e w' => e = .returned (.tuple #[.int .i64 (Pl.ord (v * v) n), .int .i64 0]) ∧ Below w.heap.size w w') := Lib.hid (fun v hv w => rcmpl_any (v * v) n w (Pl.nb_good (by have := Pl.nb_mul v v; omega)) (Pl.nb_good (by omega)))
    have HAD : Hid (∀ (u v : Nat) (_ : Pl.nb u ≤ 200) (_ : Pl.nb v ≤ 200) w, Calls Tryz.prog 78 #[lof (u : Int), lof (v : Int)] w fun e w' => e = .returned (.tuple #[lof ((u + v : Nat) : Int), .int .i64 0]) ∧ Below w.heap.size w w') := Lib.hid (fun u v h1 h2 w => by
      have h := radd_any (u : Int) (v : Int) w (by rw [nb_nat]; omega) (by rw [nb_nat]; omega)
      exact h)
    have HSB : Hid (∀ (k : Nat) (_ : k ≤ 120) w, Calls Tryz.prog 81 #[lof ((1 : Nat) : Int), .int .i64 (k : Int)] w (LofOk w (2 ^ k : Nat))) := Lib.hid (fun k hk w => by
      have h := rsh_any 1 k w (by decide) (by omega)
      rw [Nat.one_mul] at h
      exact h)
    have HSL : Hid (∀ (v : Nat) (_ : Pl.nb v ≤ 200) w, Calls Tryz.prog 81 #[lof (v : Int), .int .i64 1] w (LofOk w (v * 2 ^ 1 : Nat))) := Lib.hid (fun v hv w => rsh_any v 1 w (by omega) (by omega))
    unfold LofOk at *
    unfold U64Ok at HSC
    simp only [lofn] at *
    have HN0 := Lib.hid hn
    have HN174 := Lib.hid hn174
    generalize pn a = pa at *
    have HT0 := Lib.hid (show t = 0 → bs (Pl.dgs (m * 2 ^ t)) = bs (Pl.dgs m) from fun h => by rw [h, Nat.pow_zero, Nat.mul_one])
    have HT1 := Lib.hid (show t = 1 → bs (Pl.dgs (m * 2 ^ t)) = bs (Pl.dgs (m * 2 ^ 1)) from fun h => by rw [h])
    generalize bs (Pl.dgs (m * 2 ^ t)) = st at *
    generalize bs (Pl.dgs (m * 2 ^ 1)) = s1 at *
    generalize bs (Pl.dgs m) = sm at *
    obtain ⟨sn, hsn⟩ : ∃ sn, bs (Pl.dgs n) = sn := ⟨_, rfl⟩
    rw [hsn] at HS3 HCM
    rw [show ((120 : Nat) : Int) = 120 from rfl] at HS3
    rw [show ((1 : Nat) : Int) = 1 from rfl] at HS1
    clear hn hn174 hsn
    rcases (show t = 0 ∨ t = 1 by omega) with h | h
    case' inl =>
      have htm0 : (e.tmod 2 != 0) = false := by rw [htm, h]; rfl
      have he16 : e - 120 = e6 := by omega
      obtain rfl := HT0.out h
      clear htm hte h he6 ht
      go_enter Tryz.func41, Tryz.ntmps41
      go_wp2_with fail
      refine (HKA.out _).mono ?_
      rintro e' w1 ⟨rfl, rfl⟩
      go_wp2_with fail
      refine (HP.out _).mono ?_
      rintro e' w1 ⟨rfl, rfl⟩
      go_wp2_with fail
      refine (HO.out _).mono ?_
      rintro e' w1 ⟨rfl, hb1⟩
      have L7 := Lib.hid (Lg.new w1 false st)
      have HB1 := Lib.hid (hb1.alloc hb1.size (.cells #[.bool false, .string st] 42))
      have hk7 := hb1.size
      clear hb1
      go_wp2_with fail
      refine (HS3.out _).mono ?_
      rintro e' w3 ⟨rfl, hb3⟩
      have l7 := L7.out.below hb3
      have HB3 := Lib.hid (chain HB1.out hb3)
      clear hb3
      obtain ⟨r0, r1, q0, q1⟩ := l7.cells
      have L7b := Lib.hid (l7.set false sn)
      have HB4 := Lib.hid (l7.fin HB3.out hk7 false sn).2.2
      obtain ⟨y0, y1, _, _⟩ := L7b.out.cells
      clear l7
      go_wp2_with fail
      generalize hk7d : w1.heap.size = k7 at *
      clear hk7d
      generalize (w3.setCell ⟨k7, 0, none⟩ (.bool false)).setCell ⟨k7, 1, none⟩ (.string sn) = w5 at *
    case' inr =>
      have htm0 : (e.tmod 2 != 0) = true := by rw [htm, h]; rfl
      have hte1 : e - 1 = e1 := by omega
      obtain rfl := HT1.out h
      clear htm hte h ht
      go_enter Tryz.func41, Tryz.ntmps41
      go_wp2_with fail
      refine (HKA.out _).mono ?_
      rintro e' w1 ⟨rfl, rfl⟩
      go_wp2_with fail
      refine (HP.out _).mono ?_
      rintro e' w1 ⟨rfl, rfl⟩
      go_wp2_with fail
      refine (HO.out _).mono ?_
      rintro e' w1 ⟨rfl, hb1⟩
      have L7 := Lib.hid (Lg.new w1 false sm)
      have HB1 := Lib.hid (hb1.alloc hb1.size (.cells #[.bool false, .string sm] 42))
      have hk7 := hb1.size
      clear hb1
      go_wp2_with fail
      refine (HS1.out _).mono ?_
      rintro e' w2 ⟨rfl, hb2⟩
      have l7 := L7.out.below hb2
      have HB2 := Lib.hid (chain HB1.out hb2)
      clear hb2
      obtain ⟨r0, r1, q0, q1⟩ := l7.cells
      have L7a := Lib.hid (l7.set false st)
      have HB2a := Lib.hid (l7.fin HB2.out hk7 false st).2.2
      obtain ⟨y0, y1, _, _⟩ := L7a.out.cells
      clear l7
      go_wp2_with fail
      refine (HS3.out _).mono ?_
      rintro e' w3 ⟨rfl, hb3⟩
      have l7 := L7a.out.below hb3
      have HB3 := Lib.hid (chain HB2a.out hb3)
      clear hb3
      obtain ⟨r0, r1, q0, q1⟩ := l7.cells
      have L7b := Lib.hid (l7.set false sn)
      have HB4 := Lib.hid (l7.fin HB3.out hk7 false sn).2.2
      obtain ⟨y0, y1, _, _⟩ := L7b.out.cells
      clear l7
      go_wp2_with fail
      generalize hk7d : w1.heap.size = k7 at *
      clear hk7d
      generalize (w3.setCell ⟨k7, 0, none⟩ (.bool false)).setCell ⟨k7, 1, none⟩ (.string sn) = w5 at *
    all_goals
      refine (HZ.out _).mono ?_
      rintro e' w6 ⟨rfl, hb6⟩
      have hk7s := L7b.out.lt
      have hs6 := hb6.size
      have L7c := Lib.hid ((L7b.out.below hb6).alloc (.cells #[.bool false, .string (bs (Pl.dgs 0))] 42))
      have L8 := Lib.hid (Lg.new w6 false (bs (Pl.dgs 0)))
      have hb6a := chain HB4.out hb6
      have HB7 := Lib.hid (hb6a.alloc hb6a.size (.cells #[.bool false, .string (bs (Pl.dgs 0))] 42))
      have hk8 := hb6a.size
      clear hb6 hb6a
      go_wp2_with fail
      obtain ⟨k8, hk8d⟩ : ∃ k8, w6.heap.size = k8 := ⟨_, rfl⟩
      rw [hk8d] at L8 hk8 hs6 ⊢
      have hk78 : k7 < k8 := by omega
      clear hk8d
      generalize w6.alloc (.cells #[.bool false, .string (bs (Pl.dgs 0))] 42) = w7 at L7c L8 HB7 ⊢
      have HI0 := Lib.hid (show 0 * 0 ≤ n ∧ n < (0 + 2 ^ 121) * (0 + 2 ^ 121) from ⟨by omega, by
        rw [Nat.zero_add, ← Nat.pow_add]
        exact Nat.lt_trans HN174.out (Nat.pow_lt_pow_right (by decide) (by decide))⟩)
      clear L7b HB4 y0 y1 r0 r1 q0 q1 HB3 HB1 hs6 hk7s
      go_loopw [9] (fun s wr => ∃ k v : Nat, k ≤ 121 ∧ s = .int .i64 ((k : Int) - 1) ∧ Hid (v * v ≤ n ∧ n < (v + 2 ^ k) * (v + 2 ^ k)) ∧ Hid (Lg wr k7 false sn) ∧ Hid (Lg wr k8 false (bs (Pl.dgs v))) ∧ Hid (Below w.heap.size w wr)) (fun s _ => ((RowKit.intOf s) + 1).toNat)
      case atStart => exact ⟨121, 0, by omega, rfl, HI0, L7c, L8, HB7⟩
      case round =>
        clear L7c L8 HB7 HI0
        obtain ⟨k, v, hk, rfl, hv, L7, L8, HB⟩ := hrel
        have hv87 := root_bound hv.out.1 HN174.out
        have hnbv : Pl.nb v ≤ 87 := (Pl.nb_lt_iff v 87).1 hv87
        clear hv87
        cases k with
        | zero =>
          have hv1 := hv.out
          rw [Nat.pow_zero] at hv1
          have HF := Lib.hid (HFIN.out v hv1.1 hv1.2)
          have hb0 : decide (0 ≤ ((0 : Nat) : Int) - 1) = false := by decide
          have HMUL := Lib.hid (HMU.out v (by omega))
          have HCMP := Lib.hid (HCM.out v (by omega))
          have HSHL := Lib.hid (HSL.out v (by omega))
          have hn2 : Pl.nb (v * 2 ^ 1) ≤ 88 := by have := Pl.nb_shift v 1; omega
          have hn3 : Pl.nb (v * 2 ^ 1 + 1) ≤ 90 := by have := Pl.nb_add (v * 2 ^ 1) 1; have : Pl.nb 1 = 1 := by decide
                                                      omega
          have HSC0 := Lib.hid (fun w => HSC.out (v * 2 ^ 1) w (by omega))
          have HSC1 := Lib.hid (fun w => HSC.out (v * 2 ^ 1 + 1) w (by omega))
          have HAD1 := Lib.hid (HAD.out (v * 2 ^ 1) 1 (by omega) (by decide))
          have hcase : (v * v = n ∧ Pl.ord (v * v) n = 0 ∧ Fl.fsqrt a = Fl.D.word false (Fl.rung (v * 2 ^ 1 * 2 ^ (c - 1).toNat * 2 ^ Fl.E74) (2 ^ (-(c - 1)).toNat))) ∨ (v * v < n ∧ Pl.ord (v * v) n = -1 ∧ Fl.fsqrt a = Fl.D.word false (Fl.rung ((v * 2 ^ 1 + 1) * 2 ^ (c - 1).toNat * 2 ^ Fl.E74) (2 ^ (-(c - 1)).toNat))) := by
            rcases Nat.lt_or_ge (v * v) n with h | h
            · right
              refine ⟨h, by unfold Pl.ord; rw [if_pos h], ?_⟩
              rw [HF.out, show (v * v != n) = true by rw [bne_iff_ne]; omega, show 2 * v + true.toNat = v * 2 ^ 1 + 1 by show 2 * v + 1 = _; omega]
            · left
              have he : v * v = n := by omega
              refine ⟨he, by unfold Pl.ord; rw [if_neg (by omega), if_neg (by omega)], ?_⟩
              rw [HF.out, show (v * v != n) = false by rw [he]; simp, show 2 * v + false.toNat = v * 2 ^ 1 by show 2 * v + 0 = _; omega]
          generalize Fl.D.word false (Fl.rung (v * 2 ^ 1 * 2 ^ (c - 1).toNat * 2 ^ Fl.E74) (2 ^ (-(c - 1)).toNat)) = r0 at HSC0 hcase
          generalize Fl.D.word false (Fl.rung ((v * 2 ^ 1 + 1) * 2 ^ (c - 1).toNat * 2 ^ Fl.E74) (2 ^ (-(c - 1)).toNat)) = r1 at HSC1 hcase
          obtain ⟨cc, hcc⟩ : ∃ cc, Pl.ord (v * v) n = cc := ⟨_, rfl⟩
          rw [hcc] at HCMP hcase
          have HCASE := Lib.hid hcase
          generalize bs (Pl.dgs v) = sv at *
          generalize bs (Pl.dgs (v * v)) = sq at *
          generalize bs (Pl.dgs (v * 2 ^ 1)) = s2 at *
          generalize bs (Pl.dgs (v * 2 ^ 1 + 1)) = s3 at *
          generalize bs (Pl.dgs 1) = so at *
          have hwr := HB.out.size
          clear hv1 hcase hcc HMU HCM HSL HSC HAD HSB hv HFIN hn2 hn3 hnbv hk
          obtain ⟨p0, p1, _, _⟩ := L8.out.cells
          go_wp2_with fail
          refine (HMUL.out _).mono ?_
          rintro e' w8 ⟨rfl, hb8⟩
          have L16 := Lib.hid (Lg.new w8 false sq)
          have L7a := Lib.hid ((L7.out.below hb8).alloc (.cells #[.bool false, .string sq] 42))
          have L8a := Lib.hid ((L8.out.below hb8).alloc (.cells #[.bool false, .string sq] 42))
          have hb8a := chain HB.out hb8
          have HB8 := Lib.hid (hb8a.alloc hb8a.size (.cells #[.bool false, .string sq] 42))
          clear hb8 hb8a p0 p1
          obtain ⟨p0, p1, _, _⟩ := L8a.out.cells
          go_wp2_with fail
          refine (HSHL.out _).mono ?_
          rintro e' w9 ⟨rfl, hb9⟩
          have L18 := Lib.hid (Lg.new w9 false s2)
          have L16a := Lib.hid ((L16.out.below hb9).alloc (.cells #[.bool false, .string s2] 42))
          have L7b := Lib.hid ((L7a.out.below hb9).alloc (.cells #[.bool false, .string s2] 42))
          have hb9a := chain HB8.out hb9
          have HB9 := Lib.hid (hb9a.alloc hb9a.size (.cells #[.bool false, .string s2] 42))
          have hk18b := hb9a.size
          clear hb9 hb9a p0 p1
          obtain ⟨p0, p1, _, _⟩ := L16a.out.cells
          obtain ⟨p2, p3, _, _⟩ := L7b.out.cells
          go_wp2_with fail
          refine (HCMP.out _).mono ?_
          rintro e' w10 ⟨rfl, hb10⟩
          have L18a := Lib.hid (L18.out.below hb10)
          have HB10 := Lib.hid (chain HB9.out hb10)
          clear hb10 p0 p1 p2 p3
          rcases HCASE.out with ⟨_, rfl, hr⟩ | ⟨_, rfl, hr⟩
          · have HR := Lib.hid hr
            clear hr
            obtain ⟨p0, p1, _, _⟩ := L18a.out.cells
            go_wp2_with fail
            refine (HSC0.out _).mono ?_
            rintro e' w11 ⟨rfl, hb11⟩
            go_wp2_with fail
            go_ret
            exact ⟨ret_int (by rw [HR.out]), chain HB10.out hb11⟩
          · have HR := Lib.hid hr
            clear hr
            obtain ⟨p0, p1, q0, q1⟩ := L18a.out.cells
            go_wp2_with fail
            obtain ⟨k18, hk18⟩ : ∃ k18, w9.heap.size = k18 := ⟨_, rfl⟩
            rw [hk18] at L18a p0 p1 q0 q1 hk18b ⊢
            clear hk18 L18 HB9 HB8 L16 L16a L7a L7b L8a hwr HCASE
            go_region_with (first
              | (go_at_call 58; refine (HOF.out _).mono ?_; rintro e' w4 ⟨rfl, hb4⟩; have hB4 : Below w10.heap.size w10 w4 := chain (Below.refl _ w10).drew hb4; have L18b : Lg w4 k18 false s2 := L18a.out.below hB4; obtain ⟨y0, y1, y2, y3⟩ := L18b.cells; clear hb4)
              | (go_at_call 78; refine (HAD1.out _).mono ?_; rintro e' w5 ⟨rfl, hb5⟩; have hB5 : Below w10.heap.size w10 w5 := chain hB4 hb5; have L18c : Lg w5 k18 false s2 := L18b.below hb5; obtain ⟨x0, x1, x2, x3⟩ := L18c.cells; clear hb5))
            all_goals
              have L18d := Lib.hid (L18c.set false s3)
              have HB5 := Lib.hid (chain HB10.out hB5)
              have HB6 := Lib.hid (L18c.fin HB5.out hk18b false s3).2.2
              obtain ⟨v0, v1, _, _⟩ := L18d.out.cells
              go_wp2_with fail
              refine (HSC1.out _).mono ?_
              rintro e' w11 ⟨rfl, hb11⟩
              go_wp2_with fail
              go_ret
              exact ⟨ret_int (by rw [HR.out]), chain HB6.out hb11⟩
        | succ k =>
          have hkk : ((k + 1 : Nat) : Int) - 1 = (k : Int) := by omega
          rw [hkk]
          have hnbk : Pl.nb (2 ^ k) ≤ 122 := by have := nb_E k; omega
          have hnbt : Pl.nb (v + 2 ^ k) ≤ 123 := by have := Pl.nb_add v (2 ^ k); omega
          have HADD := Lib.hid (HAD.out v (2 ^ k) (by omega) (by omega))
          have HMUL := Lib.hid (HMU.out (v + 2 ^ k) (by omega))
          have HCMP := Lib.hid (HCM.out (v + 2 ^ k) (by omega))
          have HSHB := Lib.hid (HSB.out k (by omega))
          obtain ⟨T, hT⟩ : ∃ T, v + 2 ^ k = T := ⟨_, rfl⟩
          rw [hT] at HADD HMUL HCMP
          have HT := Lib.hid hT
          obtain ⟨sv, hsv⟩ : ∃ sv, bs (Pl.dgs v) = sv := ⟨_, rfl⟩
          rw [hsv] at HADD L8
          have HSV := Lib.hid hsv
          generalize bs (Pl.dgs 1) = so at *
          generalize bs (Pl.dgs (2 ^ k)) = sk at *
          obtain ⟨sT, hsT⟩ : ∃ sT, bs (Pl.dgs T) = sT := ⟨_, rfl⟩
          rw [hsT] at HADD HMUL
          have HSTE := Lib.hid hsT
          generalize bs (Pl.dgs (T * T)) = sq at *
          clear hkk hT hsv hsT hnbk hnbt
          have hb0 : decide (0 ≤ (k : Int)) = true := decide_eq_true (by omega)
          have hl7 := L7.out.lt
          have hl8 := L8.out.lt
          obtain ⟨p0, p1, q0, q1⟩ := L8.out.cells
          go_wp2_with fail
          have BA := Lib.hid (show ∀ o, Below wr.heap.size wr (wr.alloc o).drew from fun o => ((Below.refl wr.heap.size wr).alloc (Nat.le_refl _) o).drew)
          have BD := Lib.hid (show Below wr.heap.size wr wr.drew from (Below.refl _ _).drew)
          have HKC := Lib.hid (fun (W : World) (hb : Below wr.heap.size wr W) => show W.cell? ⟨k8, 0, none⟩ = some (.bool false) ∧ W.cell? ⟨k8, 1, none⟩ = some (.string sv) from ⟨(L8.out.below hb).cells.1, (L8.out.below hb).cells.2.1⟩)
          have HKS := Lib.hid (fun (W : World) (hb : Below wr.heap.size wr W) (j : Nat) (hj : j ≠ k8) x y => show ((W.setCell ⟨j, 0, none⟩ x).setCell ⟨j, 1, none⟩ y).cell? ⟨k8, 0, none⟩ = some (.bool false) ∧ ((W.setCell ⟨j, 0, none⟩ x).setCell ⟨j, 1, none⟩ y).cell? ⟨k8, 1, none⟩ = some (.string sv) from ⟨(((L8.out.below hb).other hj).other hj).cells.1, (((L8.out.below hb).other hj).other hj).cells.2.1⟩)
          go_region_held3 (fun W => W.cell? ⟨k8, 0, none⟩ = some (.bool false) ∧ W.cell? ⟨k8, 1, none⟩ = some (.string sv)) (first | exact ⟨p0, p1⟩ | exact HKC.out _ BD.out | exact HKC.out _ (BA.out _) | exact HKC.out _ hB4 | exact HKC.out _ (hB4.alloc hB4.size _) | exact HKC.out _ hB5 | exact HKC.out _ (hB5.alloc hB5.size _) | exact HKC.out _ hB6 | exact HKC.out _ (hB6.alloc hB6.size _) | exact HKS.out _ hB6 _ (by omega) _ _) (first
            | (go_at_call 58; refine (HOF.out _).mono ?_; rintro e' w4 ⟨rfl, hb4⟩; (first | (have hB4 : Below wr.heap.size wr w4 := chain BD.out hb4) | (have hB4 : Below wr.heap.size wr w4 := chain (BA.out _) hb4; have LA4 : Lg w4 wr.heap.size false ⟨#[]⟩ := (Lg.new wr false ⟨#[]⟩).drew.below hb4)); have hs4 := hB4.size; clear hb4)
            | (go_at_call 81; refine (HSHB.out _).mono ?_; rintro e' w5 ⟨rfl, hb5⟩; (first | (have LA5 : Lg w5 wr.heap.size false ⟨#[]⟩ := LA4.below hb5; have hB5 : Below wr.heap.size wr w5 := chain hB4 hb5) | (have LA5 : Lg w5 w4.heap.size false ⟨#[]⟩ := (Lg.new w4 false ⟨#[]⟩).below hb5; have hB5 : Below wr.heap.size wr w5 := chain (hB4.alloc hB4.size _) hb5) | (have hB5 : Below wr.heap.size wr w5 := chain hB4 hb5)); have hs5 := hB5.size; clear hb5)
            | (go_at_call 78; refine (HADD.out _).mono ?_; rintro e' w6 ⟨rfl, hb6⟩; (first | (have LA6 : Lg w6 wr.heap.size false ⟨#[]⟩ := LA5.below hb6; have hB6 : Below wr.heap.size wr w6 := chain hB5 hb6; obtain ⟨z0, z1, z2, z3⟩ := LA6.cells) | (have LA6 : Lg w6 w4.heap.size false ⟨#[]⟩ := LA5.below hb6; have hB6 : Below wr.heap.size wr w6 := chain hB5 hb6; obtain ⟨z0, z1, z2, z3⟩ := LA6.cells) | (have LA6 : Lg w6 w5.heap.size false ⟨#[]⟩ := (Lg.new w5 false ⟨#[]⟩).below hb6; have hB6 : Below wr.heap.size wr w6 := chain (hB5.alloc hB5.size _) hb6; obtain ⟨z0, z1, z2, z3⟩ := LA6.cells) | (have hB6 : Below wr.heap.size wr w6 := chain hB5 hb6)); have hs6 := hB6.size; clear hb6))
          all_goals
            have HBX := Lib.hid (chain HB.out hB6)
            have hwr := HB.out.size
            first
            | (have L10 := Lib.hid (LA6.set false sT)
               have L7n := Lib.hid ((L7.out.below hB6).both LA6 (by omega) (.bool false) (.string sT))
               have L8n := Lib.hid ((L8.out.below hB6).both LA6 (by omega) (.bool false) (.string sT))
               have HB10 := Lib.hid (LA6.fin HBX.out (by omega) false sT).2.2)
            | (have L10 := Lib.hid (Lg.new w6 false sT)
               have L7n := Lib.hid ((L7.out.below hB6).alloc (.cells #[.bool false, .string sT] 42))
               have L8n := Lib.hid ((L8.out.below hB6).alloc (.cells #[.bool false, .string sT] 42))
               have HB10 := Lib.hid (HBX.out.alloc HBX.out.size (.cells #[.bool false, .string sT] 42)))
            clear L7 L8 HB BA BD HKC HKS HOF HSHB HADD HBX p0 p1 q0 q1
            obtain ⟨r0, r1, _, _⟩ := L10.out.cells
            go_wp2_with fail
            refine (HMUL.out _).mono ?_
            rintro e' w8 ⟨rfl, hb8⟩
            have L7o := Lib.hid ((L7n.out.below hb8).alloc (.cells #[.bool false, .string sq] 42))
            have L8o := Lib.hid ((L8n.out.below hb8).alloc (.cells #[.bool false, .string sq] 42))
            have L10o := Lib.hid ((L10.out.below hb8).alloc (.cells #[.bool false, .string sq] 42))
            have hb8a := chain HB10.out hb8
            have HB8 := Lib.hid (hb8a.alloc hb8a.size (.cells #[.bool false, .string sq] 42))
            clear hb8 hb8a r0 r1
            obtain ⟨r0, r1, _, _⟩ := L7o.out.cells
            go_wp2_with fail
            refine (HCMP.out _).mono ?_
            rintro e' w9 ⟨rfl, hb9⟩
            have L7p := Lib.hid (L7o.out.below hb9)
            have L8p := Lib.hid (L8o.out.below hb9)
            have L10p := Lib.hid (L10o.out.below hb9)
            have HB9 := Lib.hid (chain HB8.out hb9)
            clear hb9 r0 r1
            by_cases hy : T * T ≤ n
            · have hord : decide (Pl.ord (T * T) n ≤ 0) = true := by unfold Pl.ord; split; · rfl
                                                                     · rw [if_neg (by omega)]; rfl
              have HV2 := Lib.hid (show T * T ≤ n ∧ n < (T + 2 ^ k) * (T + 2 ^ k) by
                rw [← HT.out] at hy ⊢
                exact root_yes hv.out hy)
              generalize Pl.ord (T * T) n = od at *
              obtain ⟨r0, r1, _, _⟩ := L10p.out.cells
              obtain ⟨s0, s1, g0, g1⟩ := L8p.out.cells
              have L8q := Lib.hid (L8p.out.set false sT)
              have L7q := Lib.hid (L7p.out.both L8p.out (by omega) (.bool false) (.string sT))
              have HB9q := Lib.hid (L8p.out.fin HB9.out (by omega) false sT).2.2
              clear hy
              go_wp2_with fail
              go_roundw
              case rel => exact ⟨k, T, by omega, by go_num, HV2, L7q, by rw [HSTE.out]; exact L8q, HB9q⟩
              case measure => simp [RowKit.intOf]
            · have hord : decide (Pl.ord (T * T) n ≤ 0) = false := by unfold Pl.ord; rw [if_neg (by omega), if_pos (by omega)]; rfl
              have HV2 := Lib.hid (show v * v ≤ n ∧ n < (v + 2 ^ k) * (v + 2 ^ k) from ⟨hv.out.1, by rw [HT.out]; omega⟩)
              generalize Pl.ord (T * T) n = od at *
              clear hy
              go_wp2_with fail
              rw [← HSV.out] at L8p
              go_roundw
              case rel => exact ⟨k, v, by omega, by go_num, HV2, L7p, L8p, HB9⟩
              case measure => simp [RowKit.intOf]
end Go.Proofs.YtgdohmaljbggjaaGreatDoor
namespace Go.Proofs.YtgdohmaljbggjaaGreatDoor
open Go.RowKit Go.Lib
set_option maxRecDepth 100000 in
set_option maxHeartbeats 4000000 in
theorem sums_any (a b : Nat) (w : World) (ha : a < 18446744073709551616) (hb : b < 18446744073709551616) (he : Env w) :
    Calls Tryz.prog 10 #[.int .u64 a, .int .u64 b] w fun e w' => e = .returned (.bool true) ∧ Below w.heap.size w w' := by
  have HW := Lib.hid (works_any w he)
  have A1 := Lib.hid (fun w => add_any a b w)
  have A2 := Lib.hid (fun w => rtadd_any a b w ha hb)
  have S1 := Lib.hid (fun w => sub_any a b w)
  have S2 := Lib.hid (fun w => rtSub_any a b w ha hb)
  have M1 := Lib.hid (fun w => mul_any a b w)
  have M2 := Lib.hid (fun w => rtmul_any a b w ha hb)
  have D1 := Lib.hid (fun w => div_any a b w)
  have D2 := Lib.hid (fun w => rtdiv_any a b w ha hb)
  have N1 := Lib.hid (fun w => neg_any a w)
  have N2 := Lib.hid (fun w => rneg_any a w ha)
  have Q1 := Lib.hid (fun w => sqrt_any a w)
  have Q2 := Lib.hid (fun w => rsqrt_any a w ha)
  have C1 := Lib.hid (fun w => cmp_any a b w)
  have C2 := Lib.hid (fun w => rtcmp_any a b w ha hb)
  unfold U64Ok at *
  generalize Fl.fadd a b = v1 at *
  generalize Fl.fsub a b = v2 at *
  generalize Fl.fmul a b = v3 at *
  generalize Fl.fdiv a b = v4 at *
  generalize Fl.fneg a = v5 at *
  generalize Fl.fsqrt a = v6 at *
  generalize (Fl.fcmp a b).1 = c1 at *
  generalize (Fl.fcmp a b).2 = c2 at *
  clear ha hb he
  have e1 : ((v1 : Int) == (v1 : Int)) = true := by simp
  have e2 : ((v2 : Int) == (v2 : Int)) = true := by simp
  have e3 : ((v3 : Int) == (v3 : Int)) = true := by simp
  have e4 : ((v4 : Int) == (v4 : Int)) = true := by simp
  have e5 : ((v5 : Int) == (v5 : Int)) = true := by simp
  have e6 : ((v6 : Int) == (v6 : Int)) = true := by simp
  have e7 : (c1 == c1) = true := by simp
  have e8 : (c2 == c2) = true := by simp
  go_enter Tryz.func10, Tryz.ntmps10
  go_wp2_with fail
  refine HW.out.mono ?_
  rintro e w1 ⟨rfl, hb⟩
  have HB1 := Lib.hid hb
  clear hb HW
  go_wp2_with fail
  refine (A1.out _).mono ?_
  rintro e w2 ⟨rfl, hb⟩
  have HB2 := Lib.hid (HB1.out.trans (hb.mono HB1.out.size))
  clear hb HB1
  go_wp2_with fail
  refine (A2.out _).mono ?_
  rintro e w3 ⟨rfl, hb⟩
  have HB3 := Lib.hid (HB2.out.trans (hb.mono HB2.out.size))
  clear hb HB2
  go_wp2_with fail
  refine (S1.out _).mono ?_
  rintro e w4 ⟨rfl, hb⟩
  have HB4 := Lib.hid (HB3.out.trans (hb.mono HB3.out.size))
  clear hb HB3
  go_wp2_with fail
  refine (S2.out _).mono ?_
  rintro e w5 ⟨rfl, hb⟩
  have HB5 := Lib.hid (HB4.out.trans (hb.mono HB4.out.size))
  clear hb HB4
  go_wp2_with fail
  refine (M1.out _).mono ?_
  rintro e w6 ⟨rfl, hb⟩
  have HB6 := Lib.hid (HB5.out.trans (hb.mono HB5.out.size))
  clear hb HB5
  go_wp2_with fail
  refine (M2.out _).mono ?_
  rintro e w7 ⟨rfl, hb⟩
  have HB7 := Lib.hid (HB6.out.trans (hb.mono HB6.out.size))
  clear hb HB6
  go_wp2_with fail
  refine (D1.out _).mono ?_
  rintro e w8 ⟨rfl, hb⟩
  have HB8 := Lib.hid (HB7.out.trans (hb.mono HB7.out.size))
  clear hb HB7
  go_wp2_with fail
  refine (D2.out _).mono ?_
  rintro e w9 ⟨rfl, hb⟩
  have HB9 := Lib.hid (HB8.out.trans (hb.mono HB8.out.size))
  clear hb HB8
  go_wp2_with fail
  refine (N1.out _).mono ?_
  rintro e w' ⟨rfl, rfl⟩
  go_wp2_with fail
  refine (N2.out _).mono ?_
  rintro e w' ⟨rfl, rfl⟩
  go_wp2_with fail
  refine (Q1.out _).mono ?_
  rintro e w10 ⟨rfl, hb⟩
  have HB10 := Lib.hid (HB9.out.trans (hb.mono HB9.out.size))
  clear hb HB9
  go_wp2_with fail
  refine (Q2.out _).mono ?_
  rintro e w11 ⟨rfl, hb⟩
  have HB11 := Lib.hid (HB10.out.trans (hb.mono HB10.out.size))
  clear hb HB10
  go_wp2_with fail
  refine (C1.out _).mono ?_
  rintro e w' ⟨rfl, rfl⟩
  go_wp2_with fail
  refine (C2.out _).mono ?_
  rintro e w' ⟨rfl, rfl⟩
  go_wp2_with fail
  go_ret
  exact ⟨rfl, HB11.out⟩
end Go.Proofs.YtgdohmaljbggjaaGreatDoor
