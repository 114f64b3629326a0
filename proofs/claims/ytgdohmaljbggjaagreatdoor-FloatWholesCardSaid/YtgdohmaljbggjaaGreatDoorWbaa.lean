/- The document's integers as floats: the contracts of Check of any number, OfSmall, OfLarge. The document's integers as floats: the contracts of OfLarge, of whatever digits. The document's cut floats: the contracts of Truncate, Fraction. The document's powers of two: the contracts of Exponent, Scale. -/
import Derived.Test.YtgdohmaljbggjaaGreatDoorFbah
import Derived.Test.YtgdohmaljbggjaaGreatDoorBaat
import Derived.Test.YtgdohmaljbggjaaGreatDoorBaam
import Derived.Test.YtgdohmaljbggjaaGreatDoorBaal
namespace Go.Proofs.YtgdohmaljbggjaaGreatDoor
open Go.RowKit Go.Lib
set_option maxHeartbeats 1000000 in
/-- The reference's Check, of whatever digits. -/
theorem rchk_any (neg : Bool) (l : List UInt8) (w : World) (hl : l.length ≤ 100000000) :
    Calls Tryz.prog 65 #[lv neg l] w fun e w' => e = .returned (.int .i64 (Pl.chk neg l)) ∧ Below w.heap.size w w' := by
  unfold lv
  have hsz : (bs l).size = l.length := rfl
  obtain ⟨r, hr⟩ : ∃ r, Pl.chk neg l = r := ⟨_, rfl⟩
  rw [hr]
  have hlast : ∀ (h : l.length - 1 < (bs l).size), l[l.length - 1]? = some ((bs l)[l.length - 1]'h) := by
    intro h; rw [bs_size] at h
    rw [List.getElem?_eq_getElem h]; rfl
  have HLa := Lib.hid hlast
  clear hlast
  obtain ⟨n, hn⟩ : ∃ n, l.length = n := ⟨_, rfl⟩
  unfold Pl.chk at hr
  rw [hn] at hsz hl hr HLa
  have HR := Lib.hid hr
  clear hr hn
  generalize bs l = s at *
  have hszI : (s.size : Int) = n := by omega
  by_cases c1 : 4096 < n
  · have HQ := Lib.hid (show r = 92 by rw [← HR.out, if_pos c1])
    have d1 : decide (4096 < (n : Int)) = true := decide_eq_true (by omega)
    go_enter Tryz.func65, Tryz.ntmps65
    go_wp2_with fail
    go_ret
    exact ⟨ret_int (by rw [HQ.out]), (Below.refl _ _).alloc (Nat.le_refl _) _⟩
  have d1 : decide (4096 < (n : Int)) = false := decide_eq_false (by omega)
  by_cases c2 : n = 0
  · have b2 : ((n : Int) == 0) = true := by rw [beq_iff_eq]; omega
    have b3 : decide (0 < (n : Int)) = false := decide_eq_false (by omega)
    have HQ := Lib.hid (show r = if neg then 1 else 0 by rw [← HR.out, if_neg c1, if_pos c2])
    clear c2 HLa
    cases neg
    · go_enter Tryz.func65, Tryz.ntmps65
      go_wp2_with fail
      go_ret
      exact ⟨ret_int (by rw [HQ.out]; rfl), (Below.refl _ _).alloc (Nat.le_refl _) _⟩
    · go_enter Tryz.func65, Tryz.ntmps65
      go_wp2_with fail
      go_ret
      exact ⟨ret_int (by rw [HQ.out]; rfl), (Below.refl _ _).alloc (Nat.le_refl _) _⟩
  · have b2 : ((n : Int) == 0) = false := by rw [beq_eq_false_iff_ne]; omega
    have b4 : decide (0 < (n : Int)) = true := decide_eq_true (by omega)
    have q : n - 1 < s.size := by omega
    have hlq := HLa.out q
    obtain ⟨c, hc⟩ : ∃ c, s[n - 1]'q = c := ⟨_, rfl⟩
    rw [hc] at hlq
    have hn1 : 1 ≤ n := by omega
    by_cases c3 : c = 0
    · have b3 : ((c.toNat : Int) == 0) = true := by rw [c3]; rfl
      have HQ := Lib.hid (show r = 1 by rw [← HR.out, if_neg c1, if_neg c2, if_pos (by rw [hlq, c3])])
      clear c3 hlq HLa HR
      go_enter Tryz.func65, Tryz.ntmps65
      go_wp2_with fail
      go_ret
      exact ⟨ret_int (by rw [HQ.out]), (Below.refl _ _).alloc (Nat.le_refl _) _⟩
    · have b3 : ((c.toNat : Int) == 0) = false := by
        rw [beq_eq_false_iff_ne]; intro h; apply c3; apply UInt8.toNat_inj.1; rw [show (0 : UInt8).toNat = 0 from rfl]; omega
      have HQ := Lib.hid (show r = 0 by rw [← HR.out, if_neg c1, if_neg c2, if_neg (by rw [hlq]; intro e; injection e with e; exact c3 e)])
      clear c3 hlq HLa HR
      go_enter Tryz.func65, Tryz.ntmps65
      go_wp2_with fail
      go_ret
      exact ⟨ret_int (by rw [HQ.out]), (Below.refl _ _).alloc (Nat.le_refl _) _⟩
theorem le_nil_lt (N : Nat) : Pl.le [] < 256 ^ N := Nat.pow_pos (by decide)
/-- A number that may be, out of its digits. -/
theorem chk_zero_at {N : Nat} (hN : 4096 ≤ N) {neg : Bool} {l : List UInt8} (h : Pl.chk neg l = 0) : l = Pl.dgs (Pl.le l) ∧ Pl.le l < 256 ^ N ∧ (neg = true → Pl.le l ≠ 0) := by
  unfold Pl.chk at h
  split at h
  · exact absurd h (by decide)
  · rename_i h1
    split at h
    · rename_i h2
      have hl : l = [] := List.length_eq_zero_iff.1 h2
      subst hl
      refine ⟨Pl.dgs_zero.symm, le_nil_lt _, fun hn => ?_⟩
      rw [hn, if_pos rfl] at h
      exact absurd h (by decide)
    · rename_i h2
      split at h
      · exact absurd h (by decide)
      · rename_i h3
        have hc : Pl.Canon l := by
          unfold Pl.Canon
          rw [List.getLast?_eq_getElem?]
          exact h3
        refine ⟨(Pl.dgs_le hc).symm, Nat.lt_of_lt_of_le (Pl.le_lt l) (Nat.pow_le_pow_right (by decide) (by omega)), fun _ h0 => ?_⟩
        have := Pl.canon_ge hc (fun e => h2 (by rw [e]; rfl))
        have := Nat.pow_pos (n := l.length - 1) (show 0 < 256 by decide)
        omega
theorem chk_zero {neg : Bool} {l : List UInt8} (h : Pl.chk neg l = 0) : l = Pl.dgs (Pl.le l) ∧ Pl.le l < 256 ^ 4096 ∧ (neg = true → Pl.le l ≠ 0) := chk_zero_at (Nat.le_refl _) h
set_option maxRecDepth 4000 in
set_option maxHeartbeats 8000000 in
theorem rofsmall_any (n : Int) (w : World) (h1 : -9223372036854775808 ≤ n) (h2 : n ≤ 9223372036854775807) :
    Calls Tryz.prog 24 #[.int .i64 n] w (U64Ok w (Fl.fint n)) := by
  have HON := Lib.hid (fun w => rof_any n w h1 h2)
  have HWH := Lib.hid (fun w => rwhole_any n w)
  have HOF : Hid (∀ w, Calls Tryz.prog 58 #[.int .i64 1] w fun e w' => e = .returned (lof ((1 : Nat) : Int)) ∧ Below w.heap.size w w') := Lib.hid (fun w => rof_any 1 w (by omega) (by omega))
  have HRD := Lib.hid (fun w => rround_any (decide (n < 0)) n.natAbs 1 w (by have := (Pl.nb_lt_iff n.natAbs 64).1 (by omega); omega) (by decide) (by decide))
  rw [← Fl.fint_rung] at HRD
  unfold LofOk at HWH
  unfold U64Ok at HRD ⊢
  simp only [lofn] at HWH HOF HRD
  simp only [lof_is] at HON HWH
  generalize Fl.fint n = r at *
  generalize bs (Pl.dgs n.natAbs) = sn at *
  generalize decide (n < 0) = nn at *
  generalize bs (Pl.dgs 1) = so at *
  go_enter Tryz.func24, Tryz.ntmps24
  go_wp2_with fail
  refine (HON.out _).mono ?_
  rintro e w1 ⟨rfl, hb1⟩
  have L3 := Lib.hid (Lg.new w1 nn sn)
  have HB1 := Lib.hid (hb1.alloc hb1.size (.cells #[.bool nn, .string sn] 42))
  clear hb1
  go_wp2_with fail
  obtain ⟨k7, hk7⟩ : ∃ k7, w1.heap.size = k7 := ⟨_, rfl⟩
  rw [hk7] at L3 ⊢
  clear hk7
  generalize w1.alloc (.cells #[.bool nn, .string sn] 42) = w4 at L3 HB1 ⊢
  obtain ⟨p0, p1, _, _⟩ := L3.out.cells
  have BD := Lib.hid (show Below w4.heap.size w4 w4.drew from (Below.refl _ _).drew)
  have HKC := Lib.hid (fun (W : World) (hb : Below w4.heap.size w4 W) => show W.cell? ⟨k7, 0, none⟩ = some (.bool nn) ∧ W.cell? ⟨k7, 1, none⟩ = some (.string sn) from ⟨(L3.out.below hb).cells.1, (L3.out.below hb).cells.2.1⟩)
  go_region_held3 (fun W => W.cell? ⟨k7, 0, none⟩ = some (.bool nn) ∧ W.cell? ⟨k7, 1, none⟩ = some (.string sn)) (first | exact ⟨p0, p1⟩ | exact HKC.out _ BD.out | exact HKC.out _ hB6 | exact HKC.out _ hB7 | exact HKC.out _ hB8) (first
    | (go_at_call 60; (with_reducible refine (HWH.out _).mono ?_); rintro e w9 ⟨rfl, hb9⟩; (first | (have hB7 : Below w4.heap.size w4 w9 := chain hB6 hb9) | (have hB6 : Below w4.heap.size w4 w9 := chain BD.out hb9)); clear hb9)
    | (go_at_call 58; (with_reducible refine (HOF.out _).mono ?_); rintro e w9 ⟨rfl, hb9⟩; (first | (have hB7 : Below w4.heap.size w4 w9 := chain hB6 hb9) | (have hB6 : Below w4.heap.size w4 w9 := chain BD.out hb9)); clear hb9)
    | (go_at_call 59; (with_reducible refine (HRD.out _).mono ?_); rintro e w9 ⟨rfl, hb9⟩; (have hB8 : Below w4.heap.size w4 w9 := chain hB7 hb9); clear hb9))
  all_goals
    go_wp2_with fail
    go_ret
    exact ⟨rfl, chain HB1.out hB8⟩
end Go.Proofs.YtgdohmaljbggjaaGreatDoor
namespace Go.Proofs.YtgdohmaljbggjaaGreatDoor
open Go.RowKit Go.Lib
set_option maxHeartbeats 1000000 in
theorem oflarge_bad (neg : Bool) (l : List UInt8) (w : World) (hl : l.length ≤ 100000000) (h : Pl.chk neg l ≠ 0) :
    Calls Tryz.prog 25 #[lv neg l] w fun e w' => e = .returned (.tuple #[.int .u64 0, .int .i64 (Pl.chk neg l)]) ∧ Below w.heap.size w w' := by
  have HC := Lib.hid (fun w => check_any neg l w hl)
  unfold lv at *
  generalize bs l = s at *
  obtain ⟨r, hr⟩ : ∃ r, Pl.chk neg l = r := ⟨_, rfl⟩
  rw [hr] at HC h ⊢
  have hb : (r != 0) = true := by rw [bne_iff_ne]; exact h
  clear h hr
  go_enter Tryz.func25, Tryz.ntmps25
  go_wp2_with fail
  refine (HC.out _).mono ?_
  rintro e w1 ⟨rfl, hb1⟩
  go_wp2_with fail
  go_ret2
  exact ⟨rfl, chain ((Below.refl w.heap.size w).alloc (Nat.le_refl _) _) hb1⟩
set_option maxHeartbeats 1000000 in
theorem roflarge_bad (neg : Bool) (l : List UInt8) (w : World) (hl : l.length ≤ 100000000) (h : Pl.chk neg l ≠ 0) :
    Calls Tryz.prog 26 #[lv neg l] w fun e w' => e = .returned (.tuple #[.int .u64 0, .int .i64 (Pl.chk neg l)]) ∧ Below w.heap.size w w' := by
  have HC := Lib.hid (fun w => rchk_any neg l w hl)
  unfold lv at *
  generalize bs l = s at *
  obtain ⟨r, hr⟩ : ∃ r, Pl.chk neg l = r := ⟨_, rfl⟩
  rw [hr] at HC h ⊢
  have hb : (r != 0) = true := by rw [bne_iff_ne]; exact h
  clear h hr
  go_enter Tryz.func26, Tryz.ntmps26
  go_wp2_with fail
  refine (HC.out _).mono ?_
  rintro e w1 ⟨rfl, hb1⟩
  go_wp2_with fail
  go_ret2
  exact ⟨rfl, chain ((Below.refl w.heap.size w).alloc (Nat.le_refl _) _) hb1⟩
theorem kind_word (s : Bool) {R : Nat} (h : R ≤ 9218868437227405312) : Fl.kind (Fl.D.word s R) = if R = 0 then 0 else if R < 9218868437227405312 then 1 else if R = 9218868437227405312 then 2 else 3 := by
  unfold Fl.kind
  rw [(Fl.word_mod s (by omega)).1]
theorem nb_great {V : Nat} (h : 1100 < Pl.nb V) : Fl.rung (V * 2 ^ Fl.E74) 1 = 9218868437227405312 := by
  unfold Pl.nb at h
  by_cases h0 : V = 0
  · rw [if_pos h0] at h; omega
  · rw [if_neg h0] at h
    exact Fl.rung_great h0 (by omega)
set_option maxRecDepth 4000 in
set_option maxHeartbeats 8000000 in
theorem roflarge_any (neg : Bool) (V : Nat) (w : World) (hV : V < 256 ^ 4096) (hn : neg = true → V ≠ 0) :
    Calls Tryz.prog 26 #[lv neg (Pl.dgs V)] w fun e w' => e = .returned (oflv neg V) ∧ Below w.heap.size w w' := by
  have HC := Lib.hid (fun w => rcheck_any neg V w hV hn)
  have HBT := Lib.hid (fun w => rbits_any neg V w ⟨hV, hn⟩)
  obtain ⟨x, hx⟩ : ∃ x : Int, (if neg then -(V : Int) else V) = x := ⟨_, rfl⟩
  have hxa : x.natAbs = V := by rw [← hx]; split <;> omega
  have hxn : decide (x < 0) = neg := by
    cases neg
    · rw [if_neg (by simp)] at hx; exact decide_eq_false (by omega)
    · rw [if_pos rfl] at hx; have := hn rfl; exact decide_eq_true (by omega)
  have HWH := Lib.hid (fun w => rwhole_any x w)
  rw [hxa] at HWH
  have HOF : Hid (∀ w, Calls Tryz.prog 58 #[.int .i64 1] w fun e w' => e = .returned (lof ((1 : Nat) : Int)) ∧ Below w.heap.size w w') := Lib.hid (fun w => rof_any 1 w (by omega) (by omega))
  have HRD0 := Lib.hid (fun (h : Pl.nb V ≤ 1100) w => rround_any neg V 1 w (by omega) (by decide) (by decide))
  have HGR := Lib.hid (@nb_great V)
  obtain ⟨R, hR⟩ : ∃ R, Fl.rung (V * 2 ^ Fl.E74) 1 = R := ⟨_, rfl⟩
  have hRl : R ≤ 9218868437227405312 := by rw [← hR]; exact Fl.rung_le _ _
  have HV := Lib.hid (show oflv neg V = if R = 9218868437227405312 then .tuple #[.int .u64 0, .int .i64 101] else .tuple #[.int .u64 (Fl.D.word neg R : Nat), .int .i64 0] by unfold oflv; rw [hR])
  rw [hR] at HRD0 HGR
  have HKW := Lib.hid (kind_word neg hRl)
  have HKI := Lib.hid (fun w => rkind_any (Fl.D.word neg R) w (Fl.word_mod neg (by omega)).2.2)
  obtain ⟨FV, hFV⟩ : ∃ FV, oflv neg V = FV := ⟨_, rfl⟩
  have HFV := Lib.hid (hFV.symm.trans HV.out)
  rw [hFV]
  unfold LofOk at HWH
  unfold U64Ok at HRD0
  simp only [lofn] at HWH HOF HRD0
  simp only [lof_is, hxa, hxn] at HWH
  unfold lv at *
  obtain ⟨n, hnb⟩ : ∃ n, Pl.nb V = n := ⟨_, rfl⟩
  rw [hnb] at HBT HRD0 HGR
  generalize bs (Pl.dgs V) = sV at *
  generalize bs (Pl.dgs 1) = so at *
  obtain ⟨x9, hx9⟩ : ∃ x9, Fl.D.word neg R = x9 := ⟨_, rfl⟩
  rw [hx9] at HRD0 HKW HKI HFV
  obtain ⟨kk, hkk⟩ : ∃ kk, Fl.kind x9 = kk := ⟨_, rfl⟩
  rw [hkk] at HKW HKI
  clear hV hn hx hxa hxn hR HV hFV hnb hx9 hkk
  rcases Nat.lt_or_ge 1100 n with hg | hg
  · have hb1 : decide (1100 < (n : Int)) = true := decide_eq_true (by omega)
    have HQ := Lib.hid (show FV = .tuple #[.int .u64 0, .int .i64 101] by rw [HFV.out, if_pos (HGR.out hg)])
    clear hg HRD0 hRl
    go_enter Tryz.func26, Tryz.ntmps26
    go_wp2_with fail
    refine (HC.out _).mono ?_
    rintro e w1 ⟨rfl, hb1'⟩
    have L1 := Lib.hid ((Lg.new w neg sV).below hb1')
    have HB1 := Lib.hid (chain ((Below.refl w.heap.size w).alloc (Nat.le_refl _) _) hb1')
    clear hb1'
    obtain ⟨p0, p1, _, _⟩ := L1.out.cells
    go_wp2_with fail
    refine (HBT.out _).mono ?_
    rintro e w2 ⟨rfl, hb2⟩
    go_wp2_with fail
    go_ret2
    exact ⟨by rw [HQ.out]; rfl, chain HB1.out hb2⟩
  · have hb1 : decide (1100 < (n : Int)) = false := decide_eq_false (by omega)
    have HRD := Lib.hid (HRD0.out hg)
    have hcase : (kk = 2 ∧ FV = .tuple #[.int .u64 0, .int .i64 101]) ∨ (kk ≠ 2 ∧ FV = .tuple #[.int .u64 (x9 : Nat), .int .i64 0]) := by
      have h1 := HKW.out
      have h2 := HFV.out
      by_cases hi : R = 9218868437227405312
      · left
        rw [if_pos hi] at h2
        rw [if_neg (by omega), if_neg (by omega), if_pos hi] at h1
        exact ⟨h1, h2⟩
      · right
        rw [if_neg hi] at h2
        refine ⟨?_, h2⟩
        rw [h1]
        split
        · omega
        · rw [if_pos (by omega)]; omega
    clear hg hRl HRD0 HGR
    rcases hcase with ⟨h2, hv⟩ | ⟨h2, hv⟩
    case' inl => have hb2 : ((kk : Int) == 2) = true := by rw [beq_iff_eq]; omega
    case' inr => have hb2 : ((kk : Int) == 2) = false := by rw [beq_eq_false_iff_ne]; omega
    all_goals
      have HQ := Lib.hid hv
      clear h2 hv
      go_enter Tryz.func26, Tryz.ntmps26
      go_wp2_with fail
      refine (HC.out _).mono ?_
      rintro e w1 ⟨rfl, hb1'⟩
      have L1 := Lib.hid ((Lg.new w neg sV).below hb1')
      have HB1 := Lib.hid (chain ((Below.refl w.heap.size w).alloc (Nat.le_refl _) _) hb1')
      clear hb1'
      obtain ⟨p0, p1, _, _⟩ := L1.out.cells
      go_wp2_with fail
      refine (HBT.out _).mono ?_
      rintro e w4 ⟨rfl, hb2'⟩
      have L2 := Lib.hid (L1.out.below hb2')
      have HB2 := Lib.hid (chain HB1.out hb2')
      clear hb2' p0 p1
      obtain ⟨p0, p1, _, _⟩ := L2.out.cells
      go_wp2_with fail
      have BD := Lib.hid (show Below w4.heap.size w4 w4.drew from (Below.refl _ _).drew)
      have HKC := Lib.hid (fun (W : World) (hb : Below w4.heap.size w4 W) => show W.cell? ⟨w.heap.size, 0, none⟩ = some (.bool neg) ∧ W.cell? ⟨w.heap.size, 1, none⟩ = some (.string sV) from ⟨(L2.out.below hb).cells.1, (L2.out.below hb).cells.2.1⟩)
      go_region_held3 (fun W => W.cell? ⟨w.heap.size, 0, none⟩ = some (.bool neg) ∧ W.cell? ⟨w.heap.size, 1, none⟩ = some (.string sV)) (first | exact ⟨p0, p1⟩ | exact HKC.out _ BD.out | exact HKC.out _ hB6 | exact HKC.out _ hB7 | exact HKC.out _ hB8) (first
        | (go_at_call 60; (with_reducible refine (HWH.out _).mono ?_); rintro e w9 ⟨rfl, hb9⟩; (first | (have hB7 : Below w4.heap.size w4 w9 := chain hB6 hb9) | (have hB6 : Below w4.heap.size w4 w9 := chain BD.out hb9)); clear hb9)
        | (go_at_call 58; (with_reducible refine (HOF.out _).mono ?_); rintro e w9 ⟨rfl, hb9⟩; (first | (have hB7 : Below w4.heap.size w4 w9 := chain hB6 hb9) | (have hB6 : Below w4.heap.size w4 w9 := chain BD.out hb9)); clear hb9)
        | (go_at_call 59; (with_reducible refine (HRD.out _).mono ?_); rintro e w9 ⟨rfl, hb9⟩; (have hB8 : Below w4.heap.size w4 w9 := chain hB7 hb9); clear hb9))
      all_goals
        go_wp2_with fail
        refine (HKI.out _).mono ?_
        rintro e w9 ⟨rfl, rfl⟩
        go_wp2_with fail
        go_ret2
        exact ⟨by rw [HQ.out]; rfl, chain HB2.out hB8⟩
end Go.Proofs.YtgdohmaljbggjaaGreatDoor
namespace Go.Proofs.YtgdohmaljbggjaaGreatDoor.Fl
open Ieee
theorem cutI_tdiv (x : Int) : cutI x = x.tdiv ((2 ^ E74 : Nat) : Int) := by
  rw [tdiv_sign, Int.natAbs_natCast, show decide (((2 ^ E74 : Nat) : Int) < 0) = false from decide_eq_false (Int.not_lt.2 (Int.natCast_nonneg _))]
  unfold cutI
  by_cases h : x < 0
  · rw [if_pos h, decide_eq_true h]; rfl
  · rw [if_neg h, decide_eq_false h]; rfl
theorem restI_tmod (x : Int) : restI x = x.tmod ((2 ^ E74 : Nat) : Int) := by
  obtain ⟨h1, h2, h3⟩ := restI_abs x
  rw [tmod_sign, Int.natAbs_natCast]
  generalize x.natAbs % 2 ^ E74 = r at *
  generalize restI x = y at *
  by_cases h : x < 0
  · rw [if_pos (by simpa using h)]; have := h3 (by omega); omega
  · rw [if_neg (by simpa using h)]; have := h2 (by omega); omega
theorem ffr_word {a : Nat} {x : Int} (h : Is a x) : ffr a = D.word (decide (restI x < 0)) (rung (restI x).natAbs 1) := by
  have ht := is_trunc h
  have hd := fsub_rung h.fin ht.fin
  rw [is_V h, is_V ht] at hd
  obtain ⟨d, h1, h2⟩ := sub_trunc h
  have e : d = D.word (if restI x = 0 then (sg a && !sg (ftrunc a)) else decide (restI x < 0)) (rung (restI x).natAbs 1) := Option.some.inj (h1.symm.trans hd)
  rw [ffr_is h1]
  by_cases h0 : restI x = 0
  · rw [if_pos ((order_eq_zero h2).2 h0), h0]
    rw [show decide ((0 : Int) < 0) = false by decide, Int.natAbs_zero, rung_zero]
    rfl
  · rw [if_neg (fun h3 => h0 ((order_eq_zero h2).1 h3)), e, if_neg h0, told_word]
end Go.Proofs.YtgdohmaljbggjaaGreatDoor.Fl
namespace Go.Proofs.YtgdohmaljbggjaaGreatDoor
open Go.RowKit Go.Lib
set_option maxRecDepth 4000 in
set_option maxHeartbeats 4000000 in
theorem rtrunc_none (a : Nat) (w : World) (ha : a < 18446744073709551616) (hk : 1 < Fl.kind a) :
    Calls Tryz.prog 28 #[.int .u64 a] w fun e w' => e = .returned (.tuple #[.agg #[.bool false, .string ⟨#[]⟩], .int .i64 101]) ∧ Below w.heap.size w w' := by
  have HKI := Lib.hid (fun w => rkind_any a w ha)
  obtain ⟨kk, hkk⟩ : ∃ kk, Fl.kind a = kk := ⟨_, rfl⟩
  rw [hkk] at HKI hk
  have hb : decide (1 < (kk : Int)) = true := decide_eq_true (by omega)
  clear hk hkk
  go_enter Tryz.func28, Tryz.ntmps28
  go_wp2_with fail
  refine (HKI.out _).mono ?_
  rintro e w1 ⟨rfl, rfl⟩
  go_wp2_with fail
  refine bodyPost_ret (v := .tuple #[.agg #[.bool false, .string ⟨#[]⟩], .int .i64 101]) (by simp [results, Tryz.results28, go_sem]) rfl ⟨rfl, (Below.refl _ _).alloc (Nat.le_refl _) _⟩
set_option maxRecDepth 4000 in
set_option maxHeartbeats 4000000 in
theorem rtrunc_any (a : Nat) (w : World) (ha : a < 18446744073709551616) (hk : Fl.kind a ≤ 1) :
    Calls Tryz.prog 28 #[.int .u64 a] w fun e w' => e = .returned (.tuple #[lof (Fl.cutI (Fl.V a)), .int .i64 0]) ∧ Below w.heap.size w w' := by
  have HKI := Lib.hid (fun w => rkind_any a w ha)
  have HEX := Lib.hid (fun w => rexact_any a w ha hk)
  have HUN := Lib.hid (fun w => runit_any w)
  have HQU := Lib.hid (fun w => rquo_any (Fl.V a) ((2 ^ Fl.E74 : Nat) : Int) w (by have := nb_V ha hk; omega) (by rw [nb_nat]; have := Fl.E74_is; have := nb_E Fl.E74; omega) (by have := Nat.two_pow_pos Fl.E74; omega))
  rw [← Fl.cutI_tdiv] at HQU
  obtain ⟨kk, hkk⟩ : ∃ kk, Fl.kind a = kk := ⟨_, rfl⟩
  rw [hkk] at HKI hk
  have hb : decide (1 < (kk : Int)) = false := decide_eq_false (by omega)
  unfold LofOk at *
  simp only [lof_is] at *
  generalize bs (Pl.dgs (Fl.V a).natAbs) = sa at *
  generalize decide (Fl.V a < 0) = na at *
  generalize bs (Pl.dgs ((2 ^ Fl.E74 : Nat) : Int).natAbs) = su at *
  generalize decide (((2 ^ Fl.E74 : Nat) : Int) < 0) = nu at *
  generalize bs (Pl.dgs (Fl.cutI (Fl.V a)).natAbs) = sc at *
  generalize decide (Fl.cutI (Fl.V a) < 0) = nc at *
  generalize bs (Pl.dgs ((Fl.V a).tmod ((2 ^ Fl.E74 : Nat) : Int)).natAbs) = sr at *
  generalize decide ((Fl.V a).tmod ((2 ^ Fl.E74 : Nat) : Int) < 0) = nr at *
  clear hk hkk
  go_enter Tryz.func28, Tryz.ntmps28
  go_wp2_with fail
  refine (HKI.out _).mono ?_
  rintro e w1 ⟨rfl, rfl⟩
  go_wp2_with fail
  refine (HEX.out _).mono ?_
  rintro e w1 ⟨rfl, hb1⟩
  have L2 := Lib.hid ((Lg.new w false ⟨#[]⟩).below hb1)
  have HB1 := Lib.hid (chain ((Below.refl w.heap.size w).alloc (Nat.le_refl _) _) hb1)
  clear hb1
  go_wp2_with fail
  refine (HUN.out _).mono ?_
  rintro e w2 ⟨rfl, hb1⟩
  have L2b := Lib.hid (L2.out.below hb1)
  have HB2 := Lib.hid (chain HB1.out hb1)
  clear hb1
  go_wp2_with fail
  refine (HQU.out _).mono ?_
  rintro e w3 ⟨rfl, hb1⟩
  have L2c := Lib.hid (((L2b.out.below hb1).alloc (.cells #[.bool nc, .string sc] 42)).alloc (.cells #[.bool nr, .string sr] 42))
  have hb2 := chain HB2.out hb1
  have HB3 := Lib.hid ((hb2.alloc hb2.size (.cells #[.bool nc, .string sc] 42)).alloc (Nat.le_trans hb2.size (by simp)) (.cells #[.bool nr, .string sr] 42))
  clear hb1 hb2
  obtain ⟨p0, p1, q0, q1⟩ := L2c.out.cells
  go_wp2_with fail
  obtain ⟨k0, k1, kB⟩ := L2c.out.fin HB3.out (Nat.le_refl _) nc sc
  exact bodyPost_ret (v := .tuple #[.agg #[.bool nc, .string sc], .int .i64 0]) (by simp [results, Tryz.results28, go_sem, k0, k1]) rfl ⟨rfl, kB⟩
set_option maxRecDepth 4000 in
set_option maxHeartbeats 4000000 in
theorem rfrac_none (a : Nat) (w : World) (ha : a < 18446744073709551616) (hk : 1 < Fl.kind a) :
    Calls Tryz.prog 30 #[.int .u64 a] w (U64Ok w 9221120237041090560) := by
  have HKI := Lib.hid (fun w => rkind_any a w ha)
  obtain ⟨kk, hkk⟩ : ∃ kk, Fl.kind a = kk := ⟨_, rfl⟩
  rw [hkk] at HKI hk
  have hb : decide (1 < (kk : Int)) = true := decide_eq_true (by omega)
  unfold U64Ok
  clear hk hkk
  go_enter Tryz.func30, Tryz.ntmps30
  go_wp2_with fail
  refine (HKI.out _).mono ?_
  rintro e w1 ⟨rfl, rfl⟩
  go_wp2_with fail
  go_ret
  exact ⟨rfl, Below.refl _ _⟩
set_option maxRecDepth 4000 in
set_option maxHeartbeats 8000000 in
theorem rfrac_any (a : Nat) (w : World) (ha : a < 18446744073709551616) (hk : Fl.kind a ≤ 1) :
    Calls Tryz.prog 30 #[.int .u64 a] w (U64Ok w (Fl.ffr a)) := by
  have HKI := Lib.hid (fun w => rkind_any a w ha)
  have HEX := Lib.hid (fun w => rexact_any a w ha hk)
  have HUN := Lib.hid (fun w => runit_any w)
  have hnb := nb_V ha hk
  have HQU := Lib.hid (fun w => rquo_any (Fl.V a) ((2 ^ Fl.E74 : Nat) : Int) w (by omega) (by rw [nb_nat]; have := Fl.E74_is; have := nb_E Fl.E74; omega) (by have := Nat.two_pow_pos Fl.E74; omega))
  rw [← Fl.restI_tmod] at HQU
  have hR := Fl.ffr_word (a := a) (x := Fl.V a) ⟨ha, Fl.kind_fin hk, rfl⟩
  have hra := (Fl.restI_abs (Fl.V a)).1
  have hnr : Pl.nb (Fl.restI (Fl.V a)).natAbs ≤ 2098 := by rw [hra]; have := nb_mod (Fl.V a).natAbs (2 ^ Fl.E74); omega
  obtain ⟨r, hr⟩ : ∃ r, Fl.restI (Fl.V a) = r := ⟨_, rfl⟩
  rw [hr] at HQU hR hnr
  have HWH := Lib.hid (fun w => rwhole_any r w)
  have HRD := Lib.hid (fun w => rround_any (decide (r < 0)) r.natAbs (2 ^ Fl.E74) w (by omega) (by have := Fl.E74_is; have := nb_E Fl.E74; omega) (by have := Nat.two_pow_pos Fl.E74; omega))
  have hsc := Fl.rung_scale r.natAbs 1 (Nat.two_pow_pos Fl.E74)
  rw [Nat.one_mul] at hsc
  rw [hsc, ← hR] at HRD
  obtain ⟨kk, hkk⟩ : ∃ kk, Fl.kind a = kk := ⟨_, rfl⟩
  rw [hkk] at HKI hk
  have hb : decide (1 < (kk : Int)) = false := decide_eq_false (by omega)
  unfold LofOk at *
  unfold U64Ok at *
  simp only [lofn] at HRD HWH HUN HQU
  simp only [lof_is] at HEX HQU HWH
  generalize bs (Pl.dgs (Fl.V a).natAbs) = sa at *
  generalize decide (Fl.V a < 0) = na at *
  generalize bs (Pl.dgs (2 ^ Fl.E74)) = su at *
  generalize bs (Pl.dgs r.natAbs) = sr at *
  generalize decide (r < 0) = nr at *
  generalize bs (Pl.dgs ((Fl.V a).tdiv ((2 ^ Fl.E74 : Nat) : Int)).natAbs) = sc at *
  generalize decide ((Fl.V a).tdiv ((2 ^ Fl.E74 : Nat) : Int) < 0) = nc at *
  generalize Fl.ffr a = res at *
  clear hk hkk hnb hR hra hnr hr hsc
  go_enter Tryz.func30, Tryz.ntmps30
  go_wp2_with fail
  refine (HKI.out _).mono ?_
  rintro e w1 ⟨rfl, rfl⟩
  go_wp2_with fail
  refine (HEX.out _).mono ?_
  rintro e w1 ⟨rfl, hb1⟩
  have HB1 := Lib.hid hb1
  clear hb1
  go_wp2_with fail
  refine (HUN.out _).mono ?_
  rintro e w2 ⟨rfl, hb1⟩
  have HB2 := Lib.hid (chain HB1.out hb1)
  clear hb1
  go_wp2_with fail
  refine (HQU.out _).mono ?_
  rintro e w3 ⟨rfl, hb1⟩
  have hb2 := chain HB2.out hb1
  have L4 := Lib.hid (Lg.at (w := w3.alloc (.cells #[.bool nc, .string sc] 42)) (neg := nr) (s := sr) (k := w3.heap.size + 1) (by simp))
  have HB3 := Lib.hid ((hb2.alloc hb2.size (.cells #[.bool nc, .string sc] 42)).alloc (Nat.le_trans hb2.size (by simp)) (.cells #[.bool nr, .string sr] 42))
  clear hb1 hb2
  go_wp2_with fail
  generalize (w3.alloc (.cells #[.bool nc, .string sc] 42)).alloc (.cells #[.bool nr, .string sr] 42) = w4 at L4 HB3 ⊢
  obtain ⟨p0, p1, _, _⟩ := L4.out.cells
  have BD := Lib.hid (show Below w4.heap.size w4 w4.drew from (Below.refl _ _).drew)
  have HKC := Lib.hid (fun (W : World) (hb : Below w4.heap.size w4 W) => show W.cell? ⟨w3.heap.size + 1, 0, none⟩ = some (.bool nr) ∧ W.cell? ⟨w3.heap.size + 1, 1, none⟩ = some (.string sr) from ⟨(L4.out.below hb).cells.1, (L4.out.below hb).cells.2.1⟩)
  go_region_held3 (fun W => W.cell? ⟨w3.heap.size + 1, 0, none⟩ = some (.bool nr) ∧ W.cell? ⟨w3.heap.size + 1, 1, none⟩ = some (.string sr)) (first | exact ⟨p0, p1⟩ | exact HKC.out _ BD.out | exact HKC.out _ hB6 | exact HKC.out _ hB7 | exact HKC.out _ hB8) (first
    | (go_at_call 60; (with_reducible refine (HWH.out _).mono ?_); rintro e w9 ⟨rfl, hb9⟩; (first | (have hB7 : Below w4.heap.size w4 w9 := chain hB6 hb9) | (have hB6 : Below w4.heap.size w4 w9 := chain BD.out hb9)); clear hb9)
    | (go_at_call 72; (with_reducible refine (HUN.out _).mono ?_); rintro e w9 ⟨rfl, hb9⟩; (first | (have hB7 : Below w4.heap.size w4 w9 := chain hB6 hb9) | (have hB6 : Below w4.heap.size w4 w9 := chain BD.out hb9)); clear hb9)
    | (go_at_call 59; (with_reducible refine (HRD.out _).mono ?_); rintro e w9 ⟨rfl, hb9⟩; (have hB8 : Below w4.heap.size w4 w9 := chain hB7 hb9); clear hb9))
  all_goals
    go_wp2_with fail
    go_ret
    exact ⟨rfl, chain HB3.out hB8⟩
end Go.Proofs.YtgdohmaljbggjaaGreatDoor
namespace Go.Proofs.YtgdohmaljbggjaaGreatDoor
open Go.RowKit Go.Lib
theorem fexp_none {a : Nat} (h : Fl.kind a ≠ 1) : Fl.fexp a = none := by
  unfold Fl.fexp
  rw [if_pos]
  rcases Fl.kind_cases a with h1 | h1 | h1 | h1
  · exact .inl (Fl.kind_zero h1)
  · exact absurd h1 h
  · right; have := Fl.kind_inf h1; omega
  · right
    unfold Fl.kind at h1
    split at h1; · omega
    split at h1; · omega
    split at h1
    · omega
    · omega
theorem fexp_parts {a : Nat} (h : Fl.kind a = 1) : Fl.fexp a = some (pe a + (pm a).log2) ∧ 1 ≤ pm a := by
  have hf := Fl.kind_fin (a := a) (by omega)
  have h0 := Fl.kind_one h
  obtain ⟨r, hr⟩ : ∃ r, a % 9223372036854775808 = r := ⟨_, rfl⟩
  have e1 : a / 4503599627370496 % 2048 = r / 4503599627370496 := by omega
  have e2 : a % 4503599627370496 = r % 4503599627370496 := by omega
  unfold pm pe Fl.fexp
  rw [e1, e2, hr]
  rw [hr] at hf h0
  rw [if_neg (by omega)]
  by_cases h1 : r / 4503599627370496 = 0
  · rw [if_pos h1, if_pos h1, if_pos h1]
    rw [Nat.mod_eq_of_lt (by omega)]
    exact ⟨congrArg some (by omega), by omega⟩
  · rw [if_neg h1, if_neg h1, if_neg h1]
    have h53 : (2 : Nat) ^ (52 + 1) = 9007199254740992 := by decide
    have h52 : (2 : Nat) ^ 52 = 4503599627370496 := by decide
    have hl : (r % 4503599627370496 + 4503599627370496).log2 = 52 := Fl.log2_between (by omega) (by omega)
    rw [hl]
    exact ⟨congrArg some (by omega), by omega⟩
set_option maxHeartbeats 2000000 in
theorem rexp_any (a : Nat) (w : World) (ha : a < 18446744073709551616) :
    Calls Tryz.prog 31 #[.int .u64 a] w fun e w' => e = .returned (expv a) ∧ w = w' := by
  have HKI := Lib.hid (fun w => rkind_any a w ha)
  obtain ⟨kk, hkk⟩ : ∃ kk, Fl.kind a = kk := ⟨_, rfl⟩
  rw [hkk] at HKI
  by_cases h1 : kk = 1
  · obtain ⟨hx, hm1⟩ := fexp_parts (hkk.trans h1)
    have HV := Lib.hid (show expv a = .tuple #[.int .i64 (pe a + (pm a).log2), .int .i64 0] by unfold expv; rw [hx])
    have HP := Lib.hid (fun w => rparts_any a w ha)
    obtain ⟨_, hm, he1, he2⟩ := parts_mag (a := a) (by omega)
    have hb : ((kk : Int) != 1) = false := by simp; omega
    generalize pm a = m at *
    generalize pe a = e at *
    generalize pn a = g at *
    obtain ⟨L, hL⟩ : ∃ L, m.log2 = L := ⟨_, rfl⟩
    have hLb : L ≤ 64 := by
      have h53 : (2 : Nat) ^ 53 = 9007199254740992 := by decide
      have := (Nat.log2_lt (n := m) (k := 53) (by omega)).2 (by omega)
      omega
    rw [hL] at HV
    have HL := Lib.hid hL
    clear hx hkk h1 hL ha
    go_enter Tryz.func31, Tryz.ntmps31
    go_wp2_with fail
    refine (HKI.out _).mono ?_
    rintro e' w1 ⟨rfl, rfl⟩
    go_wp2_with fail
    refine (HP.out _).mono ?_
    rintro e' w1 ⟨rfl, rfl⟩
    go_wp2_with fail
    go_loop [5, 6] (fun x y => ∃ v k : Nat, x = .int .u64 v ∧ 1 ≤ v ∧ v < 9007199254740992 ∧ k ≤ 64 ∧ y = .int .i64 (e + k) ∧ Hid (v.log2 + k = L)) (fun x _ => (RowKit.intOf x).toNat)
    case atStart => exact ⟨m, 0, rfl, hm1, hm, by omega, by simp, Lib.hid (by rw [HL.out]; rfl)⟩
    case round =>
      obtain ⟨v, k, rfl, hv1, hv2, hk, rfl, hi⟩ := hrel
      by_cases hgt : 1 < v
      · have hb2 : decide (1 < (v : Int)) = true := decide_eq_true (by omega)
        have hlg : v.log2 = (v / 2).log2 + 1 := by
          have h3 := Fl.log2_div_pow v 1
          rw [Nat.pow_one] at h3
          rw [h3]
          have : 1 ≤ v.log2 := (Nat.le_log2 (by omega)).2 (by omega)
          omega
        have HI := Lib.hid (show (v / 2).log2 + (k + 1) = L by have := hi.out; omega)
        have hk2 : k < 64 := by have := hi.out; omega
        obtain ⟨v2, hv⟩ : ∃ v2, v / 2 = v2 := ⟨_, rfl⟩
        rw [hv] at HI
        have hvI : (v : Int) / 2 = (v2 : Int) := by omega
        have hvT : (v : Int).tdiv 2 = (v2 : Int) := by rw [Int.tdiv_eq_ediv_of_nonneg (by omega)]; omega
        have hv3 : v2 < v := by omega
        have hv4 : 1 ≤ v2 := by omega
        clear hlg hv
        go_wp2_with fail
        go_round
        case rel => exact ⟨v2, k + 1, rfl, hv4, by omega, by omega, by rw [show ((k + 1 : Nat) : Int) = (k : Int) + 1 by omega, Int.add_assoc], HI⟩
        case measure => simp [RowKit.intOf]; omega
      · obtain rfl : v = 1 := by omega
        have hkL : k = L := by
          have h2 := hi.out
          have h3 : (1 : Nat).log2 = 0 := by decide
          omega
        have HQ := Lib.hid hkL
        clear hkL
        go_wp2_with fail
        go_ret2
        exact ⟨by rw [HV.out, ← HQ.out]; rfl, rfl⟩
  · have HV := Lib.hid (show expv a = .tuple #[.int .i64 0, .int .i64 101] by unfold expv; rw [fexp_none (by omega)])
    have hb : ((kk : Int) != 1) = true := by simp; omega
    clear hkk h1
    go_enter Tryz.func31, Tryz.ntmps31
    go_wp2_with fail
    refine (HKI.out _).mono ?_
    rintro e' w1 ⟨rfl, rfl⟩
    go_wp2_with fail
    go_ret2
    exact ⟨by rw [HV.out]; rfl, rfl⟩
theorem scale_parts {a : Nat} (ha : a < 18446744073709551616) (h : Fl.kind a = 1) (n : Int) :
    Fl.fscale a n = Fl.D.word (pn a) (Fl.rung (pm a * 2 ^ (pe a + Fl.clamp n).toNat * 2 ^ Fl.E74) (2 ^ (-(pe a + Fl.clamp n)).toNat)) := by
  have hE := Fl.E74_is
  have hf := Fl.kind_fin (a := a) (by omega)
  obtain ⟨_, hm, he1, he2⟩ := parts_mag (a := a) (by omega)
  have hv := val_parts (a := a) ha (by omega)
  have hA2 : (Fl.V a).natAbs = pm a * 2 ^ (pe a + 1074).toNat := by rw [hv]; split <;> omega
  have hnan : Fl.isNan a = false := by simp only [Fl.isNan, decide_eq_false_iff_not]; omega
  obtain ⟨m, i, hr, _, hi, _, _, hA⟩ := Fl.fin_read hf
  have hc : -3000 ≤ Fl.clamp n ∧ Fl.clamp n ≤ 3000 := by unfold Fl.clamp; omega
  rw [Fl.fscale_eq n hnan, hr]
  generalize Fl.clamp n = k at *
  show Fl.D.nearest (Fl.sg a) m (i + k) = _
  rw [Fl.nearest_rung, sg_pn ha]
  refine congrArg (Fl.D.word (pn a)) ?_
  rw [hA2] at hA
  have r1 := Fl.rung_pow m 1 (x := (i + k + 1074).toNat) (y := (-(i + k + 1074)).toNat) (x' := (i + 1074).toNat + k.toNat) (y' := (-k).toNat) (by omega)
  have r2 := Fl.rung_pow (pm a) 1 (x := (pe a + k).toNat + Fl.E74) (y := (-(pe a + k)).toNat) (x' := (pe a + 1074).toNat + k.toNat) (y' := (-k).toNat) (by omega)
  simp only [Nat.one_mul] at r1 r2
  rw [r1, Nat.mul_assoc, ← Nat.pow_add, r2, Nat.pow_add, Nat.pow_add, ← Nat.mul_assoc, ← Nat.mul_assoc, hA]
set_option maxRecDepth 4000 in
set_option maxHeartbeats 4000000 in
theorem rscale_any (a : Nat) (n : Int) (w : World) (ha : a < 18446744073709551616) :
    Calls Tryz.prog 32 #[.int .u64 a, .int .i64 n] w (U64Ok w (Fl.fscale a n)) := by
  have HKI := Lib.hid (fun w => rkind_any a w ha)
  have hka := Fl.kind_cases a
  obtain ⟨kk, hkk⟩ : ∃ kk, Fl.kind a = kk := ⟨_, rfl⟩
  rw [hkk] at HKI hka
  unfold U64Ok
  rcases (show kk = 3 ∨ (kk = 0 ∨ kk = 2) ∨ kk = 1 by omega) with h | h | h
  · have HR := Lib.hid (show Fl.fscale a n = 9221120237041090560 by
      have hn := Fl.kind_nan (hkk.trans h)
      unfold Fl.fscale Fl.fldexp
      rw [hn]
      exact Fl.told_nan (by simpa using hn))
    have hb : ((kk : Int) == 3) = true := by rw [beq_iff_eq]; omega
    clear hka hkk h
    go_enter Tryz.func32, Tryz.ntmps32
    go_wp2_with fail
    refine (HKI.out _).mono ?_
    rintro e w1 ⟨rfl, rfl⟩
    go_wp2_with fail
    go_ret
    exact ⟨ret_int (by rw [HR.out]; rfl), Below.refl _ _⟩
  · have HR := Lib.hid (show Fl.fscale a n = a by
      rcases h with h | h
      · have hf := Fl.kind_fin (a := a) (by omega)
        have hnan : Fl.isNan a = false := by simp only [Fl.isNan, decide_eq_false_iff_not]; omega
        obtain ⟨m, i, hr, _⟩ := Fl.fin_read hf
        have hm := (Fl.num_zero (by omega) hr).2 (hkk.trans h)
        rw [Fl.fscale_eq n hnan, hr, hm]
        show Fl.D.nearest (Fl.sg a) 0 _ = a
        rw [Fl.nearest_rung, Nat.zero_mul, Fl.rung_zero]
        exact Fl.zero_word (hkk.trans h) ha
      · have hi := Fl.kind_inf (hkk.trans h)
        have hnan : Fl.isNan a = false := by simp only [Fl.isNan, decide_eq_false_iff_not]; omega
        rw [Fl.fscale_eq n hnan, Fl.read_inf (hkk.trans h)]
        exact Fl.inf_word (hkk.trans h) ha)
    have hb : ((kk : Int) == 3) = false := by rw [beq_eq_false_iff_ne]; omega
    have hb1 : ((kk : Int) != 1) = true := by simp; omega
    clear hka hkk h
    go_enter Tryz.func32, Tryz.ntmps32
    go_wp2_with fail
    refine (HKI.out _).mono ?_
    rintro e w1 ⟨rfl, rfl⟩
    go_wp2_with fail
    go_ret
    exact ⟨ret_int (by rw [HR.out]), Below.refl _ _⟩
  · have hb : ((kk : Int) == 3) = false := by rw [beq_eq_false_iff_ne]; omega
    have hb1 : ((kk : Int) != 1) = false := by simp; omega
    have HR := Lib.hid (scale_parts ha (hkk.trans h) n)
    have HP := Lib.hid (fun w => rparts_any a w ha)
    obtain ⟨_, hm, he1, he2⟩ := parts_mag (a := a) (by omega)
    have HO := Lib.hid (fun w => rofn_any (pm a) w (by omega))
    obtain ⟨c, hc⟩ : ∃ c, Fl.clamp n = c := ⟨_, rfl⟩
    have hcb : -3000 ≤ c ∧ c ≤ 3000 := by rw [← hc]; unfold Fl.clamp; omega
    have hc2 : max (min n 3000) (-3000) = c := hc
    rw [hc] at HR
    have HSC := Lib.hid (fun w => rscaled_any (pn a) (pm a) (pe a + c) w (by have := (Pl.nb_lt_iff (pm a) 53).1 hm; omega) (by omega) (by omega))
    rw [← HR.out] at HSC
    have hcb1 := hcb.1
    have hcb2 := hcb.2
    unfold LofOk at HO
    unfold U64Ok at HSC
    simp only [lofn] at HO HSC
    generalize bs (Pl.dgs (pm a)) = sm at *
    generalize pm a = m at *
    generalize pe a = e at *
    generalize pn a = g at *
    generalize Fl.fscale a n = r at *
    clear hka hkk h hc hcb HR
    go_enter Tryz.func32, Tryz.ntmps32
    go_wp2_with fail
    refine (HKI.out _).mono ?_
    rintro e' w1 ⟨rfl, rfl⟩
    go_wp2_with fail
    refine (HP.out _).mono ?_
    rintro e' w1 ⟨rfl, rfl⟩
    go_wp2_with fail
    refine (HO.out _).mono ?_
    rintro e' w1 ⟨rfl, hb2⟩
    go_wp2_with fail
    refine (HSC.out _).mono ?_
    rintro e' w2 ⟨rfl, hb3⟩
    go_wp2_with fail
    go_ret
    exact ⟨rfl, chain hb2 hb3⟩
end Go.Proofs.YtgdohmaljbggjaaGreatDoor
