/- The document's floats: the contracts of exact, back. The document's rounding: the contract of Round. -/
import Derived.Test.YtgdohmaljbggjaaGreatDoorFbae
namespace Go.Proofs.YtgdohmaljbggjaaGreatDoor
open Go.RowKit Go.Lib
theorem sg_pn {a : Nat} (ha : a < 18446744073709551616) : Fl.sg a = pn a := by
  unfold Fl.sg pn
  rw [Bool.eq_iff_iff, beq_iff_eq, decide_eq_true_eq]
  omega
theorem parts_mag {a : Nat} (h : Fl.kind a ≤ 1) : Fl.mag (a % 9223372036854775808) = pm a * 2 ^ (pe a + 1074).toNat ∧ pm a < 9007199254740992 ∧ -1074 ≤ pe a ∧ pe a ≤ 971 := by
  have hf := Fl.kind_fin h
  obtain ⟨r, hr⟩ : ∃ r, a % 9223372036854775808 = r := ⟨_, rfl⟩
  have e1 : a / 4503599627370496 % 2048 = r / 4503599627370496 := by omega
  have e2 : a % 4503599627370496 = r % 4503599627370496 := by omega
  unfold pm pe Fl.mag
  rw [e1, e2, hr]
  rw [hr] at hf
  by_cases h0 : r < 4503599627370496
  · rw [if_pos h0, if_pos (by omega), if_pos (by omega)]
    refine ⟨?_, by omega, by omega, by omega⟩
    rw [show ((-1074 : Int) + 1074).toNat = 0 by decide, Nat.pow_zero, Nat.mul_one, Nat.mod_eq_of_lt h0]
  · rw [if_neg h0, if_neg (by omega), if_neg (by omega)]
    refine ⟨?_, by omega, by omega, by omega⟩
    rw [show (((r / 4503599627370496 : Nat) : Int) - 1075 + 1074).toNat = r / 4503599627370496 - 1 by omega, Nat.add_comm]
theorem val_parts {a : Nat} (ha : a < 18446744073709551616) (h : Fl.kind a ≤ 1) : Fl.V a = if pn a then -((pm a * 2 ^ (pe a + 1074).toNat : Nat) : Int) else (pm a * 2 ^ (pe a + 1074).toNat : Nat) := by
  rw [Fl.val_mag (Fl.kind_fin h), (parts_mag h).1, sg_pn ha]
theorem nb_val {a : Nat} (h : Fl.kind a ≤ 1) : Pl.nb (pm a * 2 ^ (pe a + 1074).toNat) ≤ 2098 := by
  have h2 := parts_mag h
  have h3 := Pl.nb_shift (pm a) (pe a + 1074).toNat
  have h4 := (Pl.nb_lt_iff (pm a) 53).1 h2.2.1
  omega
set_option maxRecDepth 4000 in
set_option maxHeartbeats 4000000 in
theorem rexact_any (a : Nat) (w : World) (ha : a < 18446744073709551616) (hk : Fl.kind a ≤ 1) : Calls Tryz.prog 71 #[.int .u64 a] w (LofOk w (Fl.V a)) := by
  have HP := Lib.hid (fun w => rparts_any a w ha)
  obtain ⟨_, hm, he1, he2⟩ := parts_mag hk
  obtain ⟨K, hK⟩ : ∃ K : Nat, pe a + 1074 = K := ⟨(pe a + 1074).toNat, by omega⟩
  have hVal := val_parts ha hk
  have hnb := nb_val hk
  rw [show (pe a + 1074).toNat = K by omega] at hVal hnb
  have HO := Lib.hid (fun w => rofn_any (pm a) w (by omega))
  have HS := Lib.hid (fun w => rsh_any (pm a) K w (by have := (Pl.nb_lt_iff (pm a) 53).1 hm; omega) (by omega))
  obtain ⟨X, hX⟩ : ∃ X, pm a * 2 ^ K = X := ⟨_, rfl⟩
  rw [hX] at hVal hnb HS
  have hna : (Fl.V a).natAbs = X := by rw [hVal]; split <;> omega
  have hss : (bs (Pl.dgs X)).size = (Pl.dgs X).length := rfl
  have hemp := Pl.dgs_empty X
  have hlen : decide (0 < (bs (Pl.dgs X)).size) = decide (X ≠ 0) := by
    rw [hss, Bool.eq_iff_iff, decide_eq_true_eq, decide_eq_true_eq]
    by_cases h0 : X = 0
    · subst h0
      have : Pl.dgs 0 = [] := by simpa using hemp
      rw [this]; simp
    · have hl : (Pl.dgs X).length ≠ 0 := fun h => by
        rw [List.isEmpty_iff_length_eq_zero.2 h] at hemp
        exact h0 (of_decide_eq_true hemp.symm)
      constructor
      · intro _; exact h0
      · intro _; omega
  have hsgn : (pn a = true ∧ decide (X ≠ 0) = decide (Fl.V a < 0)) ∨ (pn a = false ∧ decide (Fl.V a < 0) = false) := by
    cases hp : pn a
    · right; rw [hp, if_neg (by simp)] at hVal; exact ⟨rfl, decide_eq_false (by omega)⟩
    · left; rw [hp, if_pos rfl] at hVal; refine ⟨rfl, ?_⟩; simp only [decide_eq_decide]; omega
  unfold LofOk at *
  simp only [lof_is] at *
  rw [hna]
  rw [nb_nat] at HS HO
  rw [show decide ((X : Int) < 0) = false from decide_eq_false (by omega)] at HS
  rw [show decide (((pm a : Nat) : Int) < 0) = false from decide_eq_false (by omega)] at HS HO
  rw [nb_nat] at HS
  generalize bs (Pl.dgs (pm a)) = sm at *
  generalize bs (Pl.dgs X) = sx at *
  generalize decide (Fl.V a < 0) = nv at *
  generalize decide (X ≠ 0) = nx at *
  generalize pm a = m at *
  generalize pe a = e at *
  generalize pn a = ng at *
  clear hVal hnb hX hna hss hemp hm
  have hw : IntKind.i64.wrap (K : Int) = K := IntWalk.i64_in _ (by omega)
  rcases hsgn with ⟨rfl, rfl⟩ | ⟨rfl, rfl⟩
  all_goals
    go_enter Tryz.func71, Tryz.ntmps71
    go_wp2_with fail
    refine (HP.out _).mono ?_
    rintro e w1 ⟨rfl, rfl⟩
    go_wp2_with fail
    refine (HO.out _).mono ?_
    rintro e w1 ⟨rfl, hb⟩
    have L1 := Lib.hid ((Lg.new w false ⟨#[]⟩).below hb)
    have HB1 := Lib.hid (show Below w.heap.size w w1 from chain ((Below.refl w.heap.size w).alloc (Nat.le_refl _) _) hb)
    clear hb
    go_wp2_with fail
    refine (HS.out _).mono ?_
    rintro e w2 ⟨rfl, hb⟩
    have L2 := Lib.hid (L1.out.below hb)
    have HB2 := Lib.hid (chain HB1.out hb)
    clear hb
  · have L3 := Lib.hid (L2.out.alloc (.cells #[.bool nx, .string sx] 42))
    have HB3 := Lib.hid (HB2.out.alloc HB2.out.size (.cells #[.bool nx, .string sx] 42))
    obtain ⟨r0, r1, f0, f1⟩ := L3.out.cells
    go_wp2_with fail
    obtain ⟨k0, k1, kB⟩ := L3.out.fin HB3.out (by omega) nx sx
    exact bodyPost_ret (v := .agg #[.bool nx, .string sx]) (by simp [results, Tryz.results71, go_sem, k0, k1]) rfl ⟨rfl, kB⟩
  · have L3 := Lib.hid (L2.out.alloc (.cells #[.bool false, .string sx] 42))
    have HB3 := Lib.hid (HB2.out.alloc HB2.out.size (.cells #[.bool false, .string sx] 42))
    obtain ⟨r0, r1, f0, f1⟩ := L3.out.cells
    go_wp2_with fail
    obtain ⟨k0, k1, kB⟩ := L3.out.fin HB3.out (by omega) false sx
    exact bodyPost_ret (v := .agg #[.bool false, .string sx]) (by simp [results, Tryz.results71, go_sem, k0, k1]) rfl ⟨rfl, kB⟩
set_option maxRecDepth 4000 in
set_option maxHeartbeats 4000000 in
theorem rback_any (V : Nat) (w : World) (hV : V < 18446744073709551616) : Calls Tryz.prog 106 #[lof V] w fun e w' => e = .returned (.int .u64 V) ∧ Below w.heap.size w w' := by
  have e1 : lof (V : Int) = .agg #[.bool false, .string (bs (Pl.dgs V))] := by rw [lof_is, nb_nat, decide_eq_false (by omega)]
  rw [e1]
  have hle := Pl.le_dgs V
  have hlen : (Pl.dgs V).length ≤ 8 := Pl.dgs_len (by simpa using hV)
  have hsz : (bs (Pl.dgs V)).size = (Pl.dgs V).length := rfl
  have HAT := Lib.hid (at_bs (Pl.dgs V))
  generalize bs (Pl.dgs V) = s at *
  generalize Pl.dgs V = D at *
  clear e1
  obtain ⟨n, hn⟩ : ∃ n, D.length = n := ⟨_, rfl⟩
  rw [hn] at hsz hlen
  have HN := Lib.hid hn
  have HLE := Lib.hid hle
  have HSZ := Lib.hid hsz
  have hszI : (s.size : Int) = n := by omega
  clear hn hle hsz
  go_enter Tryz.func106, Tryz.ntmps106
  go_wp2_with fail
  go_loop [3, 4] (fun x i => ∃ k : Nat, k ≤ n ∧ i = .int .i64 ((k : Int) - 1) ∧ x = .int .u64 (Pl.le (D.drop k) : Nat)) (fun _ i => ((RowKit.intOf i) + 1).toNat)
  case atStart => exact ⟨n, Nat.le_refl _, by go_num, by rw [List.drop_of_length_le (by rw [HN.out]; exact Nat.le_refl _)]; rfl⟩
  case round =>
    obtain ⟨k, hk, rfl, rfl⟩ := hrel
    cases k with
    | zero =>
      have hb0 : decide (0 ≤ ((0 : Nat) : Int) - 1) = false := by decide
      go_wp2_with fail
      go_ret
      exact ⟨ret_int (by rw [← HLE.out]), (Below.refl _ _).alloc (Nat.le_refl _) _⟩
    | succ k =>
      have hkd : k < D.length := by rw [HN.out]; omega
      have q : k < s.size := by rw [HSZ.out]; omega
      have ak : s[k]'q = D[k] := HAT.out.get hkd q (by omega)
      have hkk : ((k + 1 : Nat) : Int) - 1 = (k : Int) := by omega
      rw [hkk]
      have HD := Lib.hid (Pl.le_drop D k hkd)
      have hbd : Pl.le (D.drop k) ≤ V := by
        have h1 := Pl.le_append (D.take k) (D.drop k)
        rw [List.take_append_drop, HLE.out] at h1
        have h2 : Pl.le (D.drop k) * 1 ≤ 256 ^ (D.take k).length * Pl.le (D.drop k) := by
          rw [Nat.mul_comm]; exact Nat.mul_le_mul_right _ (Nat.pow_pos (by decide))
        omega
      obtain ⟨c, hc⟩ : ∃ c : Nat, D[k].toNat = c := ⟨_, rfl⟩
      have hcl : c < 256 := by rw [← hc]; exact UInt8.toNat_lt _
      rw [hc] at HD
      obtain ⟨y, hy⟩ : ∃ y, Pl.le (D.drop (k + 1)) = y := ⟨_, rfl⟩
      rw [hy] at HD ⊢
      have hb0 : decide (0 ≤ (k : Int)) = true := decide_eq_true (by omega)
      have hx := HD.out
      have hkn : (k : Int) < n := by omega
      have w1 : IntKind.u64.wrap ((y : Int) * 256) = (y : Int) * 256 := by rw [IntKind.wrap_u64]; omega
      have w2 : IntKind.u64.wrap ((y : Int) * 256 + (c : Int)) = (y : Int) * 256 + c := by rw [IntKind.wrap_u64]; omega
      have w3 : IntKind.u64.wrap (c : Int) = c := by rw [IntKind.wrap_u64]; omega
      have hcI : (D[k].toNat : Int) = c := by omega
      have HX := Lib.hid (show (y : Int) * 256 + c = (Pl.le (D.drop k) : Nat) by omega)
      clear hx hc hy hbd HD
      go_wp2_with fail
      go_round
      case rel => exact ⟨k, by omega, by go_num, by rw [← HX.out]⟩
      case measure => simp [RowKit.intOf]
end Go.Proofs.YtgdohmaljbggjaaGreatDoor
namespace Go.Proofs.YtgdohmaljbggjaaGreatDoor
open Go.RowKit Go.Lib
/-- What a call that answers a float's bits does. -/
def U64Ok (w : World) (x : Nat) (e : Ending) (w' : World) : Prop := e = .returned (.int .u64 (x : Nat)) ∧ Below w.heap.size w w'
theorem rsg_any (neg : Bool) (n : Nat) (w : World) (hn : n < 9223372036854775808) :
    Calls Tryz.prog 79 #[.int .u64 n, .bool neg] w fun e w' => e = .returned (.int .u64 (Fl.D.word neg n : Nat)) ∧ w = w' := by
  have h := rsigned_any n neg w hn
  rw [Fl.word_is]
  cases neg
  · simpa using h
  · rw [if_pos rfl, Nat.add_comm]
    simpa using h
theorem rsgi_any (neg : Bool) (n : Int) (w : World) (h0 : 0 ≤ n) (hn : n < 9223372036854775808) :
    Calls Tryz.prog 79 #[.int .u64 n, .bool neg] w fun e w' => e = .returned (.int .u64 (Fl.D.word neg n.toNat : Nat)) ∧ w = w' := by
  obtain ⟨k, rfl⟩ := Int.eq_ofNat_of_zero_le h0
  exact rsg_any neg k w (by omega)
theorem packed_inf {M : Nat} {e : Int} (h : M < 9007199254740992) (h2 : 971 < e) : Fl.packed M e = 9218868437227405312 := by
  have hne : ¬ M = 9007199254740992 := by omega
  unfold Fl.packed
  simp only [if_neg hne, if_pos h2]
theorem packed_low {M : Nat} {e : Int} (h2 : e ≤ 971) (h3 : M < 4503599627370496) : Fl.packed M e = M := by
  have hne : ¬ M = 9007199254740992 := by omega
  have h2' : ¬ 971 < e := by omega
  unfold Fl.packed
  simp only [if_neg hne, if_neg h2', if_pos h3]
theorem packed_mid {M : Nat} {e : Int} (h : M < 9007199254740992) (h2 : e ≤ 971) (h3 : 4503599627370496 ≤ M) : Fl.packed M e = M - 4503599627370496 + (e + 1075).toNat * 4503599627370496 := by
  have hne : ¬ M = 9007199254740992 := by omega
  have h2' : ¬ 971 < e := by omega
  have h3' : ¬ M < 4503599627370496 := by omega
  unfold Fl.packed
  simp only [if_neg hne, if_neg h2', if_neg h3']
theorem packed_top_inf {e : Int} (h2 : 971 < e + 1) : Fl.packed 9007199254740992 e = 9218868437227405312 := by
  unfold Fl.packed
  simp only [if_true, if_pos h2]
theorem packed_top {e : Int} (h2 : e + 1 ≤ 971) : Fl.packed 9007199254740992 e = (e + 1 + 1075).toNat * 4503599627370496 := by
  have h2' : ¬ 971 < e + 1 := by omega
  unfold Fl.packed
  simp only [if_true, if_neg h2', Nat.lt_irrefl, if_false, Nat.sub_self, Nat.zero_add]
/-- The document's rounding up, by cases. -/
theorem rhe_cases (x y : Nat) : (Pl.ord (x % y * 2 ^ 1) y = 1 ∧ Fl.rhe x y = x / y + 1) ∨ (Pl.ord (x % y * 2 ^ 1) y = 0 ∧ x / y % 2 = 1 ∧ Fl.rhe x y = x / y + 1) ∨ (Pl.ord (x % y * 2 ^ 1) y = 0 ∧ x / y % 2 = 0 ∧ Fl.rhe x y = x / y) ∨ (Pl.ord (x % y * 2 ^ 1) y = -1 ∧ Fl.rhe x y = x / y) := by
  unfold Pl.ord Fl.rhe
  generalize x % y = r
  generalize x / y = n
  rcases Nat.lt_trichotomy (r * 2 ^ 1) y with h | h | h
  · right; right; right
    rw [if_pos h, decide_eq_false (by omega), show (y == 2 * r) = false by rw [beq_eq_false_iff_ne]; omega]
    exact ⟨rfl, rfl⟩
  · rw [if_neg (by omega), if_neg (by omega), decide_eq_false (by omega), show (y == 2 * r) = true by rw [beq_iff_eq]; omega]
    rcases Nat.mod_two_eq_zero_or_one n with h2 | h2
    · right; right; left
      rw [h2]; exact ⟨rfl, rfl, rfl⟩
    · right; left
      rw [h2]; exact ⟨rfl, rfl, rfl⟩
  · left
    rw [if_neg (by omega), if_pos h, decide_eq_true (by omega)]
    exact ⟨rfl, rfl⟩
set_option maxRecDepth 100000 in
set_option maxHeartbeats 16000000 in
theorem rround_any (neg : Bool) (p q : Nat) (w : World) (hp : Pl.nb p ≤ 6000) (hq : Pl.nb q ≤ 6000) (hq0 : q ≠ 0) :
    Calls Tryz.prog 59 #[.bool neg, lof p, lof q] w (U64Ok w (Fl.D.word neg (Fl.rung (p * 2 ^ Fl.E74) q))) := by
  have lofn : ∀ V : Nat, lof (V : Int) = .agg #[.bool false, .string (bs (Pl.dgs V))] := fun V => by rw [lof_is, nb_nat, decide_eq_false (by omega)]
  unfold U64Ok
  have hsz : (bs (Pl.dgs p)).size = (Pl.dgs p).length := rfl
  by_cases hp0 : p = 0
  · subst hp0
    have hd0 : Pl.dgs 0 = [] := by have := Pl.dgs_empty 0; simpa using this
    have hb0 : (((bs (Pl.dgs 0)).size : Int) == 0) = true := by rw [hd0]; rfl
    have HS := Lib.hid (fun w => rsg_any neg 0 w (by omega))
    rw [Nat.zero_mul, Fl.rung_zero, lofn, lofn]
    generalize bs (Pl.dgs 0) = sp at *
    generalize bs (Pl.dgs q) = sq at *
    clear hd0 hq hp lofn hsz
    go_enter Tryz.func59, Tryz.ntmps59
    go_wp2_with fail
    refine (HS.out _).mono ?_
    rintro e w1 ⟨rfl, rfl⟩
    go_wp2_with fail
    go_ret
    exact ⟨rfl, ((Below.refl w.heap.size w).alloc (Nat.le_refl _) _).alloc (by simp) _⟩
  · have hpe : (((bs (Pl.dgs p)).size : Int) == 0) = false := by
      rw [beq_eq_false_iff_ne, hsz]
      intro h
      have h2 := Pl.dgs_empty p
      rw [List.isEmpty_iff_length_eq_zero.2 (by omega)] at h2
      exact hp0 (of_decide_eq_true h2.symm)
    have HBP : Hid (∀ w, Calls Tryz.prog 66 #[lof p] w fun e w' => e = .returned (.int .i64 (Pl.nb p : Nat)) ∧ Below w.heap.size w w') := Lib.hid (fun w => by
      have h := rbits_any false p w ⟨Pl.nb_good (by omega), by simp⟩
      rw [lofn]; exact h)
    have HBQ : Hid (∀ w, Calls Tryz.prog 66 #[lof q] w fun e w' => e = .returned (.int .i64 (Pl.nb q : Nat)) ∧ Below w.heap.size w w') := Lib.hid (fun w => by
      have h := rbits_any false q w ⟨Pl.nb_good (by omega), by simp⟩
      rw [lofn]; exact h)
    obtain ⟨e0, he0⟩ : ∃ e0, max ((Pl.nb p : Int) - Pl.nb q - 53) (-1074) = e0 := ⟨_, rfl⟩
    have HF0 := Lib.hid (Fl.full_start hp0 hq0)
    rw [he0] at HF0
    have he1 : -1074 ≤ e0 := by omega
    have he2 : e0 ≤ 6000 := by omega
    rw [lofn, lofn]
    rw [lofn] at HBP HBQ
    obtain ⟨bp, hbp⟩ : ∃ bp, Pl.nb p = bp := ⟨_, rfl⟩
    obtain ⟨bq, hbq⟩ : ∃ bq, Pl.nb q = bq := ⟨_, rfl⟩
    rw [hbp] at hp he0 HBP
    rw [hbq] at hq he0 HBQ
    have HBPE := Lib.hid hbp
    have HBQE := Lib.hid hbq
    have HQ0 := Lib.hid hq0
    have HP0 := Lib.hid hp0
    have HSP := Lib.hid (show bs (Pl.dgs p) = bs (Pl.dgs p) from rfl)
    obtain ⟨sp, hsp⟩ : ∃ sp, bs (Pl.dgs p) = sp := ⟨_, rfl⟩
    obtain ⟨sq, hsq⟩ : ∃ sq, bs (Pl.dgs q) = sq := ⟨_, rfl⟩
    rw [hsp] at hpe HBP ⊢
    rw [hsq] at HBQ ⊢
    have HSPE := Lib.hid hsp
    have HSQE := Lib.hid hsq
    clear hsp hsq hbp hbq hq0 hp0 hsz HSP
    go_enter Tryz.func59, Tryz.ntmps59
    go_wp2_with fail
    obtain ⟨W0, hW0⟩ : ∃ W0, (w.alloc (.cells #[.bool false, .string sp] 42)).alloc (.cells #[.bool false, .string sq] 42) = W0 := ⟨_, rfl⟩
    have L4 := Lib.hid ((Lg.new w false sp).alloc (.cells #[.bool false, .string sq] 42))
    have L5 := Lib.hid (Lg.at (w := w.alloc (.cells #[.bool false, .string sp] 42)) (neg := false) (s := sq) (k := w.heap.size + 1) (by simp))
    have HB0 := Lib.hid (show Below w.heap.size w ((w.alloc (.cells #[.bool false, .string sp] 42)).alloc (.cells #[.bool false, .string sq] 42)) from ((Below.refl w.heap.size w).alloc (Nat.le_refl _) _).alloc (by simp) _)
    rw [hW0] at L4 L5 HB0 ⊢
    clear hW0
    have hk4 := L4.out.lt
    have hk5 := L5.out.lt
    obtain ⟨p0, p1, _, _⟩ := L4.out.cells
    obtain ⟨p2, p3, _, _⟩ := L5.out.cells
    have BD := Lib.hid (show Below W0.heap.size W0 W0.drew from (Below.refl _ _).drew)
    have HKC := Lib.hid (fun (W : World) (hb : Below W0.heap.size W0 W) => show W.cell? ⟨w.heap.size, 0, none⟩ = some (.bool false) ∧ W.cell? ⟨w.heap.size, 1, none⟩ = some (.string sp) ∧ W.cell? ⟨w.heap.size + 1, 0, none⟩ = some (.bool false) ∧ W.cell? ⟨w.heap.size + 1, 1, none⟩ = some (.string sq) from ⟨(L4.out.below hb).cells.1, (L4.out.below hb).cells.2.1, (L5.out.below hb).cells.1, (L5.out.below hb).cells.2.1⟩)
    go_region_held3 (fun W => W.cell? ⟨w.heap.size, 0, none⟩ = some (.bool false) ∧ W.cell? ⟨w.heap.size, 1, none⟩ = some (.string sp) ∧ W.cell? ⟨w.heap.size + 1, 0, none⟩ = some (.bool false) ∧ W.cell? ⟨w.heap.size + 1, 1, none⟩ = some (.string sq)) (first | exact ⟨p0, p1, p2, p3⟩ | exact HKC.out _ BD.out | exact HKC.out _ hB6 | exact HKC.out _ hB5) (first
      | (go_at_call 66; (with_reducible refine (HBP.out _).mono ?_); rintro e w4 ⟨rfl, hb⟩; (first | (have hB6 : Below W0.heap.size W0 w4 := chain hB5 hb) | (have hB5 : Below W0.heap.size W0 w4 := chain BD.out hb)); clear hb)
      | (go_at_call 66; (with_reducible refine (HBQ.out _).mono ?_); rintro e w4 ⟨rfl, hb⟩; (first | (have hB6 : Below W0.heap.size W0 w4 := chain hB5 hb) | (have hB5 : Below W0.heap.size W0 w4 := chain BD.out hb)); clear hb))
    all_goals
      go_wp2_with fail
      rw [he0]
      have HBS := Lib.hid hB6
      have HX : Hid (∀ e : Int, -1074 ≤ e → e ≤ 6000 → ∃ X Y : Nat, X = Fl.top p e ∧ Y = Fl.bot q e ∧ Pl.nb X ≤ 12000 ∧ Pl.nb Y ≤ 12000 ∧ Y ≠ 0) := Lib.hid (fun e h1 h2 => by
        refine ⟨_, _, rfl, rfl, ?_, ?_, ?_⟩
        · have h := Pl.nb_shift p (-e).toNat
          have := HBPE.out
          unfold Fl.top; omega
        · have h := Pl.nb_shift q e.toNat
          have := HBQE.out
          unfold Fl.bot; omega
        · exact Nat.mul_ne_zero HQ0.out (by have := Nat.two_pow_pos e.toNat; omega))
      have HPB : Hid (∀ e : Int, 53 < Pl.nb (Fl.top p e / Fl.bot q e) → e < 6000) := Lib.hid (fun e h => by
        have := Fl.power_bound (N := 6000) (by rw [HBPE.out]; exact hp) HQ0.out h
        omega)
      go_loopw [7] (fun s wr => ∃ e : Int, s = .int .i64 e ∧ -1074 ≤ e ∧ e ≤ 6000 ∧ Hid (Fl.Full p q e) ∧ Hid (Below W0.heap.size W0 wr)) (fun s _ => (6000 - RowKit.intOf s).toNat)
      case atStart => exact ⟨e0, rfl, he1, he2, HF0, HBS⟩
      case round =>
        obtain ⟨e, rfl, h1, h2, hf, HB⟩ := hrel
        obtain ⟨X, Y, hX, hY, n1, n2, n3⟩ := HX.out e h1 h2
        have HS8 : Hid (0 ≤ -e → ∀ w, Calls Tryz.prog 81 #[.agg #[.bool false, .string sp], .int .i64 (-e)] w fun e w' => e = .returned (.agg #[.bool false, .string (bs (Pl.dgs X))]) ∧ Below w.heap.size w w') := Lib.hid (fun h w => by
          have h2 := rsh_any p (-e).toNat w (by rw [HBPE.out]; omega) (by omega)
          rw [Int.toNat_of_nonneg h, lofn, HSPE.out] at h2
          unfold LofOk at h2
          rw [lofn, show p * 2 ^ (-e).toNat = X from hX.symm] at h2
          exact h2)
        have HS9 : Hid (0 ≤ e → ∀ w, Calls Tryz.prog 81 #[.agg #[.bool false, .string sq], .int .i64 e] w fun e w' => e = .returned (.agg #[.bool false, .string (bs (Pl.dgs Y))]) ∧ Below w.heap.size w w') := Lib.hid (fun h w => by
          have h2 := rsh_any q e.toNat w (by rw [HBQE.out]; omega) (by omega)
          rw [Int.toNat_of_nonneg h, lofn, HSQE.out] at h2
          unfold LofOk at h2
          rw [lofn, show q * 2 ^ e.toNat = Y from hY.symm] at h2
          exact h2)
        have HXE := Lib.hid (show 0 ≤ e → bs (Pl.dgs X) = sp from fun h => by rw [hX, ← HSPE.out]; unfold Fl.top; rw [show (-e).toNat = 0 by omega, Nat.pow_zero, Nat.mul_one])
        have HYE := Lib.hid (show e < 0 → bs (Pl.dgs Y) = sq from fun h => by rw [hY, ← HSQE.out]; unfold Fl.bot; rw [show e.toNat = 0 by omega, Nat.pow_zero, Nat.mul_one])
        obtain ⟨N, hN⟩ : ∃ N, X / Y = N := ⟨_, rfl⟩
        obtain ⟨R, hR⟩ : ∃ R, X % Y = R := ⟨_, rfl⟩
        have HQU : Hid (∀ w, Calls Tryz.prog 70 #[.agg #[.bool false, .string (bs (Pl.dgs X))], .agg #[.bool false, .string (bs (Pl.dgs Y))]] w fun e w' => e = .returned (.tuple #[.agg #[.bool false, .string (bs (Pl.dgs N))], .agg #[.bool false, .string (bs (Pl.dgs R))], .int .i64 0]) ∧ Below w.heap.size w w') := Lib.hid (fun w => by
          have h2 := rquo_any X Y w (by rw [nb_nat]; omega) (by rw [nb_nat]; omega) (by omega)
          rw [← Int.ofNat_tdiv, ← Int.ofNat_tmod, hN, hR, lofn, lofn, lofn, lofn] at h2
          exact h2)
        have hNb : Pl.nb N ≤ 12000 := by have := nb_div X Y; rw [hN] at this; omega
        have hRb : Pl.nb R ≤ 12000 := by have := nb_mod X Y; rw [hR] at this; omega
        have HBN : Hid (∀ w, Calls Tryz.prog 66 #[.agg #[.bool false, .string (bs (Pl.dgs N))]] w fun e w' => e = .returned (.int .i64 (Pl.nb N : Nat)) ∧ Below w.heap.size w w') := Lib.hid (fun w => rbits_any false N w ⟨Pl.nb_good (by omega), by simp⟩)
        have HBK : Hid (N < 18446744073709551616 → ∀ w, Calls Tryz.prog 106 #[.agg #[.bool false, .string (bs (Pl.dgs N))]] w fun e w' => e = .returned (.int .u64 (N : Nat)) ∧ Below w.heap.size w w') := Lib.hid (fun h w => by
          have h2 := rback_any N w h
          rw [lofn] at h2
          exact h2)
        have HST : Hid (∀ w, Calls Tryz.prog 81 #[.agg #[.bool false, .string (bs (Pl.dgs R))], .int .i64 1] w fun e w' => e = .returned (.agg #[.bool false, .string (bs (Pl.dgs (R * 2 ^ 1)))]) ∧ Below w.heap.size w w') := Lib.hid (fun w => by
          have h2 := rsh_any R 1 w (by omega) (by omega)
          unfold LofOk at h2
          rw [lofn, lofn] at h2
          exact h2)
        have HCM : Hid (∀ w, Calls Tryz.prog 82 #[.agg #[.bool false, .string (bs (Pl.dgs (R * 2 ^ 1)))], .agg #[.bool false, .string (bs (Pl.dgs Y))]] w fun e w' => e = .returned (.tuple #[.int .i64 (Pl.ord (R * 2 ^ 1) Y), .int .i64 0]) ∧ Below w.heap.size w w') := Lib.hid (fun w => rcmpl_any _ _ w (Pl.nb_good (by have := Pl.nb_shift R 1; omega)) (Pl.nb_good (by omega)))
        have HRC := Lib.hid (rhe_cases X Y)
        rw [hN, hR] at HRC
        have HN := Lib.hid hN
        have HXD := Lib.hid hX
        have HYD := Lib.hid hY
        generalize bs (Pl.dgs X) = sX at *
        generalize bs (Pl.dgs Y) = sY at *
        generalize bs (Pl.dgs N) = sN at *
        generalize bs (Pl.dgs R) = sR at *
        generalize bs (Pl.dgs (R * 2 ^ 1)) = sT at *
        have L4r := Lib.hid (L4.out.below HB.out)
        have L5r := Lib.hid (L5.out.below HB.out)
        obtain ⟨p0, p1, _, _⟩ := L4r.out.cells
        obtain ⟨p2, p3, _, _⟩ := L5r.out.cells
        have hs := HB.out.size
        have q4 : ∀ o o2, ((wr.alloc o).alloc o2).cell? ⟨w.heap.size, 0, none⟩ = some (.bool false) ∧ ((wr.alloc o).alloc o2).cell? ⟨w.heap.size, 1, none⟩ = some (.string sp) := fun o o2 => ⟨((L4r.out.alloc o).alloc o2).cells.1, ((L4r.out.alloc o).alloc o2).cells.2.1⟩
        have q5 : ∀ o, (wr.alloc o).cell? ⟨w.heap.size + 1, 0, none⟩ = some (.bool false) ∧ (wr.alloc o).cell? ⟨w.heap.size + 1, 1, none⟩ = some (.string sq) := fun o => ⟨(L5r.out.alloc o).cells.1, (L5r.out.alloc o).cells.2.1⟩
        have q6 : ∀ o o2, ((wr.alloc o).alloc o2).cell? ⟨w.heap.size + 1, 0, none⟩ = some (.bool false) ∧ ((wr.alloc o).alloc o2).cell? ⟨w.heap.size + 1, 1, none⟩ = some (.string sq) := fun o o2 => ⟨((L5r.out.alloc o).alloc o2).cells.1, ((L5r.out.alloc o).alloc o2).cells.2.1⟩
        clear hX hY hN hR hRb
        rcases Int.lt_or_le e 0 with hneg | hneg
        case' inl =>
          have hb0 : decide (e < 0) = true := decide_eq_true hneg
          have HS := Lib.hid (HS8.out (by omega))
          obtain rfl := HYE.out hneg
          go_wp2_with fail
          refine (HS.out _).mono ?_
          rintro e5 w5 ⟨rfl, hb⟩
          have l8 := ((Lg.new wr false sp).alloc (.cells #[.bool false, .string sY] 42)).below hb
          have l9 := (Lg.at (w := wr.alloc (.cells #[.bool false, .string sp] 42)) (neg := false) (s := sY) (k := wr.heap.size + 1) (by simp)).below hb
          have hb5 : Below W0.heap.size W0 w5 := chain ((HB.out.alloc hs _).alloc (by simp; omega) _) hb
          have L8 := Lib.hid (l8.set false sX)
          have L9 := Lib.hid (l9.both l8 (by omega) (.bool false) (.string sX))
          have HB6 := Lib.hid (show Below W0.heap.size W0 ((w5.setCell ⟨wr.heap.size, 0, none⟩ (.bool false)).setCell ⟨wr.heap.size, 1, none⟩ (.string sX)) from (hb5.setCell (p := ⟨wr.heap.size, 0, none⟩) (by exact hs) _).setCell (p := ⟨wr.heap.size, 1, none⟩) (by exact hs) _)
          obtain ⟨r0, r1, f0, f1⟩ := l8.cells
          obtain ⟨y0, y1, _, _⟩ := L8.out.cells
          obtain ⟨y2, y3, _, _⟩ := L9.out.cells
          clear l8 l9 hb5 hb
          go_wp2_with fail
          generalize (w5.setCell ⟨wr.heap.size, 0, none⟩ (.bool false)).setCell ⟨wr.heap.size, 1, none⟩ (.string sX) = w6 at *
        case' inr =>
          have hb0 : decide (e < 0) = false := decide_eq_false (by omega)
          have HS := Lib.hid (HS9.out hneg)
          obtain rfl := HXE.out hneg
          go_wp2_with fail
          refine (HS.out _).mono ?_
          rintro e5 w5 ⟨rfl, hb⟩
          have l8 := ((Lg.new wr false sX).alloc (.cells #[.bool false, .string sq] 42)).below hb
          have l9 := (Lg.at (w := wr.alloc (.cells #[.bool false, .string sX] 42)) (neg := false) (s := sq) (k := wr.heap.size + 1) (by simp)).below hb
          have hb5 : Below W0.heap.size W0 w5 := chain ((HB.out.alloc hs _).alloc (by simp; omega) _) hb
          have L8 := Lib.hid (l8.both l9 (by omega) (.bool false) (.string sY))
          have L9 := Lib.hid (l9.set false sY)
          have HB6 := Lib.hid (show Below W0.heap.size W0 ((w5.setCell ⟨wr.heap.size + 1, 0, none⟩ (.bool false)).setCell ⟨wr.heap.size + 1, 1, none⟩ (.string sY)) from (hb5.setCell (p := ⟨wr.heap.size + 1, 0, none⟩) (by exact Nat.le_succ_of_le hs) _).setCell (p := ⟨wr.heap.size + 1, 1, none⟩) (by exact Nat.le_succ_of_le hs) _)
          obtain ⟨r0, r1, f0, f1⟩ := l9.cells
          obtain ⟨y0, y1, _, _⟩ := L8.out.cells
          obtain ⟨y2, y3, _, _⟩ := L9.out.cells
          clear l8 l9 hb5 hb
          go_wp2_with fail
          generalize (w5.setCell ⟨wr.heap.size + 1, 0, none⟩ (.bool false)).setCell ⟨wr.heap.size + 1, 1, none⟩ (.string sY) = w6 at *
        all_goals
          refine (HQU.out _).mono ?_
          rintro e7 w7 ⟨rfl, hb⟩
          have L9a := Lib.hid (L9.out.below hb)
          have HB7 := Lib.hid (chain HB6.out hb)
          have hs7 := HB7.out.size
          have hk9 := L9a.out.lt
          clear hb
          go_wp2_with fail
          refine (HBN.out _).mono ?_
          rintro e8 w8 ⟨rfl, hb⟩
          have L10 := Lib.hid (((Lg.new w7 false sN).alloc (.cells #[.bool false, .string sR] 42)).below hb)
          have L11 := Lib.hid ((Lg.at (w := w7.alloc (.cells #[.bool false, .string sN] 42)) (neg := false) (s := sR) (k := w7.heap.size + 1) (by simp)).below hb)
          have L9b := Lib.hid (((L9a.out.alloc (.cells #[.bool false, .string sN] 42)).alloc (.cells #[.bool false, .string sR] 42)).below hb)
          have HB8 := Lib.hid (show Below W0.heap.size W0 w8 from chain ((HB7.out.alloc hs7 _).alloc (by simp; omega) _) hb)
          obtain ⟨bn, hbn⟩ : ∃ bn, Pl.nb N = bn := ⟨_, rfl⟩
          rw [hbn] at hNb ⊢
          have HBNE := Lib.hid hbn
          clear hb hbn
          have hs8 := HB8.out.size
          rcases Nat.lt_or_ge 53 bn with h53 | h53
          · have hb1 : decide (53 < (bn : Int)) = true := decide_eq_true (by omega)
            have h53' : 53 < Pl.nb (Fl.top p e / Fl.bot q e) := by rw [← HXD.out, ← HYD.out, HN.out, HBNE.out]; exact h53
            have HF' := Lib.hid (Fl.full_step h1 h53')
            have he6 := HPB.out e h53'
            clear h53'
            go_wp2_with fail
            go_roundw
            case rel => exact ⟨e + 1, rfl, by omega, by omega, HF', HB8⟩
            case measure => simp [RowKit.intOf]; omega
          · have hb1 : decide (53 < (bn : Int)) = false := decide_eq_false (by omega)
            have hN53 : N < 9007199254740992 := by
              have h2 := (Pl.nb_lt_iff N 53).2 (by rw [HBNE.out]; exact h53)
              have h3 : (2 : Nat) ^ 53 = 9007199254740992 := by decide
              omega
            have HFIN := Lib.hid (Fl.round_is h1 hf.out (by rw [← HXD.out, ← HYD.out, HN.out, HBNE.out]; exact h53))
            rw [← HXD.out, ← HYD.out] at HFIN
            have HMB := Lib.hid (Fl.rhe_le2 (x := X) (y := Y) (by rw [HN.out]; exact hN53))
            have HBK2 := Lib.hid (HBK.out (by omega))
            obtain ⟨r0, r1, _, _⟩ := L10.out.cells
            go_wp2_with fail
            refine (HBK2.out _).mono ?_
            rintro e9 w9 ⟨rfl, hb⟩
            have L11a := Lib.hid (L11.out.below hb)
            have L9c := Lib.hid (L9b.out.below hb)
            have HB9 := Lib.hid (chain HB8.out hb)
            clear hb
            obtain ⟨x0, x1, _, _⟩ := L11a.out.cells
            go_wp2_with fail
            refine (HST.out _).mono ?_
            rintro e10 w10 ⟨rfl, hb⟩
            have L9d := Lib.hid ((L9c.out.below hb).alloc (.cells #[.bool false, .string sT] 42))
            have HB10 := Lib.hid (chain HB9.out hb)
            clear hb
            obtain ⟨z0, z1, _, _⟩ := L9d.out.cells
            go_wp2_with fail
            refine (HCM.out _).mono ?_
            rintro e11 w11 ⟨rfl, hb⟩
            have HB11 := Lib.hid (show Below W0.heap.size W0 w11 from chain (HB10.out.alloc HB10.out.size _) hb)
            clear hb
            have HN53 := Lib.hid hN53
            clear hN53
            have HBE := Lib.hid (show Below w.heap.size w w11 from HB0.out.trans (HB11.out.mono (by omega)))
            obtain ⟨M, hM⟩ : ∃ M, Fl.rhe X Y = M := ⟨_, rfl⟩
            rw [hM] at HRC HFIN HMB
            have hMB := HMB.out
            rw [HN.out] at hMB
            have HRC2 := Lib.hid (show (Pl.ord (R * 2 ^ 1) Y = 1 ∧ (N : Int) + 1 = M) ∨ (Pl.ord (R * 2 ^ 1) Y = 0 ∧ ((N : Int) % 2 == 1) = true ∧ (N : Int) + 1 = M) ∨ (Pl.ord (R * 2 ^ 1) Y = 0 ∧ ((M : Int) % 2 == 1) = false ∧ M = N) ∨ (Pl.ord (R * 2 ^ 1) Y = -1 ∧ M = N) by
              rcases HRC.out with ⟨c1, c2⟩ | ⟨c1, c3, c2⟩ | ⟨c1, c3, c2⟩ | ⟨c1, c2⟩
              · exact .inl ⟨c1, by omega⟩
              · exact .inr (.inl ⟨c1, by rw [beq_iff_eq]; omega, by omega⟩)
              · exact .inr (.inr (.inl ⟨c1, by rw [beq_eq_false_iff_ne]; omega, by omega⟩))
              · exact .inr (.inr (.inr ⟨c1, by omega⟩)))
            have HMB2 := Lib.hid hMB
            clear hM hMB HRC HMB
            rcases HRC2.out with ⟨c1, c2⟩ | ⟨c1, c3, c2⟩ | ⟨c1, c3, rfl⟩ | ⟨c1, rfl⟩
            all_goals
              have hM6 : M < 9223372036854775808 := by have := HMB2.out; omega
              have hwM : IntKind.u64.wrap (M : Int) = M := by rw [IntKind.wrap_u64]; omega
              rcases Nat.lt_or_ge M 9007199254740992 with h9 | h9
              · have hb2 : ((M : Int) == 9007199254740992) = false := by rw [beq_eq_false_iff_ne]; omega
                have H9 := Lib.hid h9
                rcases Int.lt_or_le 971 e with h10 | h10
                · have hb3 : decide (971 < e) = true := decide_eq_true h10
                  have HK := Lib.hid h10
                  clear h9 h10
                  go_wp2_with (go_at_call 79; refine (rsgi_any _ _ _ (by omega) (by omega)).mono ?_; rintro e12 w12 ⟨rfl, rfl⟩)
                  go_ret
                  refine ⟨ret_int (congrArg (fun r : Nat => ((Fl.D.word neg r : Nat) : Int)) ?_), HBE.out⟩
                  rw [HFIN.out]
                  have k1 := H9.out
                  have k2 := HMB2.out
                  have k3 := HK.out
                  rw [packed_inf k1 k3]
                · have hb3 : decide (971 < e) = false := decide_eq_false (by omega)
                  rcases Nat.lt_or_ge M 4503599627370496 with h11 | h11
                  · have hb4 : decide ((M : Int) < 4503599627370496) = true := decide_eq_true (by omega)
                    have HK := Lib.hid (show e ≤ 971 ∧ M < 4503599627370496 from ⟨h10, h11⟩)
                    clear h9 h10 h11
                    go_wp2_with (go_at_call 79; refine (rsgi_any _ _ _ (by omega) (by omega)).mono ?_; rintro e12 w12 ⟨rfl, rfl⟩)
                    go_ret
                    refine ⟨ret_int (congrArg (fun r : Nat => ((Fl.D.word neg r : Nat) : Int)) ?_), HBE.out⟩
                    rw [HFIN.out]
                    have k1 := H9.out
                    have k2 := HMB2.out
                    have k3 := HK.out
                    rw [packed_low k3.1 k3.2]
                  · have hb4 : decide ((M : Int) < 4503599627370496) = false := decide_eq_false (by omega)
                    obtain ⟨z, hz⟩ : ∃ z : Nat, e + 1075 = z := ⟨(e + 1075).toNat, by omega⟩
                    obtain ⟨y, hy⟩ : ∃ y : Nat, (z : Int) * 4503599627370496 = y := ⟨z * 4503599627370496, by omega⟩
                    obtain ⟨d, hd⟩ : ∃ d : Nat, (M : Int) - 4503599627370496 = d := ⟨M - 4503599627370496, by omega⟩
                    obtain ⟨v, hv⟩ : ∃ v : Nat, (d : Int) + y = v := ⟨d + y, by omega⟩
                    have HK := Lib.hid (show e ≤ 971 ∧ 4503599627370496 ≤ M ∧ e + 1075 = z ∧ (z : Int) * 4503599627370496 = y ∧ (M : Int) - 4503599627370496 = d ∧ (d : Int) + y = v from ⟨h10, h11, hz, hy, hd, hv⟩)
                    have hv6 : v < 9223372036854775808 := by omega
                    have hw1 : IntKind.u64.wrap (z : Int) = z := by rw [IntKind.wrap_u64]; omega
                    have hw2 : IntKind.u64.wrap (y : Int) = y := by rw [IntKind.wrap_u64]; omega
                    have hw3 : IntKind.u64.wrap (d : Int) = d := by rw [IntKind.wrap_u64]; omega
                    have hw4 : IntKind.u64.wrap (v : Int) = v := by rw [IntKind.wrap_u64]; omega
                    clear h9 h10 h11
                    go_wp2_with (go_at_call 79; refine (rsgi_any _ _ _ (by omega) (by omega)).mono ?_; rintro e12 w12 ⟨rfl, rfl⟩)
                    go_ret
                    refine ⟨ret_int (congrArg (fun r : Nat => ((Fl.D.word neg r : Nat) : Int)) ?_), HBE.out⟩
                    rw [HFIN.out]
                    have k1 := H9.out
                    have k2 := HMB2.out
                    have k3 := HK.out
                    rw [packed_mid k1 k3.1 k3.2.1]
                    omega
              · have hb2 : ((M : Int) == 9007199254740992) = true := by (rw [beq_iff_eq]; have := HMB2.out; have := HN53.out; omega)
                have H9 := Lib.hid (show M = 9007199254740992 by have := HMB2.out; have := HN53.out; omega)
                rw [H9.out] at HFIN
                obtain ⟨e2, he2⟩ : ∃ e2, e + 1 = e2 := ⟨_, rfl⟩
                have HE2 := Lib.hid he2
                rcases Int.lt_or_le 971 e2 with h10 | h10
                · have hb3 : decide (971 < e2) = true := decide_eq_true h10
                  have HK := Lib.hid h10
                  clear h9 h10
                  go_wp2_with (go_at_call 79; refine (rsgi_any _ _ _ (by omega) (by omega)).mono ?_; rintro e12 w12 ⟨rfl, rfl⟩)
                  go_ret
                  refine ⟨ret_int (congrArg (fun r : Nat => ((Fl.D.word neg r : Nat) : Int)) ?_), HBE.out⟩
                  rw [HFIN.out]
                  have k1 := H9.out
                  have k2 := HMB2.out
                  have k3 := HK.out
                  rw [packed_top_inf (by rw [HE2.out]; exact k3)]
                · have hb3 : decide (971 < e2) = false := decide_eq_false (by omega)
                  obtain ⟨z, hz⟩ : ∃ z : Nat, e2 + 1075 = z := ⟨(e2 + 1075).toNat, by omega⟩
                  obtain ⟨y, hy⟩ : ∃ y : Nat, (z : Int) * 4503599627370496 = y := ⟨z * 4503599627370496, by omega⟩
                  have HK := Lib.hid (show e2 ≤ 971 ∧ e2 + 1075 = z ∧ (z : Int) * 4503599627370496 = y from ⟨h10, hz, hy⟩)
                  have hy6 : y < 9223372036854775808 := by omega
                  have hw1 : IntKind.u64.wrap (z : Int) = z := by rw [IntKind.wrap_u64]; omega
                  have hw2 : IntKind.u64.wrap (y : Int) = y := by rw [IntKind.wrap_u64]; omega
                  clear h9 h10
                  go_wp2_with (go_at_call 79; refine (rsgi_any _ _ _ (by omega) (by omega)).mono ?_; rintro e12 w12 ⟨rfl, rfl⟩)
                  go_ret
                  refine ⟨ret_int (congrArg (fun r : Nat => ((Fl.D.word neg r : Nat) : Int)) ?_), HBE.out⟩
                  rw [HFIN.out]
                  have k1 := H9.out
                  have k2 := HMB2.out
                  have k3 := HK.out
                  have k4 := HE2.out
                  rw [packed_top (by omega), k4]
                  omega
end Go.Proofs.YtgdohmaljbggjaaGreatDoor
