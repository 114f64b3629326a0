/- Fixed floats, written and read. Fixed floats: a text that is none, one too far, a float cut. The contract of works. Large numbers held against each other. A large integer as a float: the contract of OfLarge. Roots of floats that are exact: plain facts. -/
import Derived.Test.YtgdohmaljbggjaaGreatDoorBaaj
import Derived.Test.YtgdohmaljbggjaaGreatDoorBaam
import Derived.Test.YtgdohmaljbggjaaGreatDoorBaao
import Derived.Test.YtgdohmaljbggjaaGreatDoorBaap
import Derived.Test.YtgdohmaljbggjaaGreatDoorBaaq
import Derived.Test.YtgdohmaljbggjaaGreatDoorBaar
import Derived.Test.YtgdohmaljbggjaaGreatDoorBaan
import Derived.Test.YtgdohmaljbggjaaGreatDoorBaal
import Derived.Laws.StructEq
import Derived.Deep.RegionHeld3
import Derived.Test.YtgdohmaljbggjaaGreatDoorBaae
namespace Go.Proofs.YtgdohmaljbggjaaGreatDoor
open Go.RowKit Go.Lib
theorem show_one : Pl.showN 4607182418800017408 = [49, 46, 48] := by
  have h : Pl.decOf 4607182418800017408 = (1000000000000000, -15) := by decide +kernel
  simp [Pl.showN, Pl.digs, Pl.dpt, h, Pl.sig, decDigits, nDigits, Pl.trimZ, Pl.written, Pl.pointed]
theorem show_tiny : Pl.showN 1 = [53, 46, 48, 101, 45, 51, 50, 52] := by
  have h : Pl.decOf 1 = (5, -324) := by decide +kernel
  simp [Pl.showN, Pl.digs, Pl.dpt, h, Pl.sig, decDigits, nDigits, Pl.trimZ, Pl.written, Pl.pointed, Lib.itoa]
theorem show_most : Pl.showN 9218868437227405311 = [49, 46, 55, 57, 55, 54, 57, 51, 49, 51, 52, 56, 54, 50, 51, 49, 53, 55, 101, 51, 48, 56] := by
  have h : Pl.decOf 9218868437227405311 = (17976931348623157, 292) := by decide +kernel
  simp [Pl.showN, Pl.digs, Pl.dpt, h, Pl.sig, decDigits, nDigits, Pl.trimZ, Pl.written, Pl.pointed, Lib.itoa]
theorem show_sum : Pl.showN 4599075939470750516 = [48, 46, 51, 48, 48, 48, 48, 48, 48, 48, 48, 48, 48, 48, 48, 48, 48, 48, 52] := by
  have h : Pl.decOf 4599075939470750516 = (30000000000000004, -17) := by decide +kernel
  simp [Pl.showN, Pl.digs, Pl.dpt, h, Pl.sig, decDigits, nDigits, Pl.trimZ, Pl.written, Lib.repeatL]
theorem show_half : Pl.showN 13826050856027422720 = [45, 48, 46, 53] := by
  have h : Pl.decOf 13826050856027422720 = (5000000000000000, -16) := by decide +kernel
  simp [Pl.showN, Pl.digs, Pl.dpt, h, Pl.sig, decDigits, nDigits, Pl.trimZ, Pl.written, Lib.repeatL]
theorem show_two : Pl.showN 2 = [49, 46, 48, 101, 45, 51, 50, 51] := by
  have h : Pl.decOf 2 = (1, -323) := by decide +kernel
  simp [Pl.showN, Pl.digs, Pl.dpt, h, Pl.sig, decDigits, nDigits, Pl.trimZ, Pl.written, Pl.pointed, Lib.itoa]
theorem reads_pos (M : List UInt8) (hM : MantOk M) (h3 : 3 ≤ M.length) (hl : M.length ≤ 1000) (hdig : (Pl.run M).dig = true) (hdot : (Pl.run M).dot = true) (hd0 : Pl.digit M[0]) :
    ReadsAs (bs M) (Pl.run M).m (Pl.expOf (Pl.run M) 0) false (Pl.run M).tr M.length := by
  intro w
  have h := read_pos_none (bs M) M w (Lib.hid (by rw [bs_size]; omega)) hM h3 hl (at_bs M) hdig hdot hd0
  rw [Nat.zero_add] at h
  exact h
theorem at_cons (c : UInt8) (M : List UInt8) : At (bs (c :: M)) 1 M := fun k h h2 => by
  have := at_bs (c :: M) (k + 1) (by simp; omega) (by rw [bs_size]; simp; omega)
  simp only [Nat.zero_add] at this
  have e : 1 + k = k + 1 := by omega
  simp only [e]
  rw [this]; rfl
theorem reads_neg (M : List UInt8) (hM : MantOk M) (h3 : 3 ≤ M.length) (hl : M.length ≤ 1000) (hdig : (Pl.run M).dig = true) (hdot : (Pl.run M).dot = true) (hd0 : Pl.digit M[0]) :
    ReadsAs (bs (45 :: M)) (Pl.run M).m (Pl.expOf (Pl.run M) 0) true (Pl.run M).tr (1 + M.length) := by
  intro w
  exact read_neg_none (bs (45 :: M)) M w (Lib.hid (by rw [bs_size]; simp; omega)) hM h3 hl (at_cons 45 M) hdig hdot hd0 (by rw [bs_size]; simp) rfl
theorem special_bs (M : List UInt8) (h : 0 < M.length) (hl : M.length ≤ 1000) (hd : 48 ≤ M[0].toNat ∧ M[0].toNat ≤ 57) : IsSpecial (bs M) := fun w => special_pos (bs M) w (by rw [bs_size]; exact h) (by rw [bs_size]; omega) hd
theorem special_minus (M : List UInt8) (h : 0 < M.length) (hl : M.length ≤ 1000) (hd : 48 ≤ M[0].toNat ∧ M[0].toNat ≤ 57) : IsSpecial (bs (45 :: M)) := fun w => special_neg (bs (45 :: M)) w (by rw [bs_size]; simp) (by rw [bs_size]; simp; exact h) (by rw [bs_size]; simp; omega) rfl hd
theorem mant3 {a b : UInt8} (ha : Pl.digit a) (hb : Pl.digit b) (h46 : (Pl.run [a]).dot = false) : MantOk [a, 46, b] := by
  refine ⟨by intro c hc; simp at hc; rcases hc with rfl | rfl | rfl; exact .inr ha; exact .inl rfl; exact .inr hb, ?_⟩
  intro k h hk
  match k, h with
  | 0, _ => rfl
  | 1, _ => exact h46
  | 2, _ => simp at hk; subst hk; unfold Pl.digit at hb; exact absurd hb (by decide)
/-- A short text of digits with a point, read. -/
theorem read_pos (M : List UInt8) (m k p r : Nat) (w : World) (he : Env w) (hM : MantOk M) (h3 : 3 ≤ M.length) (hl : M.length ≤ 1000) (e1 : (Pl.run M).m = m) (e2 : (Pl.run M).tr = false) (e3 : (Pl.run M).dig = true) (e4 : (Pl.run M).dot = true) (hd0 : 48 ≤ M[0].toNat ∧ M[0].toNat ≤ 57)
    (hf : Pl.formed M = true) (hk : Pl.expOf (Pl.run M) 0 = -(k : Int)) (hm : m < 4503599627370496) (hm0 : 0 < m) (hk2 : k ≤ 22) (hk0 : 0 < k) (hp : Pl.f10[k]? = some p) (hd : Fl.D.div (floatOfInt .f64 (m : Int)) p = some r) :
    Calls Tryz.prog 13 #[.string (bs M)] w fun e w' => e = .returned (.tuple #[.int .u64 (Fl.told r), .int .i64 0]) ∧ Below w.heap.size w w' := by
  have hr := reads_pos M hM h3 hl e3 e4 hd0
  rw [hk] at hr
  rw [e1, e2] at hr
  exact read_ok M w hl hf he r (fun w he => atof_div (bs M) M.length m k p r _ false w (special_bs M (by omega) hl hd0) hr hm hm0 hk2 hk0 he hp (if_neg Bool.false_ne_true) hd)
theorem read_neg (M : List UInt8) (m k p r : Nat) (w : World) (he : Env w) (hM : MantOk M) (h3 : 3 ≤ M.length) (hl : M.length ≤ 900) (e1 : (Pl.run M).m = m) (e2 : (Pl.run M).tr = false) (e3 : (Pl.run M).dig = true) (e4 : (Pl.run M).dot = true) (hd0 : 48 ≤ M[0].toNat ∧ M[0].toNat ≤ 57)
    (hf : Pl.formed (45 :: M) = true) (hk : Pl.expOf (Pl.run M) 0 = -(k : Int)) (hm : m < 4503599627370496) (hm0 : 0 < m) (hk2 : k ≤ 22) (hk0 : 0 < k) (hp : Pl.f10[k]? = some p) (hd : Fl.D.div (floatOfInt .f64 (m : Int) ^^^ 9223372036854775808) p = some r) :
    Calls Tryz.prog 13 #[.string (bs (45 :: M))] w fun e w' => e = .returned (.tuple #[.int .u64 (Fl.told r), .int .i64 0]) ∧ Below w.heap.size w w' := by
  have hr := reads_neg M hM h3 (by omega) e3 e4 hd0
  rw [hk] at hr
  rw [e1, e2] at hr
  exact read_ok (45 :: M) w (by simp; omega) hf he r (fun w he => by
    have := atof_div (bs (45 :: M)) (1 + M.length) m k p r _ true w (special_minus M (by omega) (by omega) hd0) hr hm hm0 hk2 hk0 he hp (if_pos rfl) hd
    rw [Nat.add_comm] at this
    exact this)
theorem read_tenth (w : World) (he : Env w) : Calls Tryz.prog 13 #[.string (bs [48, 46, 49])] w fun e w' => e = .returned (.tuple #[.int .u64 4591870180066957722, .int .i64 0]) ∧ Below w.heap.size w w' :=
  read_pos [48, 46, 49] 1 1 4621819117588971520 4591870180066957722 w he (mant3 (by unfold Pl.digit; decide) (by unfold Pl.digit; decide) rfl) (by decide) (by decide) (by decide) (by decide) (by decide) (by decide) (by decide) (by decide +kernel) (by decide) (by decide) (by decide) (by decide) (by decide) rfl (by decide +kernel)
theorem read_fifth (w : World) (he : Env w) : Calls Tryz.prog 13 #[.string (bs [48, 46, 50])] w fun e w' => e = .returned (.tuple #[.int .u64 4596373779694328218, .int .i64 0]) ∧ Below w.heap.size w w' :=
  read_pos [48, 46, 50] 2 1 4621819117588971520 4596373779694328218 w he (mant3 (by unfold Pl.digit; decide) (by unfold Pl.digit; decide) rfl) (by decide) (by decide) (by decide) (by decide) (by decide) (by decide) (by decide) (by decide +kernel) (by decide) (by decide) (by decide) (by decide) (by decide) rfl (by decide +kernel)
theorem read_minus (w : World) (he : Env w) : Calls Tryz.prog 13 #[.string (bs [45, 50, 46, 53])] w fun e w' => e = .returned (.tuple #[.int .u64 13836183955189006336, .int .i64 0]) ∧ Below w.heap.size w w' :=
  read_neg [50, 46, 53] 25 1 4621819117588971520 13836183955189006336 w he (mant3 (by unfold Pl.digit; decide) (by unfold Pl.digit; decide) rfl) (by decide) (by decide) (by decide) (by decide) (by decide) (by decide) (by decide) (by decide +kernel) (by decide) (by decide) (by decide) (by decide) (by decide) rfl (by decide +kernel)
theorem read_three (w : World) (he : Env w) : Calls Tryz.prog 13 #[.string (bs [51, 46, 48])] w fun e w' => e = .returned (.tuple #[.int .u64 4613937818241073152, .int .i64 0]) ∧ Below w.heap.size w w' :=
  read_pos [51, 46, 48] 30 1 4621819117588971520 4613937818241073152 w he (mant3 (by unfold Pl.digit; decide) (by unfold Pl.digit; decide) rfl) (by decide) (by decide) (by decide) (by decide) (by decide) (by decide) (by decide) (by decide +kernel) (by decide) (by decide) (by decide) (by decide) (by decide) rfl (by decide +kernel)
theorem mant4 {a b c : UInt8} (ha : Pl.digit a) (hb : Pl.digit b) (hc : Pl.digit c) (h46 : (Pl.run [a]).dot = false) : MantOk [a, 46, b, c] := by
  refine ⟨by intro c hc; simp at hc; rcases hc with rfl | rfl | rfl | rfl; exact .inr ha; exact .inl rfl; exact .inr hb; exact .inr ‹_›, ?_⟩
  intro k h hk
  match k, h with
  | 0, _ => rfl
  | 1, _ => exact h46
  | 2, _ => simp at hk; subst hk; unfold Pl.digit at hb; exact absurd hb (by decide)
  | 3, _ => simp at hk; subst hk; unfold Pl.digit at hc; exact absurd hc (by decide)
theorem read_most (w : World) (he : Env w) : Calls Tryz.prog 13 #[.string (bs [48, 46, 55, 53])] w fun e w' => e = .returned (.tuple #[.int .u64 4604930618986332160, .int .i64 0]) ∧ Below w.heap.size w w' :=
  read_pos [48, 46, 55, 53] 75 2 4636737291354636288 4604930618986332160 w he (mant4 (by unfold Pl.digit; decide) (by unfold Pl.digit; decide) (by unfold Pl.digit; decide) rfl) (by decide) (by decide) (by decide) (by decide) (by decide) (by decide) (by decide) (by decide +kernel) (by decide) (by decide) (by decide) (by decide) (by decide) rfl (by decide +kernel)
end Go.Proofs.YtgdohmaljbggjaaGreatDoor
namespace Go.Proofs.YtgdohmaljbggjaaGreatDoor
open Go.RowKit Go.Lib
theorem read_none (w : World) : Calls Tryz.prog 13 #[.string (bs [49, 101, 53])] w fun e w' => e = .returned (.tuple #[.int .u64 0, .int .i64 100]) ∧ Below w.heap.size w w' :=
  read_no [49, 101, 53] w (by decide) (by decide +kernel)
theorem read_beyond (w : World) (he : Env w) : Calls Tryz.prog 13 #[.string (bs [49, 46, 48, 101, 52, 48, 48])] w fun e w' => e = .returned (.tuple #[.int .u64 0, .int .i64 101]) ∧ Below w.heap.size w w' := by
  refine read_far [49, 46, 48, 101, 52, 48, 48] w (by decide) (by decide +kernel) he 9218868437227405312 ?_
  intro w he
  have hr : ReadsAs (bs [49, 46, 48, 101, 52, 48, 48]) 10 399 false false 7 := by
    intro w
    exact read_pos_exp (bs [49, 46, 48, 101, 52, 48, 48]) [49, 46, 48] [52, 48, 48] w (Lib.hid rfl) (by decide) (by decide) (by intro c hc; simp at hc; rcases hc with rfl | rfl | rfl <;> (unfold Pl.digit; decide)) (by intro k h h2; match k, h with | 0, _ => rfl | 1, _ => rfl | 2, _ => rfl) (by decide) rfl (mant3 (by unfold Pl.digit; decide) (by unfold Pl.digit; decide) rfl) (by decide) (by decide) (by intro k h h2; match k, h with | 0, _ => rfl | 1, _ => rfl | 2, _ => rfl) (by decide) (by decide) (by unfold Pl.digit; decide)
  exact atof_far (bs [49, 46, 48, 101, 52, 48, 48]) 7 10 399 false w (special_bs _ (by decide) (by decide) (by decide)) hr (by decide) he (by decide)
theorem frexp_two : FrexpIs 13835058055282163712 13826050856027422720 2 := by
  refine frexp_wrap _ _ _ (fun w => ?_)
  exact frexp_core 13835058055282163712 13835058055282163712 4503599627370496 1023 true 0 w (by decide) (by decide) (by decide) (fun w => norm_big 13835058055282163712 (by decide) (by decide) (by decide) w) (by decide +kernel) (by decide) (by decide) (by decide) (by decide)
theorem truncate_minus (w : World) : Calls Tryz.prog 27 #[.int .u64 13836183955189006336] w fun en w' => en = .returned (.tuple #[lof (-2), .int .i64 0]) ∧ Below w.heap.size w w' :=
  truncate_num 13836183955189006336 13835058055282163712 13826050856027422720 14064741636278059008 2 (-4503599627370496) (-2) w (by decide) (by decide) (by decide +kernel) frexp_two (by decide) (by decide +kernel) (by decide +kernel) (by decide) (by decide) (fun _ => ⟨by decide +kernel, by decide⟩) (by decide)
theorem fraction_minus (w : World) : Calls Tryz.prog 29 #[.int .u64 13836183955189006336] w fun e w' => e = .returned (.int .u64 13826050856027422720) ∧ w = w' := by
  have h := fraction_num 13836183955189006336 13826050856027422720 w (by decide) (by decide) (by decide +kernel)
  have e : (if Fl.D.order 13826050856027422720 0 = some .eq then 0 else Fl.told 13826050856027422720 : Nat) = 13826050856027422720 := by decide +kernel
  rw [e] at h
  exact h
theorem scale_down (w : World) : Calls Tryz.prog 17 #[.int .u64 4613937818241073152, .int .i64 (-1075)] w fun e w' => e = .returned (.int .u64 2) ∧ w = w' := by
  have h := scale_any 4613937818241073152 (-1075) w (by decide)
  have e : Fl.fscale 4613937818241073152 (-1075) = 2 := by decide +kernel
  rw [e] at h
  exact h
theorem exponent_most (w : World) : Calls Tryz.prog 16 #[.int .u64 4604930618986332160] w fun e w' => e = .returned (.tuple #[.int .i64 (-1), .int .i64 0]) ∧ w = w' := by
  have h := exponent_any 4604930618986332160 w (by decide)
  have e : Fl.fexp 4604930618986332160 = some (-1) := by decide +kernel
  unfold expv at h
  rw [e] at h
  exact h
theorem add_tenths (w : World) : Calls Tryz.prog 18 #[.int .u64 4591870180066957722, .int .u64 4596373779694328218] w fun e w' => e = .returned (.int .u64 4599075939470750516) ∧ Below w.heap.size w w' := by
  have h := add_any 4591870180066957722 4596373779694328218 w
  have e : Fl.fadd 4591870180066957722 4596373779694328218 = 4599075939470750516 := by decide +kernel
  rw [e] at h
  exact h
end Go.Proofs.YtgdohmaljbggjaaGreatDoor
namespace Go.Proofs.YtgdohmaljbggjaaGreatDoor
open Go.RowKit Go.Lib
theorem run_large_eq (a b : Bool) (s t : ByteArray) (w : World) : (binOp .eql 42 (.agg #[.bool a, .string s]) (.agg #[.bool b, .string t])).run Tryz.prog w = .ok (.bool (a == b && s.toList == t.toList)) w := by
  have u1 := Tryz.underlying4
  have a1 := Tryz.isAgg4
  have z1 := Tryz.sizeOf4
  have u2 := Tryz.underlying9
  have a2 := Tryz.isAgg9
  have z2 := Tryz.sizeOf9
  have hS : Tryz.prog.underlying 42 = some (.struct (Tryz.prog.fieldsOf 42)) := by kernel_rfl
  have hp : Tryz.prog.stoodInHeld 42 = false := by kernel_rfl
  rw [run_eql_struct, show (10000 : Nat) = 9999 + 1 from rfl, run_equalIn_agg w 9999 42 _ _ hS hp]
  simp only [Program.fieldsOf, Tryz.underlying42]
  go_simp
  by_cases h1 : a = b <;> by_cases h2 : s.toList = t.toList <;> simp [h1, h2]
theorem guard_large : Tryz.prog.eqGuardType Tryz.prog.depth 42 = false := by kernel_rfl
theorem shows_one (w : World) (he : Env w) : Calls Tryz.prog 14 #[.int .u64 4607182418800017408] w fun e w' => e = .returned (.string ⟨#[49, 46, 48]⟩) ∧ Below w.heap.size w w' := by
  have h := show_any 4607182418800017408 w (by decide) (by decide) (by decide) he
  rw [show_one] at h
  exact h
theorem shows_tiny (w : World) (he : Env w) : Calls Tryz.prog 14 #[.int .u64 1] w fun e w' => e = .returned (.string ⟨#[53, 46, 48, 101, 45, 51, 50, 52]⟩) ∧ Below w.heap.size w w' := by
  have h := show_any 1 w (by decide) (by decide) (by decide) he
  rw [show_tiny] at h
  exact h
theorem shows_most (w : World) (he : Env w) : Calls Tryz.prog 14 #[.int .u64 9218868437227405311] w fun e w' => e = .returned (.string ⟨#[49, 46, 55, 57, 55, 54, 57, 51, 49, 51, 52, 56, 54, 50, 51, 49, 53, 55, 101, 51, 48, 56]⟩) ∧ Below w.heap.size w w' := by
  have h := show_any 9218868437227405311 w (by decide) (by decide) (by decide) he
  rw [show_most] at h
  exact h
theorem shows_sum (w : World) (he : Env w) : Calls Tryz.prog 14 #[.int .u64 4599075939470750516] w fun e w' => e = .returned (.string ⟨#[48, 46, 51, 48, 48, 48, 48, 48, 48, 48, 48, 48, 48, 48, 48, 48, 48, 48, 52]⟩) ∧ Below w.heap.size w w' := by
  have h := show_any 4599075939470750516 w (by decide) (by decide) (by decide) he
  rw [show_sum] at h
  exact h
theorem shows_half (w : World) (he : Env w) : Calls Tryz.prog 14 #[.int .u64 13826050856027422720] w fun e w' => e = .returned (.string ⟨#[45, 48, 46, 53]⟩) ∧ Below w.heap.size w w' := by
  have h := show_any 13826050856027422720 w (by decide) (by decide) (by decide) he
  rw [show_half] at h
  exact h
theorem shows_two (w : World) (he : Env w) : Calls Tryz.prog 14 #[.int .u64 2] w fun e w' => e = .returned (.string ⟨#[49, 46, 48, 101, 45, 51, 50, 51]⟩) ∧ Below w.heap.size w w' := by
  have h := show_any 2 w (by decide) (by decide) (by decide) he
  rw [show_two] at h
  exact h
set_option maxHeartbeats 4000000 in
theorem works_any (w : World) (he : Env w) : Calls Tryz.prog 11 #[] w fun e w' => e = .returned (.bool true) ∧ Below w.heap.size w w' := by
  obtain ⟨N, hN⟩ : ∃ N, w.heap.size = N := ⟨_, rfl⟩
  have HB0 : Hid (Below N w w) := Lib.hid (Below.refl _ _)
  have HE0 := Lib.hid he
  have HN0 := Lib.hid (Nat.le_of_eq hN.symm)
  rw [hN]
  clear hN he
  go_enter Tryz.func11, Tryz.ntmps11
  go_wp2_with fail
  refine (shows_one _ HE0.out).mono ?_
  rintro e w1 ⟨rfl, hb⟩
  have HE1 := Lib.hid (HE0.out.below hb)
  have HB1 := Lib.hid (HB0.out.trans (hb.mono HN0.out))
  have HN1 := Lib.hid (Nat.le_trans HN0.out hb.size)
  clear hb HE0 HB0 HN0
  go_wp2_with fail
  refine (shows_tiny _ HE1.out).mono ?_
  rintro e w2 ⟨rfl, hb⟩
  have HE2 := Lib.hid (HE1.out.below hb)
  have HB2 := Lib.hid (HB1.out.trans (hb.mono HN1.out))
  have HN2 := Lib.hid (Nat.le_trans HN1.out hb.size)
  clear hb HE1 HB1 HN1
  go_wp2_with fail
  refine (shows_most _ HE2.out).mono ?_
  rintro e w3 ⟨rfl, hb⟩
  have HE3 := Lib.hid (HE2.out.below hb)
  have HB3 := Lib.hid (HB2.out.trans (hb.mono HN2.out))
  have HN3 := Lib.hid (Nat.le_trans HN2.out hb.size)
  clear hb HE2 HB2 HN2
  go_wp2_with fail
  refine (read_tenth _ HE3.out).mono ?_
  rintro e w4 ⟨rfl, hb⟩
  have HE4 := Lib.hid (HE3.out.below hb)
  have HB4 := Lib.hid (HB3.out.trans (hb.mono HN3.out))
  have HN4 := Lib.hid (Nat.le_trans HN3.out hb.size)
  clear hb HE3 HB3 HN3
  go_wp2_with fail
  refine (read_fifth _ HE4.out).mono ?_
  rintro e w5 ⟨rfl, hb⟩
  have HE5 := Lib.hid (HE4.out.below hb)
  have HB5 := Lib.hid (HB4.out.trans (hb.mono HN4.out))
  have HN5 := Lib.hid (Nat.le_trans HN4.out hb.size)
  clear hb HE4 HB4 HN4
  go_wp2_with fail
  refine (add_tenths _).mono ?_
  rintro e w6 ⟨rfl, hb⟩
  have HE6 := Lib.hid (HE5.out.below hb)
  have HB6 := Lib.hid (HB5.out.trans (hb.mono HN5.out))
  have HN6 := Lib.hid (Nat.le_trans HN5.out hb.size)
  clear hb HE5 HB5 HN5
  go_wp2_with fail
  refine (shows_sum _ HE6.out).mono ?_
  rintro e w7 ⟨rfl, hb⟩
  have HE7 := Lib.hid (HE6.out.below hb)
  have HB7 := Lib.hid (HB6.out.trans (hb.mono HN6.out))
  have HN7 := Lib.hid (Nat.le_trans HN6.out hb.size)
  clear hb HE6 HB6 HN6
  go_wp2_with fail
  refine (read_none _).mono ?_
  rintro e w8 ⟨rfl, hb⟩
  have HE8 := Lib.hid (HE7.out.below hb)
  have HB8 := Lib.hid (HB7.out.trans (hb.mono HN7.out))
  have HN8 := Lib.hid (Nat.le_trans HN7.out hb.size)
  clear hb HE7 HB7 HN7
  go_wp2_with fail
  refine (read_beyond _ HE8.out).mono ?_
  rintro e w9 ⟨rfl, hb⟩
  have HE9 := Lib.hid (HE8.out.below hb)
  have HB9 := Lib.hid (HB8.out.trans (hb.mono HN8.out))
  have HN9 := Lib.hid (Nat.le_trans HN8.out hb.size)
  clear hb HE8 HB8 HN8
  go_wp2_with fail
  refine (read_minus _ HE9.out).mono ?_
  rintro e w10 ⟨rfl, hb⟩
  have HE10 := Lib.hid (HE9.out.below hb)
  have HB10 := Lib.hid (HB9.out.trans (hb.mono HN9.out))
  have HN10 := Lib.hid (Nat.le_trans HN9.out hb.size)
  clear hb HE9 HB9 HN9
  go_wp2_with fail
  refine (truncate_minus _).mono ?_
  rintro e w11 ⟨rfl, hb⟩
  have HE11 := Lib.hid (HE10.out.below hb)
  have HB11 := Lib.hid (HB10.out.trans (hb.mono HN10.out))
  have HN11 := Lib.hid (Nat.le_trans HN10.out hb.size)
  clear hb HE10 HB10 HN10
  have HL := Lib.hid (show lof (-2) = .agg #[.bool (decide ((-2 : Int) < 0)), .string (bs (Pl.dgs ((-2 : Int).natAbs)))] from rfl)
  rw [HL.out]
  generalize decide ((-2 : Int) < 0) = g at HL ⊢
  generalize bs (Pl.dgs ((-2 : Int).natAbs)) = S at HL ⊢
  go_wp2_with fail
  obtain ⟨C, hC⟩ : ∃ C, w11.heap.size = C := ⟨_, rfl⟩
  have hb : Below w11.heap.size w11 (w11.alloc (.cells #[.bool g, .string S] 42)) := (Below.refl _ _).alloc (Nat.le_refl _) _
  have hh : (w11.alloc (.cells #[.bool g, .string S] 42)).heap[w11.heap.size]? = some (.cells #[.bool g, .string S] 42) := heap_alloc_at _ _
  rw [hC] at hh ⊢
  generalize w11.alloc (.cells #[.bool g, .string S] 42) = w12 at hb hh ⊢
  have HE12 := Lib.hid (HE11.out.below hb)
  have HB12 := Lib.hid (HB11.out.trans (hb.mono HN11.out))
  have HN12 := Lib.hid (Nat.le_trans HN11.out hb.size)
  have HC12 := Lib.hid hh
  clear hb hh hC HE11 HB11 HN11
  refine (fraction_minus _).mono ?_
  rintro e w' ⟨rfl, rfl⟩
  go_wp2_with fail
  refine (shows_half _ HE12.out).mono ?_
  rintro e w13 ⟨rfl, hb⟩
  have HE13 := Lib.hid (HE12.out.below hb)
  have HB13 := Lib.hid (HB12.out.trans (hb.mono HN12.out))
  have HN13 := Lib.hid (Nat.le_trans HN12.out hb.size)
  have HC13 := Lib.hid (show w13.heap[C]? = some (.cells #[.bool g, .string S] 42) by rw [hb.block _ (Array.getElem?_eq_some_iff.1 HC12.out).1]; exact HC12.out)
  clear hb HE12 HB12 HN12 HC12
  go_wp2_with fail
  refine (read_three _ HE13.out).mono ?_
  rintro e w14 ⟨rfl, hb⟩
  have HE14 := Lib.hid (HE13.out.below hb)
  have HB14 := Lib.hid (HB13.out.trans (hb.mono HN13.out))
  have HN14 := Lib.hid (Nat.le_trans HN13.out hb.size)
  have HC14 := Lib.hid (show w14.heap[C]? = some (.cells #[.bool g, .string S] 42) by rw [hb.block _ (Array.getElem?_eq_some_iff.1 HC13.out).1]; exact HC13.out)
  clear hb HE13 HB13 HN13 HC13
  go_wp2_with fail
  refine (scale_down _).mono ?_
  rintro e w' ⟨rfl, rfl⟩
  go_wp2_with fail
  refine (shows_two _ HE14.out).mono ?_
  rintro e w15 ⟨rfl, hb⟩
  have HE15 := Lib.hid (HE14.out.below hb)
  have HB15 := Lib.hid (HB14.out.trans (hb.mono HN14.out))
  have HN15 := Lib.hid (Nat.le_trans HN14.out hb.size)
  have HC15 := Lib.hid (show w15.heap[C]? = some (.cells #[.bool g, .string S] 42) by rw [hb.block _ (Array.getElem?_eq_some_iff.1 HC14.out).1]; exact HC14.out)
  clear hb HE14 HB14 HN14 HC14
  go_wp2_with fail
  refine (read_most _ HE15.out).mono ?_
  rintro e w16 ⟨rfl, hb⟩
  have HE16 := Lib.hid (HE15.out.below hb)
  have HB16 := Lib.hid (HB15.out.trans (hb.mono HN15.out))
  have HN16 := Lib.hid (Nat.le_trans HN15.out hb.size)
  have HC16 := Lib.hid (show w16.heap[C]? = some (.cells #[.bool g, .string S] 42) by rw [hb.block _ (Array.getElem?_eq_some_iff.1 HC15.out).1]; exact HC15.out)
  clear hb HE15 HB15 HN15 HC15
  go_wp2_with fail
  refine (exponent_most _).mono ?_
  rintro e w' ⟨rfl, rfl⟩
  have hc := HC16.out
  have hCs : C < w16.heap.size := (Array.getElem?_eq_some_iff.1 hc).1
  have c0 : w16.cell? ⟨C, 0, none⟩ = some (.bool g) := by simp [World.cell?, hc]
  have c1 : w16.cell? ⟨C, 1, none⟩ = some (.string S) := by simp [World.cell?, hc]
  clear hc
  have hg := guard_large
  have heq : ∀ w, (binOp .eql 42 (.agg #[.bool g, .string S]) (.agg #[.bool g, .string S])).run Tryz.prog w = .ok (.bool true) w := fun w => by rw [run_large_eq]; simp
  have HO : Hid (∀ w, Calls Tryz.prog 33 #[.int .i64 (-2)] w fun e w' => e = .returned (.agg #[.bool g, .string S]) ∧ Below w.heap.size w w') := Lib.hid (fun w => by
    have h := ofn_any (-2) w (by decide) (by decide)
    rw [ofv_is (by decide) (by decide), HL.out] at h
    exact h)
  go_wp2_with fail
  have HFC := Lib.hid (fun (W : World) (hb : Below w16.heap.size w16 W) => show W.cell? ⟨C, 0, none⟩ = some (.bool g) ∧ W.cell? ⟨C, 1, none⟩ = some (.string S) from ⟨by rw [hb.cell (p := ⟨C, 0, none⟩) hCs]; exact c0, by rw [hb.cell (p := ⟨C, 1, none⟩) hCs]; exact c1⟩)
  go_region_held3 (fun W => W.cell? ⟨C, 0, none⟩ = some (.bool g) ∧ W.cell? ⟨C, 1, none⟩ = some (.string S)) (first | exact ⟨c0, c1⟩ | (refine ⟨?_, ?_⟩ <;> assumption)) (first | (go_at_call 33; refine (HO.out _).mono ?_; rintro e w17 ⟨rfl, hbd⟩; have hb : Below w16.heap.size w16 w17 := (Below.refl _ w16).drew.trans hbd; clear hbd; obtain ⟨d0, d1⟩ := HFC.out w17 hb))
  have HW := Lib.hid (HB16.out.trans (hb.mono HN16.out))
  clear hb
  go_wp2_with fail
  go_ret
  exact ⟨rfl, HW.out⟩
end Go.Proofs.YtgdohmaljbggjaaGreatDoor
namespace Go.Proofs.YtgdohmaljbggjaaGreatDoor
open Go.RowKit Go.Lib
theorem run_large_neq (a b : Bool) (s t : ByteArray) (w : World) : (binOp .neq 42 (.agg #[.bool a, .string s]) (.agg #[.bool b, .string t])).run Tryz.prog w = .ok (.bool (!(a == b && s.toList == t.toList))) w := by
  have h := run_large_eq a b s t w
  rw [run_eql_struct] at h
  rw [run_neq_struct]
  generalize (Op.equalIn 10000 42 (.agg #[.bool a, .string s]) (.agg #[.bool b, .string t])).run Tryz.prog w = r at h ⊢
  cases r with
  | ok x w' => simp only [Result.andThen_ok, Result.ok.injEq, Value.bool.injEq] at h ⊢; rw [h.1, h.2]; simp
  | _ => simp [Result.andThen] at h
end Go.Proofs.YtgdohmaljbggjaaGreatDoor
namespace Go.Proofs.YtgdohmaljbggjaaGreatDoor
open Go.RowKit Go.Lib
/-- What OfLarge answers of a large number that may be. -/
noncomputable def oflv (neg : Bool) (V : Nat) : Value :=
  if Fl.rung (V * 2 ^ Fl.E74) 1 = 9218868437227405312 then .tuple #[.int .u64 0, .int .i64 101] else .tuple #[.int .u64 (Fl.D.word neg (Fl.rung (V * 2 ^ Fl.E74) 1) : Nat), .int .i64 0]
theorem nb_lt (V : Nat) : V < 2 ^ Pl.nb V := by
  unfold Pl.nb
  by_cases h : V = 0
  · rw [if_pos h, h]; decide
  · rw [if_neg h]; exact Nat.lt_log2_self
theorem nb_ge {V : Nat} (h : V ≠ 0) : 2 ^ (Pl.nb V - 1) ≤ V := by
  unfold Pl.nb
  rw [if_neg h]; exact Nat.log2_self_le h
/-- The facts about the first digits of a number that OfLarge looks at. -/
theorem heads_facts (V : Nat) (hV : V < 256 ^ 4096) : ∃ k, Pl.nb V - 62 = k ∧ Pl.nb V ≤ 32768 ∧ V / 2 ^ k < 4611686018427387904 ∧ V / 2 ^ k * 2 ^ k ≤ V ∧ Fl.heads V k < 4611686018427387904 ∧ Fl.fldexp (Fl.fint (Fl.heads V k)) k = Fl.D.word false (Fl.rung (V * 2 ^ Fl.E74) 1) := by
  refine ⟨_, rfl, ?_, ?_, Nat.div_mul_le_self _ _, ?_, ?_⟩
  · unfold Pl.nb
    by_cases h : V = 0
    · rw [if_pos h]; omega
    · rw [if_neg h]
      have : V.log2 < 32768 := (Nat.log2_lt h).2 (by
        obtain ⟨b, hb⟩ : ∃ b, b = 4096 := ⟨_, rfl⟩
        rw [← hb] at hV
        rw [show 32768 = 8 * b by omega, Nat.pow_mul]; exact hV)
      omega
  all_goals
    have h1 := nb_lt V
    have hT : V / 2 ^ (Pl.nb V - 62) < 4611686018427387904 := by
      rw [Nat.div_lt_iff_lt_mul (Nat.two_pow_pos _), show (4611686018427387904 : Nat) = 2 ^ 62 from rfl, ← Nat.pow_add]
      exact Nat.lt_of_lt_of_le h1 (Nat.pow_le_pow_right (by decide) (by omega))
  · exact hT
  · unfold Fl.heads
    split
    · exact hT
    · rw [Fl.or_one]; omega
  · by_cases h0 : V = 0
    · subst h0
      have e1 : Pl.nb 0 - 62 = 0 := by decide
      rw [e1, Nat.zero_mul, Fl.rung_zero]
      have e2 : Fl.heads 0 0 = 0 := by decide
      rw [e2]
      have e3 : Fl.fint ((0 : Nat) : Int) = 0 := by decide +kernel
      rw [e3, Fl.fldexp_zero _ (by omega) (by omega)]
      decide +kernel
    · have h2 := nb_ge h0
      have hh : Fl.heads V (Pl.nb V - 62) ≠ 0 := by
        unfold Fl.heads
        split
        · intro h
          rename_i he
          rw [h, Nat.zero_mul] at he
          omega
        · rw [Fl.or_one]; omega
      have hlt : Fl.heads V (Pl.nb V - 62) < 18446744073709551616 := by
        unfold Fl.heads
        split
        · omega
        · rw [Fl.or_one]; omega
      rw [Fl.fldexp_int hh hlt, Fl.heads_rung]
      rcases Nat.lt_or_ge 62 (Pl.nb V) with h | h
      · right
        rw [Nat.le_div_iff_mul_le (Nat.two_pow_pos _)]
        refine Nat.le_trans ?_ h2
        rw [show (18014398509481984 : Nat) = 2 ^ 54 from rfl, ← Nat.pow_add]
        exact Nat.pow_le_pow_right (by decide) (by omega)
      · left; omega
theorem shift_up (T k : Nat) (w : World) (hV : T * 2 ^ k < 256 ^ 4096) (hk : k ≤ 32768) :
    Calls Tryz.prog 63 #[lv false (Pl.dgs T), .int .i64 (k : Int)] w fun e w' => e = .returned (.tuple #[lv false (Pl.dgs (T * 2 ^ k)), .int .i64 0]) ∧ Below w.heap.size w w' := by
  have hT : T < 256 ^ 4096 := Nat.lt_of_le_of_lt (Nat.le_mul_of_pos_right _ (Nat.two_pow_pos k)) hV
  have h := shiftl_any false (Pl.dgs T) k w (Pl.dgs_len hT) (Pl.chk_dgs hT (by simp)) hk (by rw [Pl.shl_is]; exact Pl.dgs_len hV)
  unfold ShiftOk at h
  rw [Pl.shl_is, Bool.false_and] at h
  exact h
theorem dgs_inj {a b : Nat} (h : Pl.dgs a = Pl.dgs b) : a = b := by rw [← Pl.le_dgs a, h, Pl.le_dgs]
theorem bits_or_one {T : Nat} (h : T < 4611686018427387904) : bits .or .i64 (T : Int) 1 = ((T ||| 1 : Nat) : Int) := by
  have h64 : (2 : Nat) ^ IntKind.i64.bits = 18446744073709551616 := rfl
  have hw : ∀ n : Nat, n < 9223372036854775808 → IntKind.i64.wrap (n : Int) = n := fun n hn => by rw [IntKind.wrap_i64]; omega
  have hl : T ||| 1 < 9223372036854775808 := by rw [Fl.or_one]; omega
  rw [show (1 : Int) = ((1 : Nat) : Int) from rfl]
  simp only [bits, BitVec.ofInt_natCast, BitVec.toNat_or, BitVec.toNat_ofNat, h64]
  rw [Nat.mod_eq_of_lt (show T < 18446744073709551616 by omega), Nat.mod_eq_of_lt (show 1 < 18446744073709551616 by omega), hw _ hl]
/-- Whether two large ones without a sign part. -/
theorem run_dgs_neq (a b : Nat) (w : World) : (binOp .neq 42 (lv false (Pl.dgs a)) (lv false (Pl.dgs b))).run Tryz.prog w = .ok (.bool (!decide (a = b))) w := by
  unfold lv
  rw [run_large_neq]
  have e : ((bs (Pl.dgs a)).toList == (bs (Pl.dgs b)).toList) = decide (a = b) := by
    have h1 : ∀ l : List UInt8, (bs l).toList = l := fun l => by rw [ByteArray.toList_eq]
    rw [h1, h1]
    by_cases h : a = b
    · subst h; simp
    · rw [decide_eq_false h, beq_eq_false_iff_ne]
      exact fun h2 => h (dgs_inj h2)
  rw [e]; simp
set_option maxRecDepth 4000 in
set_option maxHeartbeats 2000000 in
theorem oflarge_any (neg : Bool) (V : Nat) (w : World) (hV : V < 256 ^ 4096) (hneg : neg = true → V ≠ 0) :
    Calls Tryz.prog 25 #[lv neg (Pl.dgs V)] w fun e w' => e = .returned (oflv neg V) ∧ Below w.heap.size w w' := by
  have hchk : Pl.chk neg (Pl.dgs V) = 0 := Pl.chk_dgs hV hneg
  have HC := Lib.hid (fun w => check_any neg (Pl.dgs V) w (by have := Pl.dgs_len hV; omega))
  rw [hchk] at HC
  have HN := Lib.hid (fun w => nbits_any neg V w hV hchk)
  obtain ⟨k, hk, hn, hT, hTk, hH, hF⟩ := heads_facts V hV
  have HS1 := Lib.hid (fun w => shift_down V k w hV (by omega))
  have HS2 := Lib.hid (fun w => shift_up (V / 2 ^ k) k w (Nat.lt_of_le_of_lt hTk hV) (by omega))
  have HSM := Lib.hid (fun w => small_any (V / 2 ^ k) w (by omega))
  have HQ := Lib.hid (fun w => run_dgs_neq (V / 2 ^ k * 2 ^ k) V w)
  have HH := Lib.hid (show Fl.heads V k = if V / 2 ^ k * 2 ^ k = V then V / 2 ^ k else V / 2 ^ k ||| 1 from rfl)
  have HLD := Lib.hid (fun w => Ldexp_any (Fl.fint (Fl.heads V k)) k w (by rw [Fl.fint_rung]; exact (Fl.word_mod _ (Nat.lt_of_le_of_lt (Fl.rung_le _ _) (by decide))).2.2) (by omega))
  rw [hF] at HLD
  obtain ⟨R, hR⟩ : ∃ R, Fl.rung (V * 2 ^ Fl.E74) 1 = R := ⟨_, rfl⟩
  have hRl : R ≤ 9218868437227405312 := by rw [← hR]; exact Fl.rung_le _ _
  have HV := Lib.hid (show oflv neg V = if R = 9218868437227405312 then .tuple #[.int .u64 0, .int .i64 101] else .tuple #[.int .u64 (Fl.D.word neg R : Nat), .int .i64 0] by unfold oflv; rw [hR])
  rw [hR] at HLD
  have hRg : 1100 < Pl.nb V → R = 9218868437227405312 := fun h => by
    rw [← hR]
    unfold Pl.nb at h
    by_cases h0 : V = 0
    · rw [if_pos h0] at h; omega
    · rw [if_neg h0] at h
      exact Fl.rung_great h0 (by omega)
  obtain ⟨FV, hFV⟩ : ∃ FV, oflv neg V = FV := ⟨_, rfl⟩
  have HFV := Lib.hid (hFV.symm.trans HV.out)
  rw [hFV]
  clear hF hR HV hchk hFV
  generalize Pl.nb V = n at *
  generalize V / 2 ^ k = T at *
  generalize Fl.heads V k = H at *
  have HL1 := Lib.hid (fun g => show lv g (Pl.dgs V) = .agg #[.bool g, .string (bs (Pl.dgs V))] from rfl)
  have HL2 := Lib.hid (show lv false (Pl.dgs T) = .agg #[.bool false, .string (bs (Pl.dgs T))] from rfl)
  have HL3 := Lib.hid (show lv false (Pl.dgs (T * 2 ^ k)) = .agg #[.bool false, .string (bs (Pl.dgs (T * 2 ^ k)))] from rfl)
  obtain ⟨eqb, heqb⟩ : ∃ b, decide (T * 2 ^ k = V) = b := ⟨_, rfl⟩
  rw [heqb] at HQ
  simp only [HL1.out, HL2.out, HL3.out] at HC HN HS1 HS2 HSM HQ ⊢
  have HHE := Lib.hid (show H = if eqb then T else T ||| 1 by rw [HH.out, ← heqb]; by_cases h : T * 2 ^ k = V <;> simp [h])
  clear HL1 HL2 HL3 HH heqb hTk hV
  generalize bs (Pl.dgs V) = SV at *
  generalize bs (Pl.dgs T) = ST at *
  generalize bs (Pl.dgs (T * 2 ^ k)) = SB at *
  have hmax : max ((n : Int) - 62) 0 = (k : Int) := by omega
  go_enter Tryz.func25, Tryz.ntmps25
  go_wp2_with fail
  refine (HC.out _).mono ?_
  rintro e w1 ⟨rfl, hB1⟩
  have hh : (w.alloc (.cells #[.bool neg, .string SV] 42)).heap[w.heap.size]? = some (.cells #[.bool neg, .string SV] 42) := heap_alloc_at _ _
  have HB1 := Lib.hid (show Below w.heap.size w w1 from ((Below.refl _ _).alloc (Nat.le_refl _) _).trans (hB1.mono (by simp)))
  have HP1 := Lib.hid (large_kept hh hB1)
  obtain ⟨c0, c1, _⟩ := large_cells HP1.out
  clear hB1 hh HC
  go_wp2_with fail
  refine (HN.out _).mono ?_
  rintro e w2 ⟨rfl, hB2⟩
  have HB2 := Lib.hid (HB1.out.trans (hB2.mono HB1.out.size))
  have HP2 := Lib.hid (large_kept HP1.out hB2)
  clear c0 c1
  obtain ⟨c0, c1, _⟩ := large_cells HP2.out
  clear hB2 HP1 HB1 HN
  go_wp2_with fail
  obtain ⟨C1, hC⟩ : ∃ C, w2.heap.size = C := ⟨_, rfl⟩
  have hb : Below w2.heap.size w2 (w2.alloc (.cells #[.bool false, .string SV] 42)) := (Below.refl _ _).alloc (Nat.le_refl _) _
  have hh : (w2.alloc (.cells #[.bool false, .string SV] 42)).heap[w2.heap.size]? = some (.cells #[.bool false, .string SV] 42) := heap_alloc_at _ _
  rw [hC] at hh ⊢
  generalize w2.alloc (.cells #[.bool false, .string SV] 42) = w3 at hb hh ⊢
  have HB3 := Lib.hid (HB2.out.trans (hb.mono HB2.out.size))
  have HP3 := Lib.hid (large_kept HP2.out hb)
  have HU3 := Lib.hid hh
  clear hb HB2 HP2 hh hC c0 c1
  refine (HS1.out _).mono ?_
  rintro e w4 ⟨rfl, hb⟩
  have HB4 := Lib.hid (HB3.out.trans (hb.mono HB3.out.size))
  have HP4 := Lib.hid (large_kept HP3.out hb)
  have HU4 := Lib.hid (large_kept HU3.out hb)
  clear hb HB3 HP3 HU3
  go_wp2_with fail
  obtain ⟨C2, hC⟩ : ∃ C, w4.heap.size = C := ⟨_, rfl⟩
  have hb : Below w4.heap.size w4 (w4.alloc (.cells #[.bool false, .string ST] 42)) := (Below.refl _ _).alloc (Nat.le_refl _) _
  have hh : (w4.alloc (.cells #[.bool false, .string ST] 42)).heap[w4.heap.size]? = some (.cells #[.bool false, .string ST] 42) := heap_alloc_at _ _
  rw [hC] at hh ⊢
  generalize w4.alloc (.cells #[.bool false, .string ST] 42) = w5 at hb hh ⊢
  have HB5 := Lib.hid (HB4.out.trans (hb.mono HB4.out.size))
  have HP5 := Lib.hid (large_kept HP4.out hb)
  have HU5 := Lib.hid (large_kept HU4.out hb)
  have HT5 := Lib.hid hh
  clear hb HB4 HP4 HU4 hh hC
  refine (HS2.out _).mono ?_
  rintro e w6 ⟨rfl, hb⟩
  have HB6 := Lib.hid (HB5.out.trans (hb.mono HB5.out.size))
  have HP6 := Lib.hid (large_kept HP5.out hb)
  have HU6 := Lib.hid (large_kept HU5.out hb)
  have HT6 := Lib.hid (large_kept HT5.out hb)
  clear hb HB5 HP5 HU5 HT5
  obtain ⟨c0, c1, _⟩ := large_cells HT6.out
  have hlt6 : C2 ≠ w6.heap.size := by have := (large_cells HT6.out).2.2; omega
  go_wp2_with fail
  clear c0 c1 hlt6
  obtain ⟨C3, hC⟩ : ∃ C, w6.heap.size = C := ⟨_, rfl⟩
  have hb : Below w6.heap.size w6 (w6.alloc (.cells #[.bool false, .string SB] 42)) := (Below.refl _ _).alloc (Nat.le_refl _) _
  have hh : (w6.alloc (.cells #[.bool false, .string SB] 42)).heap[w6.heap.size]? = some (.cells #[.bool false, .string SB] 42) := heap_alloc_at _ _
  rw [hC] at hh ⊢
  generalize w6.alloc (.cells #[.bool false, .string SB] 42) = w7 at hb hh ⊢
  have HB7 := Lib.hid (HB6.out.trans (hb.mono HB6.out.size))
  have HP7 := Lib.hid (large_kept HP6.out hb)
  have HU7 := Lib.hid (large_kept HU6.out hb)
  have HK7 := Lib.hid hh
  clear hb HB6 HP6 HU6 HT6 hh hC
  refine (HSM.out _).mono ?_
  rintro e w8 ⟨rfl, hb⟩
  have HB8 := Lib.hid (HB7.out.trans (hb.mono HB7.out.size))
  have HP8 := Lib.hid (large_kept HP7.out hb)
  have HU8 := Lib.hid (large_kept HU7.out hb)
  have HK8 := Lib.hid (large_kept HK7.out hb)
  clear hb HB7 HP7 HU7 HK7
  obtain ⟨p0, p1, _⟩ := large_cells HP8.out
  obtain ⟨u0, u1, _⟩ := large_cells HU8.out
  obtain ⟨b0, b1, _⟩ := large_cells HK8.out
  clear HP8 HU8 HK8 HSM HS1 HS2
  have hg := guard_large
  have hq := HQ.out
  have HLD' : Hid (∀ w, Calls Tryz.prog 57 #[.float .f64 (floatOfInt .f64 (H : Int)), .int .i64 k] w fun e w' => e = .returned (.float .f64 R) ∧ w = w') := Lib.hid HLD.out
  have HIN := Lib.hid (fun w => isInf0_any R (by omega) w)
  rw [Nat.mod_eq_of_lt (by omega)] at HIN
  have HT1 := Lib.hid (fun w => told_any R w)
  rw [show Fl.told R = R by unfold Fl.told Fl.isNan; rw [if_neg (by simp; omega)]] at HT1
  have hxr : R ^^^ 9223372036854775808 = 9223372036854775808 + R := Fl.xor_low (by omega)
  have HT2 := Lib.hid (fun w => told_any (9223372036854775808 + R) w)
  rw [show Fl.told (9223372036854775808 + R) = 9223372036854775808 + R by unfold Fl.told Fl.isNan; rw [if_neg (by simp; omega)]] at HT2
  have hun : ∀ w, (Op.unary .neg (.float .f64 R)).run Tryz.prog w = .ok (.float .f64 (9223372036854775808 + R)) w := fun w => by rw [run_neg, hxr]
  have hor : eqb = false → bits .or .i64 (T : Int) 1 = (H : Int) := fun h => by
    rw [HHE.out, h]
    exact bits_or_one hT
  have hHT : eqb = true → H = T := fun h => by rw [HHE.out, h]; rfl
  clear HLD HQ HHE hxr hH
  have hfin : (decide (R = 9218868437227405312) = true) ∨ (decide (R = 9218868437227405312) = false ∧ decide (1100 < (n : Int)) = false) := by
    by_cases h : R = 9218868437227405312
    · exact .inl (decide_eq_true h)
    · exact .inr ⟨decide_eq_false h, decide_eq_false (fun h2 => h (hRg (by omega)))⟩
  have hcase : (eqb = true ∧ H = T) ∨ (eqb = false ∧ bits .or .i64 (T : Int) 1 = (H : Int)) := by
    cases eqb
    · exact .inr ⟨rfl, hor rfl⟩
    · exact .inl ⟨rfl, hHT rfl⟩
  clear hor hHT hRg hneg
  rcases hcase with ⟨rfl, rfl⟩ | ⟨rfl, hor⟩
  all_goals
    go_wp2_with fail
    refine (HLD'.out _).mono ?_
    rintro e w' ⟨rfl, rfl⟩
    go_wp2_with fail
    refine (HIN.out _).mono ?_
    rintro e w' ⟨rfl, rfl⟩
    rcases hfin with hf | ⟨hf, hf2⟩
    · have HE := Lib.hid (of_decide_eq_true hf)
      rw [hf]
      clear hf
      go_wp2_with fail
      go_ret2
      exact ⟨by rw [HFV.out, if_pos HE.out]; rfl, HB8.out⟩
    · have HE := Lib.hid (of_decide_eq_false hf)
      rw [hf]
      clear hf
      cases neg
      · go_wp2_with fail
        refine (HT1.out _).mono ?_
        rintro e w' ⟨rfl, rfl⟩
        go_wp2_with fail
        go_ret2
        exact ⟨by rw [HFV.out, if_neg HE.out, Fl.word_is]; simp, HB8.out⟩
      · go_wp2_with fail
        refine (HT2.out _).mono ?_
        rintro e w' ⟨rfl, rfl⟩
        go_wp2_with fail
        go_ret2
        exact ⟨by rw [HFV.out, if_neg HE.out, Fl.word_is]; simp, HB8.out⟩
end Go.Proofs.YtgdohmaljbggjaaGreatDoor
namespace Go.Proofs.YtgdohmaljbggjaaGreatDoor.Fl
open Ieee
theorem rootFrom_is (n : Nat) : ∀ (todo root : Nat), root * root ≤ n → n < (root + 2 ^ todo) * (root + 2 ^ todo) →
    Datum.rootFrom n todo root * Datum.rootFrom n todo root ≤ n ∧ n < (Datum.rootFrom n todo root + 1) * (Datum.rootFrom n todo root + 1)
  | 0, root, h1, h2 => by simpa [Datum.rootFrom] using ⟨h1, h2⟩
  | todo + 1, root, h1, h2 => by
    unfold Datum.rootFrom
    simp only [Nat.shiftLeft_eq, Nat.one_mul]
    by_cases h : (root + 2 ^ todo) * (root + 2 ^ todo) ≤ n
    · rw [if_pos h]
      refine rootFrom_is n todo _ h ?_
      rw [Nat.add_assoc, show 2 ^ todo + 2 ^ todo = 2 ^ (todo + 1) by rw [Nat.pow_succ]; omega]
      exact h2
    · rw [if_neg h]
      exact rootFrom_is n todo _ h1 (by omega)
theorem root_is (n : Nat) : ∃ r, Datum.rootFrom n (n.log2 / 2 + 1) 0 = r ∧ r * r ≤ n ∧ n < (r + 1) * (r + 1) := by
  refine ⟨_, rfl, rootFrom_is n _ 0 (by omega) ?_⟩
  rw [Nat.zero_add, ← Nat.pow_add]
  have h1 : n < 2 ^ (n.log2 + 1) := Nat.lt_log2_self
  exact Nat.lt_of_lt_of_le h1 (Nat.pow_le_pow_right (by omega) (by omega))
theorem root_unique {n r z : Nat} (h1 : r * r ≤ n) (h2 : n < (r + 1) * (r + 1)) (h3 : z * z ≤ n) (h4 : n < (z + 1) * (z + 1)) : r = z := by
  rcases Nat.lt_trichotomy r z with h | h | h
  · have := Nat.mul_le_mul (show r + 1 ≤ z by omega) (show r + 1 ≤ z by omega); omega
  · exact h
  · have := Nat.mul_le_mul (show z + 1 ≤ r by omega) (show z + 1 ≤ r by omega); omega
theorem sq_div : ∀ (K y n : Nat), y * y = n * 4 ^ K → ∃ z, y = z * 2 ^ K ∧ z * z = n
  | 0, y, n, h => ⟨y, by simp, by simpa using h⟩
  | K + 1, y, n, h => by
    have he : y % 2 = 0 := by
      have h1 : (y * y) % 2 = 0 := by rw [h, Nat.pow_succ, ← Nat.mul_assoc]; omega
      rw [Nat.mul_mod] at h1
      rcases Nat.mod_two_eq_zero_or_one y with h2 | h2
      · exact h2
      · rw [h2] at h1; omega
    obtain ⟨x, hx⟩ : ∃ x, y = 2 * x := ⟨y / 2, by omega⟩
    subst hx
    have h3 : x * x = n * 4 ^ K := by
      rw [Nat.pow_succ] at h
      have : 2 * x * (2 * x) = 4 * (x * x) := by rw [Nat.mul_mul_mul_comm]
      rw [this, ← Nat.mul_assoc n] at h
      omega
    obtain ⟨z, h4, h5⟩ := sq_div K x n h3
    exact ⟨z, by rw [h4, Nat.pow_succ]; ac_rfl, h5⟩
/-- What the root of a number above nought is made of. -/
theorem sqrt_form {a : Nat} (ha : a % 9223372036854775808 < 9218868437227405312) (hp : 0 < V a) :
    ∃ n w K : Nat, (V a).natAbs * 2 ^ E74 = n * 4 ^ K ∧ 1 ≤ K ∧ w * w ≤ n ∧ n < (w + 1) * (w + 1) ∧ 2 ^ 107 ≤ n ∧ D.sqrt a = some (D.word false (rung ((2 * w + (w * w != n).toNat) * 2 ^ (K - 1)) 1)) := by
  obtain ⟨m, i, hr, hm, hi, hi2, hv, hA⟩ := fin_read ha
  have hE := E74_is
  have hs := V_sign ha
  have hm0 : m ≠ 0 := by
    intro h; subst h; rw [Nat.zero_mul] at hA; omega
  have hsg : sg a = false := by
    cases h : sg a
    · rfl
    · rw [h, if_pos rfl] at hs; omega
  have hl := (Nat.log2_lt hm0).2 (show m < 2 ^ 53 by simpa using hm)
  unfold Format.sqrt
  rw [hr, hsg]
  simp only [Datum.root, if_neg hm0, Bool.false_eq_true, if_false, Option.map_some, Format.write, show 2 * (D.fractionBits + 2) = 108 from rfl]
  obtain ⟨q, hq⟩ : ∃ q, 108 - m.log2 = q := ⟨_, rfl⟩
  rw [hq]
  obtain ⟨t, ht, ht1⟩ : ∃ t : Nat, ((i - q) % 2).toNat = t ∧ t ≤ 1 := ⟨_, rfl, by omega⟩
  rw [ht]
  obtain ⟨K, hK⟩ : ∃ K : Nat, (i - ((q + t : Nat) : Int)) / 2 = (K : Int) - 1074 := ⟨((i - ((q + t : Nat) : Int)) / 2 + 1074).toNat, by omega⟩
  have hev : (i - ((q + t : Nat) : Int)) = 2 * ((K : Int) - 1074) := by omega
  obtain ⟨r, hrr, h1, h2⟩ := root_is (m <<< (q + t))
  rw [hrr, hK, nearest_rung]
  refine ⟨m <<< (q + t), r, K, ?_, by omega, h1, h2, ?_, ?_⟩
  · rw [hA, Nat.shiftLeft_eq, show (4 : Nat) = 2 ^ 2 from rfl, ← Nat.pow_mul, Nat.mul_assoc, Nat.mul_assoc, ← Nat.pow_add, ← Nat.pow_add]
    congr 2
    omega
  · rw [Nat.shiftLeft_eq]
    have p1 := Nat.log2_self_le hm0
    have p2 : 2 ^ m.log2 * 2 ^ (q + t) ≤ m * 2 ^ (q + t) := Nat.mul_le_mul_right _ p1
    rw [← Nat.pow_add] at p2
    exact Nat.le_trans (Nat.pow_le_pow_right (by omega) (by omega)) p2
  · rw [show ((K : Int) - 1074 - 1 + 1074).toNat = K - 1 by omega, show (-((K : Int) - 1074 - 1 + 1074)).toNat = 0 by omega, Nat.pow_zero]
theorem is_sqrt {a : Nat} {x : Int} {y : Nat} (ha : Is a x) (h : x * 2 ^ E74 = (y : Int) * y) (hf : Fits y) : Is (fsqrt a) y := by
  have hp : (0 : Int) < 2 ^ E74 := Int.pow_pos (by decide)
  have hx : 0 ≤ x := by
    rcases Int.lt_or_le x 0 with h1 | h1
    · have := Int.mul_neg_of_neg_of_pos h1 hp
      have := Int.mul_nonneg (show (0 : Int) ≤ y by omega) (show (0 : Int) ≤ y by omega)
      omega
    · exact h1
  by_cases h0 : x = 0
  · subst h0
    have hy : y = 0 := by
      rw [Int.zero_mul] at h
      rcases Int.mul_eq_zero.1 h.symm with h | h <;> omega
    subst hy
    obtain ⟨m, i, hr, hm, hi, hi2, hv, hA⟩ := fin_read ha.fin
    rw [is_V ha] at hA
    have hm0 : m = 0 := by
      have := Nat.two_pow_pos (i + 1074).toNat
      rcases Nat.mul_eq_zero.1 hA.symm with h | h
      · exact h
      · omega
    have e : fsqrt a = D.word (sg a) (rung 0 1) := by
      unfold fsqrt Format.sqrt
      rw [hr, hm0]
      simp only [Datum.root, if_pos, Option.map_some, Format.write, ans]
      rw [nearest_rung, Nat.zero_mul, rung_zero, rung_zero]
    rw [e]
    refine (is_rung _ (n := 0) (by omega) (by omega) ⟨0, 0, by simp, by omega, by omega⟩).of_eq ?_
    simp
  · obtain ⟨n, w, K, h1, h2, h3, h4, _, h5⟩ := sqrt_form ha.fin (by rw [is_V ha]; omega)
    rw [is_V ha] at h1
    have hyy : y * y = n * 4 ^ K := by
      rw [← h1]
      have := congrArg Int.natAbs h
      rw [Int.natAbs_mul, Int.natAbs_mul, Int.natAbs_pow, Int.natAbs_natCast] at this
      exact this.symm
    obtain ⟨z, z1, z2⟩ := sq_div K y n hyy
    have hwz : w = z := root_unique h3 h4 (by omega) (by
      have : z * z < (z + 1) * (z + 1) := by rw [Nat.add_mul, Nat.mul_add]; omega
      omega)
    subst hwz
    unfold fsqrt
    rw [h5, show (w * w != n) = false by simp [z2]]
    show Is (D.word false (rung ((2 * w + 0) * 2 ^ (K - 1)) 1)) y
    refine (is_rung _ (n := y) (by omega) ?_ hf).of_eq (by simp)
    rw [z1, Nat.add_zero, Nat.mul_one, Nat.mul_comm 2 w, Nat.mul_assoc, Nat.mul_comm 2 (2 ^ (K - 1)), ← Nat.pow_succ, show (K - 1).succ = K by omega]
end Go.Proofs.YtgdohmaljbggjaaGreatDoor.Fl
