/- The contracts of ParseFloat and Read. Fixed floats, written and read. Texts of the form of a float, taken apart: what readFloat reads of them. Plain: the texts that are formed are the texts of digits with a point, maybe a sign, maybe a power. Plain facts of rounding a quotient of two whole numbers to a float (no program in sight). -/
import Derived.Test.YtpilniljhmkedaaGreatDoorRaal
import Derived.Test.YtpilniljhmkedaaGreatDoorRaai
import Derived.LaidEql
import Derived.Test.YtpilniljhmkedaaGreatDoorRaah
import Derived.Test.YtpilniljhmkedaaGreatDoorRaaj
import Derived.Test.YtpilniljhmkedaaGreatDoorRaab
namespace Go.Proofs.YtpilniljhmkedaaGreatDoor
open Go.RowKit Go.Lib
/-- What atof64 answers of a text. -/
def AtofAs (s : ByteArray) (w : World) (r n : Nat) (v : Value) : Prop := Calls Tryz.prog 100 #[.string s] w fun e w' => e = .returned (.tuple #[.float .f64 r, .int .i64 n, v]) ∧ w = w'
theorem pre_any (s : ByteArray) (w : World) (r n : Nat) (v : Value) (h : AtofAs s w r n v) :
    Calls Tryz.prog 70 #[.string s, .int .i64 64] w fun e w' => e = .returned (.tuple #[.float .f64 r, .int .i64 n, v]) ∧ w = w' := by
  go_enter Tryz.func70, Tryz.ntmps70
  go_wp2_with fail
  refine h.mono ?_
  rintro e w' ⟨rfl, rfl⟩
  go_wp2_with fail
  go_ret3
  exact ⟨rfl, rfl⟩
theorem iparse_any (s : ByteArray) (w : World) (r n : Nat) (v : Value) (h : AtofAs s w r n v) (hn : Hid (s.size = n)) :
    Calls Tryz.prog 37 #[.string s, .int .i64 64] w fun e w' => e = .returned (.tuple #[.float .f64 r, v]) ∧ w = w' := by
  have hn' := hn.out
  have b1 : ((n : Int) != (n : Int)) = false := by simp
  go_enter Tryz.func37, Tryz.ntmps37
  go_wp2_with fail
  refine (pre_any s _ r n v h).mono ?_
  rintro e w' ⟨rfl, rfl⟩
  go_wp2_with fail
  go_ret2
  exact ⟨rfl, rfl⟩
theorem parse_ok (s : ByteArray) (w : World) (r n : Nat) (h : AtofAs s w r n .nilIface) (hn : Hid (s.size = n)) :
    Calls Tryz.prog 17 #[.string s, .int .i64 64] w fun e w' => e = .returned (.tuple #[.float .f64 r, .nilIface]) ∧ w = w' := by
  go_enter Tryz.func17, Tryz.ntmps17
  go_wp2_with fail
  refine (iparse_any s _ r n _ h hn).mono ?_
  rintro e w' ⟨rfl, rfl⟩
  go_wp2_with fail
  go_ret2
  exact ⟨rfl, rfl⟩
theorem info140 : (Tryz.prog.info? 95).map (fun i => i.comparable) = some true := by kernel_rfl
theorem run_err_eq (w : World) (a b : Int) : (binOp .eql 44 (.iface 95 (.int .i64 a)) (.iface 95 (.int .i64 b))).run Tryz.prog w = .ok (.bool (a == b)) w := by
  have hi := Tryz.underlying44
  have hn := Tryz.underlying95
  have h0 := info140
  cases hinfo : Tryz.prog.info? 95 with
  | none => rw [hinfo] at h0; cases h0
  | some i =>
    rw [hinfo] at h0
    have hcomp : i.comparable = true := by simpa using h0
    have key : ∀ d, (Op.equalIn (d + 2) 44 (.iface 95 (.int .i64 a)) (.iface 95 (.int .i64 b))).run Tryz.prog w = .ok (a == b) w := by
      intro d
      simp [Op.equalIn, run_underlying hi, run_underlying hn, typeInfo, hinfo, hcomp]
    simp only [binOp]
    simp [Op.equal, Op.maxDepth, key 9998]
set_option maxHeartbeats 1000000 in
theorem toError_range (fn s : ByteArray) (w : World) (hs : s.size ≤ 100000) (he : Env w) :
    Calls Tryz.prog 38 #[.string fn, .string s, .int .i64 0, .int .i64 64, .iface 95 (.int .i64 1)] w fun e w' => ∃ a, e = .returned (.iface 96 (.pointer (some a))) ∧ Below w.heap.size w w' := by
  obtain ⟨ev, hv1, hv2⟩ := he.err
  have HR := Lib.hid (Tryz.strconv_rangeError fn s ev w (by omega) hv1 hv2)
  have h1 := run_err_eq
  clear hv1 hv2
  go_enter Tryz.func38, Tryz.ntmps38
  go_wp2_with fail
  refine HR.out.mono ?_
  rintro e w1 ⟨N, rfl, _, _, hB⟩
  go_wp2_with fail
  go_ret
  exact ⟨_, rfl, hB⟩
set_option maxHeartbeats 1000000 in
theorem parse_far (s : ByteArray) (w : World) (r n : Nat) (h : AtofAs s w r n (.iface 95 (.int .i64 1))) (hn : Hid (s.size = n)) (hs : s.size ≤ 100000) (he : Env w) :
    Calls Tryz.prog 17 #[.string s, .int .i64 64] w fun e w' => ∃ a, e = .returned (.tuple #[.float .f64 r, .iface 96 (.pointer (some a))]) ∧ Below w.heap.size w w' := by
  go_enter Tryz.func17, Tryz.ntmps17
  go_wp2_with fail
  refine (iparse_any s _ r n _ h hn).mono ?_
  rintro e w' ⟨rfl, rfl⟩
  go_wp2_with fail
  refine (toError_range _ s _ hs he).mono ?_
  rintro e w1 ⟨a, rfl, hB⟩
  go_wp2_with fail
  go_ret2
  exact ⟨_, rfl, hB⟩
theorem read_no (l : List UInt8) (w : World) (hl : l.length ≤ 1000000) (hf : Pl.formed l = false) :
    Calls Tryz.prog 7 #[.string (bs l)] w fun e w' => e = .returned (.tuple #[.int .u64 0, .int .i64 100]) ∧ Below w.heap.size w w' := by
  have HF := Lib.hid (formed_any l w hl)
  rw [hf] at HF
  generalize bs l = s at *
  go_enter Tryz.func7, Tryz.ntmps7
  go_wp2_with fail
  refine HF.out.mono ?_
  rintro e w1 ⟨rfl, hB⟩
  go_wp2_with fail
  go_ret2
  exact ⟨rfl, hB⟩
theorem read_far (l : List UInt8) (w : World) (hl : l.length ≤ 1000) (hf : Pl.formed l = true) (he : Env w) (r : Nat) (h : ∀ w, Env w → AtofAs (bs l) w r l.length (.iface 95 (.int .i64 1))) :
    Calls Tryz.prog 7 #[.string (bs l)] w fun e w' => e = .returned (.tuple #[.int .u64 0, .int .i64 101]) ∧ Below w.heap.size w w' := by
  have HF := Lib.hid (formed_any l w (by omega))
  have HP := Lib.hid (fun w he => parse_far (bs l) w r l.length (h w he) (Lib.hid rfl) (by rw [bs_size]; omega) he)
  rw [hf] at HF
  clear h
  generalize bs l = s at *
  go_enter Tryz.func7, Tryz.ntmps7
  go_wp2_with fail
  refine HF.out.mono ?_
  rintro e w1 ⟨rfl, hB⟩
  go_wp2_with fail
  refine (HP.out _ (he.below hB)).mono ?_
  rintro e w2 ⟨a, rfl, hB2⟩
  go_wp2_with fail
  go_ret2
  exact ⟨rfl, hB.trans (hB2.mono hB.size)⟩
theorem read_ok (l : List UInt8) (w : World) (hl : l.length ≤ 1000) (hf : Pl.formed l = true) (he : Env w) (r : Nat) (h : ∀ w, Env w → AtofAs (bs l) w r l.length .nilIface) :
    Calls Tryz.prog 7 #[.string (bs l)] w fun e w' => e = .returned (.tuple #[.int .u64 (Fl.told r), .int .i64 0]) ∧ Below w.heap.size w w' := by
  have HF := Lib.hid (formed_any l w (by omega))
  have HP := Lib.hid (fun w he => parse_ok (bs l) w r l.length (h w he) (Lib.hid rfl))
  rw [hf] at HF
  clear h
  generalize bs l = s at *
  go_enter Tryz.func7, Tryz.ntmps7
  go_wp2_with fail
  refine HF.out.mono ?_
  rintro e w1 ⟨rfl, hB⟩
  go_wp2_with fail
  refine (HP.out _ (he.below hB)).mono ?_
  rintro e w2 ⟨rfl, rfl⟩
  go_wp2_with fail
  refine (told_any _ _).mono ?_
  rintro e w2 ⟨rfl, rfl⟩
  go_wp2_with fail
  go_ret2
  exact ⟨rfl, hB⟩
end Go.Proofs.YtpilniljhmkedaaGreatDoor
namespace Go.Proofs.YtpilniljhmkedaaGreatDoor
open Go.RowKit Go.Lib
theorem show_one : Pl.showN 4607182418800017408 = [49, 46, 48] := by
  have h : Pl.decOf 4607182418800017408 = (1000000000000000, -15) := by decide +kernel
  simp [Pl.showN, Pl.digs, Pl.dpt, h, Pl.sig, decDigits, nDigits, Pl.trimZ, Pl.written, Pl.pointed]
theorem show_tiny : Pl.showN 1 = [53, 46, 48, 101, 45, 51, 50, 52] := by
  have h : Pl.decOf 1 = (5, -324) := by decide +kernel
  simp [Pl.showN, Pl.digs, Pl.dpt, h, Pl.sig, decDigits, nDigits, Pl.trimZ, Pl.written, Pl.pointed, Lib.itoa]
theorem show_most : Pl.showN 9218868437227405311 = [49, 46, 55, 57, 55, 54, 57, 51, 49, 51, 52, 56, 54, 50, 51, 49, 53, 55, 101, 51, 48, 56] := by
  have h : Pl.decOf 9218868437227405311 = (17976931348623157, 292) := by decide +kernel
  simp [Pl.showN, Pl.digs, Pl.dpt, h, Pl.sig, decDigits, nDigits, Pl.trimZ, Pl.written, Pl.pointed, Lib.itoa]
theorem show_sum : Pl.showN 4599075939470750516 = [48, 46, 51, 48, 48, 48, 48, 48, 48, 48, 48, 48, 48, 48, 48, 48, 48, 48, 52] := by
  have h : Pl.decOf 4599075939470750516 = (30000000000000004, -17) := by decide +kernel
  simp [Pl.showN, Pl.digs, Pl.dpt, h, Pl.sig, decDigits, nDigits, Pl.trimZ, Pl.written, Lib.repeatL]
theorem show_half : Pl.showN 13826050856027422720 = [45, 48, 46, 53] := by
  have h : Pl.decOf 13826050856027422720 = (5000000000000000, -16) := by decide +kernel
  simp [Pl.showN, Pl.digs, Pl.dpt, h, Pl.sig, decDigits, nDigits, Pl.trimZ, Pl.written, Lib.repeatL]
theorem show_two : Pl.showN 2 = [49, 46, 48, 101, 45, 51, 50, 51] := by
  have h : Pl.decOf 2 = (1, -323) := by decide +kernel
  simp [Pl.showN, Pl.digs, Pl.dpt, h, Pl.sig, decDigits, nDigits, Pl.trimZ, Pl.written, Pl.pointed, Lib.itoa]
theorem reads_pos (M : List UInt8) (hM : MantOk M) (h3 : 3 ≤ M.length) (hl : M.length ≤ 1000) (hdig : (Pl.run M).dig = true) (hdot : (Pl.run M).dot = true) (hd0 : Pl.digit M[0]) :
    ReadsAs (bs M) (Pl.run M).m (Pl.expOf (Pl.run M) 0) false (Pl.run M).tr M.length := by
  intro w
  have h := read_pos_none (bs M) M w (Lib.hid (by rw [bs_size]; omega)) hM h3 hl (at_bs M) hdig hdot hd0
  rw [Nat.zero_add] at h
  exact h
theorem at_cons (c : UInt8) (M : List UInt8) : At (bs (c :: M)) 1 M := fun k h h2 => by
  have := at_bs (c :: M) (k + 1) (by simp; omega) (by rw [bs_size]; simp; omega)
  simp only [Nat.zero_add] at this
  have e : 1 + k = k + 1 := by omega
  simp only [e]
  rw [this]; rfl
theorem reads_neg (M : List UInt8) (hM : MantOk M) (h3 : 3 ≤ M.length) (hl : M.length ≤ 1000) (hdig : (Pl.run M).dig = true) (hdot : (Pl.run M).dot = true) (hd0 : Pl.digit M[0]) :
    ReadsAs (bs (45 :: M)) (Pl.run M).m (Pl.expOf (Pl.run M) 0) true (Pl.run M).tr (1 + M.length) := by
  intro w
  exact read_neg_none (bs (45 :: M)) M w (Lib.hid (by rw [bs_size]; simp; omega)) hM h3 hl (at_cons 45 M) hdig hdot hd0 (by rw [bs_size]; simp) rfl
theorem special_bs (M : List UInt8) (h : 0 < M.length) (hl : M.length ≤ 1000) (hd : 48 ≤ M[0].toNat ∧ M[0].toNat ≤ 57) : IsSpecial (bs M) := fun w => special_pos (bs M) w (by rw [bs_size]; exact h) (by rw [bs_size]; omega) hd
theorem special_minus (M : List UInt8) (h : 0 < M.length) (hl : M.length ≤ 1000) (hd : 48 ≤ M[0].toNat ∧ M[0].toNat ≤ 57) : IsSpecial (bs (45 :: M)) := fun w => special_neg (bs (45 :: M)) w (by rw [bs_size]; simp) (by rw [bs_size]; simp; exact h) (by rw [bs_size]; simp; omega) rfl hd
theorem mant3 {a b : UInt8} (ha : Pl.digit a) (hb : Pl.digit b) (h46 : (Pl.run [a]).dot = false) : MantOk [a, 46, b] := by
  refine ⟨by intro c hc; simp at hc; rcases hc with rfl | rfl | rfl; exact .inr ha; exact .inl rfl; exact .inr hb, ?_⟩
  intro k h hk
  match k, h with
  | 0, _ => rfl
  | 1, _ => exact h46
  | 2, _ => simp at hk; subst hk; unfold Pl.digit at hb; exact absurd hb (by decide)
/-- A short text of digits with a point, read. -/
theorem read_pos (M : List UInt8) (m k p r : Nat) (w : World) (he : Env w) (hM : MantOk M) (h3 : 3 ≤ M.length) (hl : M.length ≤ 1000) (e1 : (Pl.run M).m = m) (e2 : (Pl.run M).tr = false) (e3 : (Pl.run M).dig = true) (e4 : (Pl.run M).dot = true) (hd0 : 48 ≤ M[0].toNat ∧ M[0].toNat ≤ 57)
    (hf : Pl.formed M = true) (hk : Pl.expOf (Pl.run M) 0 = -(k : Int)) (hm : m < 4503599627370496) (hm0 : 0 < m) (hk2 : k ≤ 22) (hk0 : 0 < k) (hp : Pl.f10[k]? = some p) (hd : Fl.D.div (floatOfInt .f64 (m : Int)) p = some r) :
    Calls Tryz.prog 7 #[.string (bs M)] w fun e w' => e = .returned (.tuple #[.int .u64 (Fl.told r), .int .i64 0]) ∧ Below w.heap.size w w' := by
  have hr := reads_pos M hM h3 hl e3 e4 hd0
  rw [hk] at hr
  rw [e1, e2] at hr
  exact read_ok M w hl hf he r (fun w he => atof_div (bs M) M.length m k p r _ false w (special_bs M (by omega) hl hd0) hr hm hm0 hk2 hk0 he hp (if_neg Bool.false_ne_true) hd)
theorem read_neg (M : List UInt8) (m k p r : Nat) (w : World) (he : Env w) (hM : MantOk M) (h3 : 3 ≤ M.length) (hl : M.length ≤ 900) (e1 : (Pl.run M).m = m) (e2 : (Pl.run M).tr = false) (e3 : (Pl.run M).dig = true) (e4 : (Pl.run M).dot = true) (hd0 : 48 ≤ M[0].toNat ∧ M[0].toNat ≤ 57)
    (hf : Pl.formed (45 :: M) = true) (hk : Pl.expOf (Pl.run M) 0 = -(k : Int)) (hm : m < 4503599627370496) (hm0 : 0 < m) (hk2 : k ≤ 22) (hk0 : 0 < k) (hp : Pl.f10[k]? = some p) (hd : Fl.D.div (floatOfInt .f64 (m : Int) ^^^ 9223372036854775808) p = some r) :
    Calls Tryz.prog 7 #[.string (bs (45 :: M))] w fun e w' => e = .returned (.tuple #[.int .u64 (Fl.told r), .int .i64 0]) ∧ Below w.heap.size w w' := by
  have hr := reads_neg M hM h3 (by omega) e3 e4 hd0
  rw [hk] at hr
  rw [e1, e2] at hr
  exact read_ok (45 :: M) w (by simp; omega) hf he r (fun w he => by
    have := atof_div (bs (45 :: M)) (1 + M.length) m k p r _ true w (special_minus M (by omega) (by omega) hd0) hr hm hm0 hk2 hk0 he hp (if_pos rfl) hd
    rw [Nat.add_comm] at this
    exact this)
theorem read_tenth (w : World) (he : Env w) : Calls Tryz.prog 7 #[.string (bs [48, 46, 49])] w fun e w' => e = .returned (.tuple #[.int .u64 4591870180066957722, .int .i64 0]) ∧ Below w.heap.size w w' :=
  read_pos [48, 46, 49] 1 1 4621819117588971520 4591870180066957722 w he (mant3 (by unfold Pl.digit; decide) (by unfold Pl.digit; decide) rfl) (by decide) (by decide) (by decide) (by decide) (by decide) (by decide) (by decide) (by decide +kernel) (by decide) (by decide) (by decide) (by decide) (by decide) rfl (by decide +kernel)
theorem read_fifth (w : World) (he : Env w) : Calls Tryz.prog 7 #[.string (bs [48, 46, 50])] w fun e w' => e = .returned (.tuple #[.int .u64 4596373779694328218, .int .i64 0]) ∧ Below w.heap.size w w' :=
  read_pos [48, 46, 50] 2 1 4621819117588971520 4596373779694328218 w he (mant3 (by unfold Pl.digit; decide) (by unfold Pl.digit; decide) rfl) (by decide) (by decide) (by decide) (by decide) (by decide) (by decide) (by decide) (by decide +kernel) (by decide) (by decide) (by decide) (by decide) (by decide) rfl (by decide +kernel)
theorem read_minus (w : World) (he : Env w) : Calls Tryz.prog 7 #[.string (bs [45, 50, 46, 53])] w fun e w' => e = .returned (.tuple #[.int .u64 13836183955189006336, .int .i64 0]) ∧ Below w.heap.size w w' :=
  read_neg [50, 46, 53] 25 1 4621819117588971520 13836183955189006336 w he (mant3 (by unfold Pl.digit; decide) (by unfold Pl.digit; decide) rfl) (by decide) (by decide) (by decide) (by decide) (by decide) (by decide) (by decide) (by decide +kernel) (by decide) (by decide) (by decide) (by decide) (by decide) rfl (by decide +kernel)
theorem read_three (w : World) (he : Env w) : Calls Tryz.prog 7 #[.string (bs [51, 46, 48])] w fun e w' => e = .returned (.tuple #[.int .u64 4613937818241073152, .int .i64 0]) ∧ Below w.heap.size w w' :=
  read_pos [51, 46, 48] 30 1 4621819117588971520 4613937818241073152 w he (mant3 (by unfold Pl.digit; decide) (by unfold Pl.digit; decide) rfl) (by decide) (by decide) (by decide) (by decide) (by decide) (by decide) (by decide) (by decide +kernel) (by decide) (by decide) (by decide) (by decide) (by decide) rfl (by decide +kernel)
theorem mant4 {a b c : UInt8} (ha : Pl.digit a) (hb : Pl.digit b) (hc : Pl.digit c) (h46 : (Pl.run [a]).dot = false) : MantOk [a, 46, b, c] := by
  refine ⟨by intro c hc; simp at hc; rcases hc with rfl | rfl | rfl | rfl; exact .inr ha; exact .inl rfl; exact .inr hb; exact .inr ‹_›, ?_⟩
  intro k h hk
  match k, h with
  | 0, _ => rfl
  | 1, _ => exact h46
  | 2, _ => simp at hk; subst hk; unfold Pl.digit at hb; exact absurd hb (by decide)
  | 3, _ => simp at hk; subst hk; unfold Pl.digit at hc; exact absurd hc (by decide)
theorem read_most (w : World) (he : Env w) : Calls Tryz.prog 7 #[.string (bs [48, 46, 55, 53])] w fun e w' => e = .returned (.tuple #[.int .u64 4604930618986332160, .int .i64 0]) ∧ Below w.heap.size w w' :=
  read_pos [48, 46, 55, 53] 75 2 4636737291354636288 4604930618986332160 w he (mant4 (by unfold Pl.digit; decide) (by unfold Pl.digit; decide) (by unfold Pl.digit; decide) rfl) (by decide) (by decide) (by decide) (by decide) (by decide) (by decide) (by decide) (by decide +kernel) (by decide) (by decide) (by decide) (by decide) (by decide) rfl (by decide +kernel)
end Go.Proofs.YtpilniljhmkedaaGreatDoor
namespace Go.Proofs.YtpilniljhmkedaaGreatDoor
open Go.RowKit Go.Lib
/-- a text of digits with a point, maybe a sign, maybe a power -/
structure Txt where
  neg : Bool
  X : List UInt8
  Y : List UInt8
  ex : Option (Bool × List UInt8)
namespace Txt
def body (t : Txt) : List UInt8 := t.X ++ 46 :: t.Y
def tail (t : Txt) : List UInt8 := match t.ex with | none => [] | some (false, D) => 101 :: D | some (true, D) => 101 :: 45 :: D
def text (t : Txt) : List UInt8 := (if t.neg then [45] else []) ++ (t.body ++ t.tail)
def exp (t : Txt) : Int := match t.ex with | none => 0 | some (false, D) => Pl.erun D | some (true, D) => -(Pl.erun D : Int)
structure Ok (t : Txt) : Prop where
  x0 : t.X ≠ []
  y0 : t.Y ≠ []
  xd : ∀ c ∈ t.X, Pl.digit c
  yd : ∀ c ∈ t.Y, Pl.digit c
  ed : ∀ s D, t.ex = some (s, D) → D ≠ [] ∧ ∀ c ∈ D, Pl.digit c
  len : t.text.length ≤ 400
end Txt
theorem run_flags (X : List UInt8) (hX : ∀ c ∈ X, Pl.digit c) : (Pl.run X).dot = false ∧ (X ≠ [] → (Pl.run X).dig = true) := by
  induction X using Pl.snocRec with
  | nil => exact ⟨rfl, fun h => absurd rfl h⟩
  | snoc X c ih =>
    have hc := hX c (by simp)
    obtain ⟨i1, i2⟩ := ih (fun x hx => hX x (by simp [hx]))
    rw [Pl.run_snoc]
    unfold Pl.step
    rw [if_neg (Pl.digit_ne46 hc)]
    constructor
    · split
      · exact i1
      · split <;> exact i1
    · intro _
      split
      · rfl
      · split <;> rfl
theorem run_flags2 (X Y : List UInt8) (hX : ∀ c ∈ X, Pl.digit c) (hX0 : X ≠ []) (hY : ∀ c ∈ Y, Pl.digit c) : (Pl.run (X ++ 46 :: Y)).dot = true ∧ (Pl.run (X ++ 46 :: Y)).dig = true := by
  induction Y using Pl.snocRec with
  | nil =>
    have e : X ++ 46 :: [] = X ++ [46] := rfl
    rw [e, Pl.run_snoc]
    unfold Pl.step
    rw [if_pos rfl]
    exact ⟨rfl, (run_flags X hX).2 hX0⟩
  | snoc Y c ih =>
    have hc := hY c (by simp)
    obtain ⟨i1, i2⟩ := ih (fun x hx => hY x (by simp [hx]))
    have e : X ++ 46 :: (Y ++ [c]) = (X ++ 46 :: Y) ++ [c] := by simp
    rw [e, Pl.run_snoc]
    unfold Pl.step
    rw [if_neg (Pl.digit_ne46 hc)]
    constructor
    · split
      · exact i1
      · split <;> exact i1
    · split
      · rfl
      · split <;> rfl
theorem mant_ok {X Y : List UInt8} (hX : ∀ c ∈ X, Pl.digit c) (hY : ∀ c ∈ Y, Pl.digit c) : MantOk (X ++ 46 :: Y) := by
  constructor
  · intro c hc
    rcases List.mem_append.1 hc with hc | hc
    · exact .inr (hX c hc)
    · rcases List.mem_cons.1 hc with hc | hc
      · exact .inl hc
      · exact .inr (hY c hc)
  · intro k hk e
    have hke : k = X.length := by
      rcases Nat.lt_trichotomy k X.length with h1 | h1 | h1
      · exfalso
        have := hX X[k] (List.getElem_mem _)
        rw [List.getElem_append_left h1] at e
        exact Pl.digit_ne46 this e
      · exact h1
      · exfalso
        rw [List.getElem_append_right (by omega)] at e
        obtain ⟨j, hj⟩ : ∃ j, k - X.length = j + 1 := ⟨k - X.length - 1, by omega⟩
        simp only [hj, List.getElem_cons_succ] at e
        exact Pl.digit_ne46 (hY _ (List.getElem_mem _)) e
    subst hke
    rw [List.take_left' rfl]
    exact (run_flags X hX).1
theorem mant_head {X Y : List UInt8} (hX : ∀ c ∈ X, Pl.digit c) (h0 : X ≠ []) (q : 0 < (X ++ 46 :: Y).length) : Pl.digit (X ++ 46 :: Y)[0] := by
  have h1 := List.length_pos_iff.2 h0
  rw [List.getElem_append_left h1]
  exact hX _ (List.getElem_mem _)
theorem at_mid (A B C : List UInt8) : At (bs (A ++ (B ++ C))) A.length B := fun k h h2 => by
  have := at_bs (A ++ (B ++ C)) (A.length + k) (by simp; omega) (by simpa using h2)
  simp only [Nat.zero_add] at this
  rw [this, List.getElem_append_right (by omega)]
  simp only [Nat.add_sub_cancel_left]
  rw [List.getElem_append_left h]
theorem get_mid (A : List UInt8) (c : UInt8) (C : List UInt8) (q : A.length < (bs (A ++ c :: C)).size) : (bs (A ++ c :: C))[A.length]'q = c := by
  have := at_mid A [c] C 0 (by simp) (by simpa using q)
  simpa using this
theorem txt_reads {t : Txt} (h : t.Ok) : ReadsAs (bs t.text) (Pl.run t.body).m (Pl.expOf (Pl.run t.body) t.exp) t.neg (Pl.run t.body).tr t.text.length := by
  have hM := mant_ok h.xd h.yd
  have h3 : 3 ≤ (t.X ++ 46 :: t.Y).length := by
    have h1 := List.length_pos_iff.2 h.x0
    have h2 := List.length_pos_iff.2 h.y0
    simp
    omega
  have hd0 := mant_head (Y := t.Y) h.xd h.x0
  obtain ⟨f1, f2⟩ := run_flags2 t.X t.Y h.xd h.x0 h.yd
  have hl := h.len
  have hed := h.ed
  obtain ⟨neg, X, Y, ex⟩ := t
  simp only at hM h3 hd0 f1 f2 hl hed
  unfold Txt.text Txt.body at hl
  simp only at hl
  show ReadsAs (bs ((if neg = true then [45] else []) ++ ((X ++ 46 :: Y) ++ Txt.tail ⟨neg, X, Y, ex⟩))) (Pl.run (X ++ 46 :: Y)).m (Pl.expOf (Pl.run (X ++ 46 :: Y)) (Txt.exp ⟨neg, X, Y, ex⟩)) neg (Pl.run (X ++ 46 :: Y)).tr ((if neg = true then [45] else []) ++ ((X ++ 46 :: Y) ++ Txt.tail ⟨neg, X, Y, ex⟩)).length
  generalize X ++ 46 :: Y = M at hM h3 hd0 f1 f2 hl ⊢
  have hd0 := hd0 (by omega)
  cases neg
  · rcases ex with _ | ⟨_ | _, D⟩
    · have hl' : M.length ≤ 400 := by simp [Txt.tail] at hl; omega
      simp only [Txt.tail, Txt.exp, Bool.false_eq_true, if_false, if_true, List.nil_append, List.append_nil, List.cons_append]
      intro w
      have r := read_pos_none (bs (M)) M w (Lib.hid (by rw [bs_size]; simp)) hM h3 (by omega) (by have := at_mid [] M []; simpa using this) f2 f1 hd0
      have e : 0 + M.length = (M).length := by simp
      rw [e] at r
      exact r
    · obtain ⟨e0, ed⟩ := hed false D rfl
      have hD := List.length_pos_iff.2 e0
      have hl' : M.length + (D.length + 1) ≤ 400 := by simp [Txt.tail] at hl; omega
      simp only [Txt.tail, Txt.exp, Bool.false_eq_true, if_false, if_true, List.nil_append, List.append_nil, List.cons_append]
      intro w
      have r := read_pos_exp (bs ((M ++ 101 :: D))) M D w (Lib.hid (by rw [bs_size]; simp <;> omega)) hD (by omega) ed (by have := at_mid (M ++ [101]) D []; simpa [Nat.add_assoc, Nat.add_comm, Nat.add_left_comm] using this) (by rw [bs_size]; simp <;> omega) (by have := get_mid (M) 101 (D) (by rw [bs_size]; simp); simpa [Nat.add_comm] using this) hM h3 (by omega) (by have := at_mid [] M (101 :: D); simpa using this) f2 f1 hd0
      have e : 0 + M.length + 1 + D.length = ((M ++ 101 :: D)).length := by simp <;> omega
      rw [e] at r
      exact r
    · obtain ⟨e0, ed⟩ := hed true D rfl
      have hD := List.length_pos_iff.2 e0
      have hl' : M.length + (D.length + 2) ≤ 400 := by simp [Txt.tail] at hl; omega
      simp only [Txt.tail, Txt.exp, Bool.false_eq_true, if_false, if_true, List.nil_append, List.append_nil, List.cons_append]
      intro w
      have r := read_pos_nexp (bs ((M ++ 101 :: 45 :: D))) M D w (Lib.hid (by rw [bs_size]; simp <;> omega)) hD (by omega) ed (by have := at_mid (M ++ [101, 45]) D []; simpa [Nat.add_assoc, Nat.add_comm, Nat.add_left_comm] using this) (by rw [bs_size]; simp <;> omega) (by have := get_mid (M) 101 (45 :: D) (by rw [bs_size]; simp); simpa [Nat.add_comm] using this) (by rw [bs_size]; simp <;> omega) (by have := get_mid (M ++ [101]) 45 D (by rw [bs_size]; simp); simpa [Nat.add_assoc, Nat.add_comm, Nat.add_left_comm] using this) hM h3 (by omega) (by have := at_mid [] M (101 :: 45 :: D); simpa using this) f2 f1 hd0
      have e : 0 + M.length + 2 + D.length = ((M ++ 101 :: 45 :: D)).length := by simp <;> omega
      rw [e] at r
      exact r
  · rcases ex with _ | ⟨_ | _, D⟩
    · have hl' : M.length + 1 ≤ 400 := by simp [Txt.tail] at hl; omega
      simp only [Txt.tail, Txt.exp, Bool.false_eq_true, if_false, if_true, List.nil_append, List.append_nil, List.cons_append]
      intro w
      have r := read_neg_none (bs (45 :: M)) M w (Lib.hid (by rw [bs_size]; simp <;> omega)) hM h3 (by omega) (by have := at_mid [45] M []; simpa using this) f2 f1 hd0 (by rw [bs_size]; simp) rfl
      have e : 1 + M.length = (45 :: M).length := by simp <;> omega
      rw [e] at r
      exact r
    · obtain ⟨e0, ed⟩ := hed false D rfl
      have hD := List.length_pos_iff.2 e0
      have hl' : M.length + (D.length + 2) ≤ 400 := by simp [Txt.tail] at hl; omega
      simp only [Txt.tail, Txt.exp, Bool.false_eq_true, if_false, if_true, List.nil_append, List.append_nil, List.cons_append]
      intro w
      have r := read_neg_exp (bs (45 :: (M ++ 101 :: D))) M D w (Lib.hid (by rw [bs_size]; simp <;> omega)) hD (by omega) ed (by have := at_mid ([45] ++ M ++ [101]) D []; simpa [Nat.add_assoc, Nat.add_comm, Nat.add_left_comm] using this) (by rw [bs_size]; simp <;> omega) (by have := get_mid ([45] ++ M) 101 (D) (by rw [bs_size]; simp); simpa [Nat.add_comm] using this) hM h3 (by omega) (by have := at_mid [45] M (101 :: D); simpa using this) f2 f1 hd0 (by rw [bs_size]; simp) rfl
      have e : 1 + M.length + 1 + D.length = (45 :: (M ++ 101 :: D)).length := by simp <;> omega
      rw [e] at r
      exact r
    · obtain ⟨e0, ed⟩ := hed true D rfl
      have hD := List.length_pos_iff.2 e0
      have hl' : M.length + (D.length + 3) ≤ 400 := by simp [Txt.tail] at hl; omega
      simp only [Txt.tail, Txt.exp, Bool.false_eq_true, if_false, if_true, List.nil_append, List.append_nil, List.cons_append]
      intro w
      have r := read_neg_nexp (bs (45 :: (M ++ 101 :: 45 :: D))) M D w (Lib.hid (by rw [bs_size]; simp <;> omega)) hD (by omega) ed (by have := at_mid ([45] ++ M ++ [101, 45]) D []; simpa [Nat.add_assoc, Nat.add_comm, Nat.add_left_comm] using this) (by rw [bs_size]; simp <;> omega) (by have := get_mid ([45] ++ M) 101 (45 :: D) (by rw [bs_size]; simp); simpa [Nat.add_comm] using this) (by rw [bs_size]; simp <;> omega) (by have := get_mid ([45] ++ M ++ [101]) 45 D (by rw [bs_size]; simp); simpa [Nat.add_assoc, Nat.add_comm, Nat.add_left_comm] using this) hM h3 (by omega) (by have := at_mid [45] M (101 :: 45 :: D); simpa using this) f2 f1 hd0 (by rw [bs_size]; simp) rfl
      have e : 1 + M.length + 2 + D.length = (45 :: (M ++ 101 :: 45 :: D)).length := by simp <;> omega
      rw [e] at r
      exact r
end Go.Proofs.YtpilniljhmkedaaGreatDoor
namespace Go.Proofs.YtpilniljhmkedaaGreatDoor
open Go.RowKit Go.Lib
theorem tens_fin : ∀ n : Fin 256, Pl.tens.contains (UInt8.ofNat n.val) = decide (48 ≤ n.val ∧ n.val ≤ 57) := by decide +kernel
theorem tens_iff (c : UInt8) : Pl.tens.contains c = true ↔ Pl.digit c := by
  have h := tens_fin ⟨c.toNat, UInt8.toNat_lt c⟩
  simp only [UInt8.ofNat_toNat] at h
  rw [h, decide_eq_true_iff]
  exact Iff.rfl
theorem rest_digits (X Z : List UInt8) (hX : ∀ c ∈ X, Pl.digit c) (hZ : ∀ c r, Z = c :: r → ¬ Pl.digit c) : Pl.rest (X ++ Z) = Z := by
  unfold Pl.rest Lib.trimLeftS
  induction X with
  | nil =>
    cases Z with
    | nil => rfl
    | cons c r =>
      have := hZ c r rfl
      rw [List.nil_append, List.dropWhile_cons, if_neg (fun h => this ((tens_iff c).1 h))]
  | cons x X ih =>
    rw [List.cons_append, List.dropWhile_cons, if_pos ((tens_iff x).2 (hX x (by simp)))]
    exact ih (fun c hc => hX c (by simp [hc]))
theorem rest_split (l : List UInt8) : ∃ X, l = X ++ Pl.rest l ∧ (∀ c ∈ X, Pl.digit c) ∧ X.length = Pl.ndig l ∧ ∀ c r, Pl.rest l = c :: r → ¬ Pl.digit c := by
  refine ⟨l.takeWhile (Pl.tens.contains ·), (List.takeWhile_append_dropWhile).symm, ?_, ?_, ?_⟩
  · intro c hc
    exact (tens_iff c).1 (List.all_eq_true.1 List.all_takeWhile c hc)
  · unfold Pl.ndig Pl.rest Lib.trimLeftS
    have := congrArg List.length (List.takeWhile_append_dropWhile (p := (Pl.tens.contains ·)) (l := l))
    rw [List.length_append] at this
    omega
  · intro c r e hd
    have h := List.head?_dropWhile_not (Pl.tens.contains ·) l
    unfold Pl.rest Lib.trimLeftS at e
    rw [e] at h
    simp at h
    exact absurd ((tens_iff c).2 hd) (by simpa using h)
theorem prefix_one (c : UInt8) (l : List UInt8) : (Lib.hasPrefix l [c] = true ∧ ∃ r, l = c :: r ∧ Lib.trimPrefix l [c] = r) ∨ (Lib.hasPrefix l [c] = false ∧ Lib.trimPrefix l [c] = l ∧ ∀ r, l ≠ c :: r) := by
  cases l with
  | nil => right; exact ⟨rfl, rfl, by intro r h; cases h⟩
  | cons a r =>
    by_cases h : a = c
    · subst h
      left
      have hp : Lib.hasPrefix (a :: r) [a] = true := by simp [Lib.hasPrefix, List.isPrefixOf]
      exact ⟨hp, r, rfl, by unfold Lib.trimPrefix; rw [hp]; rfl⟩
    · right
      have hp : Lib.hasPrefix (a :: r) [c] = false := by simp [Lib.hasPrefix, List.isPrefixOf]; exact fun e => h e.symm
      refine ⟨hp, by unfold Lib.trimPrefix; rw [hp]; rfl, ?_⟩
      intro r' e
      exact h (by injection e)
theorem formed_txt {l : List UInt8} (h : Pl.formed l = true) : ∃ t : Txt, t.Ok ∧ l = t.text := by
  unfold Pl.formed at h
  split at h
  · cases h
  · rename_i hl
    obtain ⟨neg, hneg⟩ : ∃ neg : Bool, l = (if neg then [45] else []) ++ Lib.trimPrefix l [45] := by
      rcases prefix_one 45 l with ⟨_, r, e, e2⟩ | ⟨_, e, _⟩
      · exact ⟨true, by rw [e2]; exact e⟩
      · exact ⟨false, by rw [e]; rfl⟩
    generalize Lib.trimPrefix l [45] = l1 at h hneg
    obtain ⟨X, e1, hX, hXl, _⟩ := rest_split l1
    split at h
    · cases h
    · rename_i hc
      have hc1 : Pl.ndig l1 ≠ 0 := fun e => hc (.inl e)
      have hc2 : Lib.hasPrefix (Pl.rest l1) [46] ≠ false := fun e => hc (.inr (.inl e))
      have hc3 : Pl.ndig (Lib.trimPrefix (Pl.rest l1) [46]) ≠ 0 := fun e => hc (.inr (.inr e))
      rcases prefix_one 46 (Pl.rest l1) with ⟨_, r, e2, e3⟩ | ⟨e, _⟩
      · rw [e3] at h hc3
        obtain ⟨Y, e4, hY, hYl, hYn⟩ := rest_split r
        have hx0 : X ≠ [] := List.length_pos_iff.1 (by omega)
        have hy0 : Y ≠ [] := List.length_pos_iff.1 (by omega)
        have hle : l.length ≤ 400 := by omega
        split at h
        · rename_i hem
          have hr0 : Pl.rest r = [] := List.isEmpty_iff.1 hem
          have et : l = Txt.text ⟨neg, X, Y, none⟩ := by
            rw [hneg, e1, e2, e4, hr0]
            simp [Txt.text, Txt.body, Txt.tail]
          refine ⟨⟨neg, X, Y, none⟩, ⟨hx0, hy0, hX, hY, (fun s D e => by cases e), by rw [← et]; exact hle⟩, et⟩
        · rw [Bool.and_eq_true, Bool.and_eq_true] at h
          obtain ⟨⟨h1, h2⟩, h3⟩ := h
          rcases prefix_one 101 (Pl.rest r) with ⟨_, q, e5, e6⟩ | ⟨e, _⟩
          · rw [e6] at h2 h3
            obtain ⟨sg, hsg⟩ : ∃ sg : Bool, q = (if sg then [45] else []) ++ Lib.trimPrefix q [45] := by
              rcases prefix_one 45 q with ⟨_, r, e, e2⟩ | ⟨_, e, _⟩
              · exact ⟨true, by rw [e2]; exact e⟩
              · exact ⟨false, by rw [e]; rfl⟩
            generalize Lib.trimPrefix q [45] = D at h2 h3 hsg
            obtain ⟨D', f1, f2, f3, _⟩ := rest_split D
            have hDl : D'.length = D.length := by rw [f3]; simpa using h3
            have hDr : Pl.rest D = [] := by
              have := congrArg List.length f1
              rw [List.length_append] at this
              exact List.eq_nil_of_length_eq_zero (by omega)
            rw [hDr, List.append_nil] at f1
            have hD0 : D ≠ [] := by
              intro e; rw [e] at h2; simp at h2
            have et : l = Txt.text ⟨neg, X, Y, some (sg, D)⟩ := by
              rw [hneg, e1, e2, e4, e5, hsg]
              cases sg <;> simp [Txt.text, Txt.body, Txt.tail]
            refine ⟨⟨neg, X, Y, some (sg, D)⟩, ⟨hx0, hy0, hX, hY, fun s D2 e => ?_, by rw [← et]; exact hle⟩, et⟩
            simp only [Option.some.injEq, Prod.mk.injEq] at e
            obtain ⟨rfl, rfl⟩ := e
            exact ⟨hD0, by rw [f1]; exact f2⟩
          · rw [e] at h1; cases h1
      · exact absurd e hc2
theorem txt_formed {t : Txt} (h : t.Ok) : Pl.formed t.text = true := by
  obtain ⟨neg, X, Y, ex⟩ := t
  obtain ⟨x0, y0, hX, hY, ed, hl⟩ := h
  simp only at x0 y0 hX hY ed
  unfold Pl.formed
  rw [if_neg (by omega)]
  have hx1 := List.length_pos_iff.2 x0
  have hy1 := List.length_pos_iff.2 y0
  obtain ⟨Z, hZ⟩ : ∃ Z, Txt.tail ⟨neg, X, Y, ex⟩ = Z := ⟨_, rfl⟩
  have e1 : Lib.trimPrefix (Txt.text ⟨neg, X, Y, ex⟩) [45] = X ++ (46 :: (Y ++ Z)) := by
    unfold Txt.text Txt.body
    rw [hZ]
    cases neg
    · rcases prefix_one 45 ((if false = true then [45] else []) ++ ((X ++ 46 :: Y) ++ Z)) with ⟨_, r, e, _⟩ | ⟨_, e, _⟩
      · exfalso
        cases X with
        | nil => exact x0 rfl
        | cons a X' =>
          simp at e
          have := hX a (by simp)
          rw [e.1] at this
          exact absurd this.1 (by decide)
      · rw [e]; simp
    · rcases prefix_one 45 ((if true = true then [45] else []) ++ ((X ++ 46 :: Y) ++ Z)) with ⟨_, r, e, e2⟩ | ⟨_, _, e⟩
      · rw [e2]
        simp at e
        rw [← e]
      · exact absurd rfl (e ((X ++ 46 :: Y) ++ Z))
  have e2 : Pl.rest (X ++ (46 :: (Y ++ Z))) = 46 :: (Y ++ Z) := rest_digits X _ hX (fun c r e hd => by
    injection e with e _
    subst e
    exact absurd hd.1 (by decide))
  have e3 : Lib.trimPrefix (46 :: (Y ++ Z)) [46] = Y ++ Z := by
    rcases prefix_one 46 (46 :: (Y ++ Z)) with ⟨_, r, e, e'⟩ | ⟨_, _, e⟩
    · rw [e']; injection e with _ e; exact e.symm
    · exact absurd rfl (e (Y ++ Z))
  have e3p : Lib.hasPrefix (46 :: (Y ++ Z)) [46] = true := by simp [Lib.hasPrefix, List.isPrefixOf]
  have hZn : ∀ c r, Z = c :: r → ¬ Pl.digit c := by
    intro c r e hd
    rw [← hZ] at e
    unfold Txt.tail at e
    rcases ex with _ | ⟨_ | _, D⟩
    · cases e
    · injection e with e _; subst e; exact absurd hd.2 (by decide)
    · injection e with e _; subst e; exact absurd hd.2 (by decide)
  have e4 : Pl.rest (Y ++ Z) = Z := rest_digits Y Z hY hZn
  have n1 : Pl.ndig (X ++ (46 :: (Y ++ Z))) = X.length := by unfold Pl.ndig; rw [e2]; simp <;> omega
  have n2 : Pl.ndig (Y ++ Z) = Y.length := by unfold Pl.ndig; rw [e4]; simp
  rw [e1, e2, e3, e4, e3p, n1, n2, if_neg (by
    rintro (h | h | h)
    · omega
    · cases h
    · omega)]
  rcases ex with _ | ⟨sg, D⟩
  · have : Z = [] := hZ.symm
    rw [this]; rfl
  · obtain ⟨d0, hD⟩ := ed sg D rfl
    have eZ : Z = 101 :: ((if sg then [45] else []) ++ D) := by rw [← hZ]; cases sg <;> rfl
    have hD1 := List.length_pos_iff.2 d0
    have p1 : Lib.hasPrefix Z [101] = true := by rw [eZ]; simp [Lib.hasPrefix, List.isPrefixOf]
    have p2 : Lib.trimPrefix Z [101] = (if sg then [45] else []) ++ D := by
      unfold Lib.trimPrefix
      rw [p1, eZ]; rfl
    have p3 : Lib.trimPrefix ((if sg then [45] else []) ++ D) [45] = D := by
      cases sg
      · rcases prefix_one 45 ((if false = true then [45] else []) ++ D) with ⟨_, r, e, _⟩ | ⟨_, e, _⟩
        · exfalso
          simp at e
          have := hD 45 (by rw [e]; simp)
          exact absurd this.1 (by decide)
        · rw [e]; simp
      · rcases prefix_one 45 ((if true = true then [45] else []) ++ D) with ⟨_, r, e, e2⟩ | ⟨_, _, e⟩
        · rw [e2]; simp at e; exact e.symm
        · exact absurd rfl (e D)
    have p4 : Pl.rest D = [] := by
      have := rest_digits D [] hD (fun c r e => by cases e)
      rwa [List.append_nil] at this
    have p5 : Pl.ndig D = D.length := by unfold Pl.ndig; rw [p4]; simp
    rw [if_neg (by rw [eZ]; simp), p1, p2, p3, p5]
    simp
    exact d0
end Go.Proofs.YtpilniljhmkedaaGreatDoor
namespace Go.Proofs.YtpilniljhmkedaaGreatDoor.Fl
open Ieee
/-- A quotient rounded to the nearest, ties to even. -/
def rhe (p q : Nat) : Nat := p / q + (decide (q < 2 * (p % q)) || (q == 2 * (p % q) && p / q % 2 == 1)).toNat
/-- The rung of p by q, told in units of the least float. -/
def rung (p q : Nat) : Nat := min (((p / q).log2 - 52) * 4503599627370496 + rhe p (q * 2 ^ ((p / q).log2 - 52))) 9218868437227405312
theorem rhe_cut (n d : Nat) : rhe n (2 ^ d) = cutS n d := rfl
theorem rhe_scale (p q : Nat) {c : Nat} (hc : 0 < c) : rhe (p * c) (q * c) = rhe p q := by
  unfold rhe
  rw [Nat.mul_div_mul_right _ _ hc, Nat.mul_mod_mul_right]
  generalize p % q = r
  generalize p / q = f
  have e1 : (q * c < 2 * (r * c)) ↔ q < 2 * r := by rw [← Nat.mul_assoc]; exact Nat.mul_lt_mul_right hc
  have e2 : (q * c = 2 * (r * c)) ↔ q = 2 * r := by rw [← Nat.mul_assoc]; exact ⟨fun h => Nat.eq_of_mul_eq_mul_right hc h, fun h => by rw [h]⟩
  have e3 : (q * c == 2 * (r * c)) = (q == 2 * r) := by rw [Bool.eq_iff_iff]; simp [e2]
  rw [e3]
  simp only [e1]
theorem rung_scale (p q : Nat) {c : Nat} (hc : 0 < c) : rung (p * c) (q * c) = rung p q := by
  unfold rung
  rw [Nat.mul_div_mul_right _ _ hc, Nat.mul_right_comm q c, rhe_scale _ _ hc]
theorem log2_div_pow (B y : Nat) : (B / 2 ^ y).log2 = B.log2 - y := by
  have hy : 0 < 2 ^ y := Nat.two_pow_pos y
  by_cases h : B < 2 ^ y
  · rw [Nat.div_eq_of_lt h]
    by_cases h0 : B = 0
    · subst h0; simp
    · have := (Nat.log2_lt h0).2 h
      simp; omega
  · have hB : B ≠ 0 := by omega
    have hq : B / 2 ^ y ≠ 0 := by
      have := Nat.div_pos (Nat.le_of_not_lt h) hy
      omega
    have hl : y ≤ B.log2 := (Nat.le_log2 hB).2 (Nat.le_of_not_lt h)
    have h1 := Nat.log2_self_le hB
    have h2 : B < 2 ^ (B.log2 + 1) := Nat.lt_log2_self
    obtain ⟨k, hk⟩ : ∃ k, B.log2 = k + y := ⟨B.log2 - y, by omega⟩
    rw [hk] at h1 h2 ⊢
    rw [show k + y - y = k by omega]
    refine Nat.le_antisymm ?_ ?_
    · have h3 : B / 2 ^ y < 2 ^ (k + 1) := by
        rw [Nat.div_lt_iff_lt_mul hy, ← Nat.pow_add]
        rw [show k + 1 + y = k + y + 1 by omega]; exact h2
      have := (Nat.log2_lt hq).2 h3
      omega
    · refine (Nat.le_log2 hq).2 ?_
      rw [Nat.le_div_iff_mul_le hy, ← Nat.pow_add]
      exact h1
theorem log2_between {n l : Nat} (h1 : 2 ^ l ≤ n) (h2 : n < 2 ^ (l + 1)) : n.log2 = l := by
  have h0 : n ≠ 0 := by have := Nat.two_pow_pos l; omega
  have a := (Nat.le_log2 h0).2 h1
  have b := (Nat.log2_lt h0).2 h2
  omega
/-- The nearest float of a number is that of its quotient. -/
theorem nearest_rung (s : Bool) (m : Nat) (i : Int) : D.nearest s m i = D.word s (rung (m * 2 ^ (i + 1074).toNat) (2 ^ (-(i + 1074)).toNat)) := by
  by_cases h : m = 0
  · subst h
    unfold Format.nearest rung rhe
    simp
  rw [nearest_eq s h]
  have hlog : (m * 2 ^ (i + 1074).toNat).log2 = m.log2 + (i + 1074).toNat := log2_mul_pow h _
  unfold rung
  rw [log2_div_pow, hlog, ← Nat.pow_add, rhe_cut]
  have hl : (lastOf m i + 1074).toNat = m.log2 + (i + 1074).toNat - (-(i + 1074)).toNat - 52 := by unfold lastOf; omega
  rw [← hl]
  congr 3
  have hb : -1074 ≤ lastOf m i := by unfold lastOf; omega
  generalize lastOf m i = l at hb
  rcases Int.lt_or_le i l with h1 | h1
  · have e1 : (i - l).toNat = 0 := by omega
    rw [e1, Nat.pow_zero, Nat.mul_one]
    have e2 : (-(i + 1074)).toNat + (l + 1074).toNat = (l - i).toNat + (i + 1074).toNat := by omega
    rw [e2, cutS_scale]
  · have e1 : (l - i).toNat = 0 := by omega
    have e2 : (-(i + 1074)).toNat = 0 := by omega
    have e3 : (i + 1074).toNat = (i - l).toNat + (l + 1074).toNat := by omega
    rw [e1, e2, cutS_zero, e3, Nat.pow_add, ← Nat.mul_assoc]
    have := cutS_scale (m * 2 ^ (i - l).toNat) 0 (l + 1074).toNat
    rw [this, cutS_zero]
/-- The last digit that stands for all that is left. -/
def stick (p q : Nat) : Nat := 2 * (p / q) + (p % q != 0).toNat
theorem rhe_stick (p q g : Nat) (hq : 0 < q) : rhe p (q * 2 ^ (g + 1)) = rhe (stick p q) (2 ^ (g + 2)) := by
  have hg : 0 < 2 ^ g := Nat.two_pow_pos g
  have hr : p % q < q := Nat.mod_lt _ hq
  have h1 : p / (q * 2 ^ (g + 1)) = p / q / 2 ^ (g + 1) := by rw [Nat.div_div_eq_div_mul]
  have h2 : p % (q * 2 ^ (g + 1)) = p % q + q * (p / q % 2 ^ (g + 1)) := by rw [Nat.mod_mul]
  have e2 : 2 ^ (g + 2) = 2 * 2 ^ (g + 1) := by rw [Nat.pow_succ 2 (g + 1), Nat.mul_comm]
  have e1 : 2 ^ (g + 1) = 2 * 2 ^ g := by rw [Nat.pow_succ, Nat.mul_comm]
  have hs : (p % q != 0).toNat ≤ 1 := by cases (p % q != 0) <;> simp
  have h3 : stick p q / 2 ^ (g + 2) = p / q / 2 ^ (g + 1) := by
    unfold stick
    rw [e2, ← Nat.div_div_eq_div_mul]
    congr 1
    omega
  have h4 : stick p q % 2 ^ (g + 2) = 2 * (p / q % 2 ^ (g + 1)) + (p % q != 0).toNat := by
    unfold stick
    rw [e2]
    have hm := Nat.mod_lt (p / q) (show 0 < 2 ^ (g + 1) by omega)
    have hd := Nat.div_add_mod (p / q) (2 ^ (g + 1))
    generalize p / q % 2 ^ (g + 1) = r at *
    generalize p / q / 2 ^ (g + 1) = f at *
    rw [← hd]
    generalize 2 ^ (g + 1) = C at *
    generalize (p % q != 0).toNat = t at *
    rw [show 2 * (C * f + r) + t = 2 * r + t + 2 * C * f by rw [Nat.mul_add, Nat.mul_assoc]; omega, Nat.add_mul_mod_self_left, Nat.mod_eq_of_lt (by omega)]
  unfold rhe
  rw [h1, h2, h3, h4]
  congr 2
  generalize p / q / 2 ^ (g + 1) = f
  generalize p / q % 2 ^ (g + 1) = r
  rw [e2, e1]
  generalize 2 ^ g = G at *
  have k1 : (q * (2 * G) < 2 * (p % q + q * r)) ↔ (2 * (2 * G) < 2 * (2 * r + (p % q != 0).toNat)) := by
    by_cases hz : p % q = 0
    · rw [hz]
      simp only [bne_self_eq_false, Bool.toNat_false, Nat.add_zero, Nat.zero_add]
      rw [show q * (2 * G) = q * 2 * G by rw [Nat.mul_assoc], show 2 * (q * r) = q * 2 * r by rw [← Nat.mul_assoc, Nat.mul_comm 2 q]]
      constructor
      · intro h
        have := Nat.lt_of_mul_lt_mul_left h
        omega
      · intro h
        exact Nat.mul_lt_mul_of_pos_left (by omega) (by omega)
    · rw [show (p % q != 0) = true by simpa using hz]
      simp only [Bool.toNat_true]
      constructor
      · intro h
        have h5 : q * (2 * G) < q * (2 * (r + 1)) := by
          have : q * (2 * (r + 1)) = 2 * (q + q * r) := by rw [← Nat.mul_assoc, Nat.mul_comm q 2, Nat.mul_assoc, Nat.mul_add, Nat.mul_one, Nat.add_comm q]
          omega
        have := Nat.lt_of_mul_lt_mul_left h5
        omega
      · intro h
        have h5 : q * (2 * G) ≤ q * (2 * r) := Nat.mul_le_mul_left _ (by omega)
        have : q * (2 * r) = 2 * (q * r) := by rw [← Nat.mul_assoc, Nat.mul_comm q 2, Nat.mul_assoc]
        omega
  have k2 : (q * (2 * G) = 2 * (p % q + q * r)) ↔ (2 * (2 * G) = 2 * (2 * r + (p % q != 0).toNat)) := by
    by_cases hz : p % q = 0
    · rw [hz]
      simp only [bne_self_eq_false, Bool.toNat_false, Nat.add_zero, Nat.zero_add]
      rw [show q * (2 * G) = q * 2 * G by rw [Nat.mul_assoc], show 2 * (q * r) = q * 2 * r by rw [← Nat.mul_assoc, Nat.mul_comm 2 q]]
      constructor
      · intro h
        have := Nat.eq_of_mul_eq_mul_left (by omega) h
        omega
      · intro h
        have : G = r := by omega
        rw [this]
    · rw [show (p % q != 0) = true by simpa using hz]
      simp only [Bool.toNat_true]
      constructor
      · intro h
        exfalso
        have h5 : q * G = p % q + q * r := by
          have : q * (2 * G) = 2 * (q * G) := by rw [← Nat.mul_assoc, Nat.mul_comm q 2, Nat.mul_assoc]
          omega
        have h6 : (p % q + q * r) % q = p % q := by rw [Nat.add_mul_mod_self_left, Nat.mod_mod]
        rw [← h5, Nat.mul_mod_right] at h6
        omega
      · intro h
        omega
  have k3 : (q * (2 * G) == 2 * (p % q + q * r)) = (2 * (2 * G) == 2 * (2 * r + (p % q != 0).toNat)) := by rw [Bool.eq_iff_iff]; simpa using k2
  rw [k3]
  congr 1
  exact decide_eq_decide.2 k1
/-- Enough digits and one that stands for all the others are rounded as the whole. -/
theorem rung_stick (a b x y : Nat) (hb : 0 < b) (hA : 9007199254740992 ≤ a / b) : rung (a * 2 ^ (x + 1)) (b * 2 ^ y) = rung (stick a b * 2 ^ x) (2 ^ y) := by
  have hx : 0 < 2 ^ x := Nat.two_pow_pos x
  have hA0 : a / b ≠ 0 := by omega
  have hl53 : 53 ≤ (a / b).log2 := (Nat.le_log2 hA0).2 (by simpa using hA)
  have hs : (a % b != 0).toNat ≤ 1 := by cases (a % b != 0) <;> simp
  have hN0 : stick a b ≠ 0 := by unfold stick; omega
  have p1 := Nat.log2_self_le hA0
  have p2 : a / b < 2 ^ ((a / b).log2 + 1) := Nat.lt_log2_self
  have hNl : (stick a b).log2 = (a / b).log2 + 1 := by
    refine log2_between ?_ ?_
    · rw [Nat.pow_succ]; unfold stick; omega
    · rw [Nat.pow_succ]; unfold stick; omega
  have hBl : (a * 2 ^ (x + 1) / b).log2 = (a / b).log2 + (x + 1) := by
    have hd := Nat.div_add_mod a b
    have hr := Nat.mod_lt a hb
    refine log2_between ?_ ?_
    · rw [Nat.le_div_iff_mul_le hb, Nat.pow_add]
      have : 2 ^ (a / b).log2 * b ≤ a := by
        refine Nat.le_trans (Nat.mul_le_mul_right b p1) ?_
        exact Nat.div_mul_le_self a b
      rw [Nat.mul_right_comm]
      exact Nat.mul_le_mul_right _ this
    · rw [Nat.div_lt_iff_lt_mul hb, show (a / b).log2 + (x + 1) + 1 = ((a / b).log2 + 1) + (x + 1) by omega, Nat.pow_add 2 ((a / b).log2 + 1) (x + 1), Nat.mul_right_comm]
      refine Nat.mul_lt_mul_of_pos_right ?_ (Nat.two_pow_pos _)
      exact (Nat.div_lt_iff_lt_mul hb).1 p2
  have f1 : (a * 2 ^ (x + 1) / (b * 2 ^ y)).log2 - 52 = (a / b).log2 + (x + 1) - y - 52 := by
    rw [← Nat.div_div_eq_div_mul, log2_div_pow, hBl]
  have f2 : (stick a b * 2 ^ x / 2 ^ y).log2 - 52 = (a / b).log2 + (x + 1) - y - 52 := by
    rw [log2_div_pow, log2_mul_pow hN0, hNl]; omega
  unfold rung
  rw [f1, f2]
  generalize he : (a / b).log2 + (x + 1) - y - 52 = e
  congr 2
  obtain ⟨g, hg⟩ : ∃ g, y + e = g + 1 + (x + 1) := ⟨y + e - (x + 2), by omega⟩
  rw [Nat.mul_assoc, ← Nat.pow_add, hg, Nat.pow_add 2 (g + 1) (x + 1), ← Nat.mul_assoc, rhe_scale _ _ (Nat.two_pow_pos _), rhe_stick _ _ _ hb, show 2 ^ (g + 1) * 2 ^ (x + 1) = 2 ^ (g + 2) * 2 ^ x by rw [← Nat.pow_add, ← Nat.pow_add]; congr 1; omega, rhe_scale _ _ hx]
theorem rung_le (p q : Nat) : rung p q ≤ 9218868437227405312 := Nat.min_le_right _ _
theorem rung_not_nan (s : Bool) (p q : Nat) : isNan (D.word s (rung p q)) = false := word_not_nan s (rung_le p q)
/-- A float with just this value. -/
structure Is (a : Nat) (V : Int) : Prop where
  lt : a < 18446744073709551616
  fin : a % 9223372036854775808 < 9218868437227405312
  val : val (D.read a) = V
/-- A number, told in units of the least float, that a float has. -/
def Fits (n : Nat) : Prop := ∃ m u, n = m * 2 ^ u ∧ m < 9007199254740992 ∧ u ≤ 2045
theorem Is.nan {a : Nat} {V : Int} (h : Is a V) : isNan a = false := by have := h.fin; simp [isNan]; omega
theorem rung_fits_eq {m u : Nat} (h1 : m < 9007199254740992) (h2 : 4503599627370496 ≤ m ∨ u = 0) (h3 : u ≤ 2045) : rung (m * 2 ^ u) 1 = u * 4503599627370496 + m := by
  unfold rung
  have hl : (m * 2 ^ u / 1).log2 - 52 = u := by
    rw [Nat.div_one]
    by_cases h0 : m = 0
    · have : u = 0 := by omega
      subst h0 this; decide
    · rw [log2_mul_pow h0]
      have := (Nat.log2_lt h0).2 (show m < 2 ^ 53 by simpa using h1)
      rcases h2 with h2 | h2
      · have := (Nat.le_log2 h0).2 (show 2 ^ 52 ≤ m by simpa using h2)
        omega
      · omega
  rw [hl, Nat.one_mul, rhe_cut]
  have := cutS_scale m 0 u
  rw [Nat.zero_add] at this
  rw [this, cutS_zero]
  refine Nat.min_eq_left ?_
  omega
theorem read_word (s : Bool) {m u : Nat} (h1 : m < 9007199254740992) (h2 : 4503599627370496 ≤ m ∨ u = 0) (h3 : u ≤ 2045) : D.read (D.word s (u * 4503599627370496 + m)) = .number s m (u - 1074) := by
  obtain ⟨w1, w2, w3⟩ := word_mod s (r := u * 4503599627370496 + m) (by omega)
  rw [read_eq, w1, w2]
  by_cases h4 : u * 4503599627370496 + m < 4503599627370496
  · have : u = 0 := by omega
    subst this
    rw [if_pos h4]
    simp
  · have h5 : 4503599627370496 ≤ m := by rcases h2 with h2 | h2 <;> omega
    rw [if_neg h4, if_pos (by omega)]
    have e1 : (u * 4503599627370496 + m) / 4503599627370496 = u + 1 := by omega
    have e2 : (u * 4503599627370496 + m) % 4503599627370496 = m - 4503599627370496 := by omega
    have e3 : 4503599627370496 + (m - 4503599627370496) = m := by omega
    have e4 : (-1074 : Int) + ((u + 1 - 1 : Nat) : Int) = (u : Int) - 1074 := by omega
    rw [e1, e2, e3, e4]
theorem full_of {m u : Nat} (h1 : m < 9007199254740992) (h3 : u ≤ 2045) : ∃ M U, M * 2 ^ U = m * 2 ^ u ∧ M < 9007199254740992 ∧ (4503599627370496 ≤ M ∨ U = 0) ∧ U ≤ 2045 := by
  by_cases h0 : m = 0
  · exact ⟨0, 0, by simp [h0], by omega, .inr rfl, by omega⟩
  have hl := (Nat.log2_lt h0).2 (show m < 2 ^ 53 by simpa using h1)
  have p1 := Nat.log2_self_le h0
  have p2 : m < 2 ^ (m.log2 + 1) := Nat.lt_log2_self
  rcases Nat.lt_or_ge u (52 - m.log2) with h | h
  · refine ⟨m * 2 ^ u, 0, by simp, ?_, .inr rfl, by omega⟩
    have : m * 2 ^ u < 2 ^ (m.log2 + 1) * 2 ^ u := Nat.mul_lt_mul_of_pos_right p2 (Nat.two_pow_pos u)
    rw [← Nat.pow_add] at this
    have h4 : 2 ^ (m.log2 + 1 + u) ≤ 2 ^ 53 := Nat.pow_le_pow_right (by omega) (by omega)
    have h5 : (2 : Nat) ^ 53 = 9007199254740992 := by decide
    omega
  · obtain ⟨k, hk⟩ : ∃ k, m.log2 + k = 52 := ⟨52 - m.log2, by omega⟩
    refine ⟨m * 2 ^ k, u - k, ?_, ?_, .inl ?_, by omega⟩
    · rw [Nat.mul_assoc, ← Nat.pow_add]; congr 2; omega
    · have : m * 2 ^ k < 2 ^ (m.log2 + 1) * 2 ^ k := Nat.mul_lt_mul_of_pos_right p2 (Nat.two_pow_pos k)
      rw [← Nat.pow_add, show m.log2 + 1 + k = 53 by omega] at this
      simpa using this
    · have : 2 ^ m.log2 * 2 ^ k ≤ m * 2 ^ k := Nat.mul_le_mul_right _ p1
      rw [← Nat.pow_add, hk] at this
      simpa using this
/-- A number that fits is rounded to itself. -/
theorem is_rung (s : Bool) {n p q : Nat} (hq : 0 < q) (hp : p = n * q) (h : Fits n) : Is (D.word s (rung p q)) (if s then -(n : Int) else n) := by
  obtain ⟨m, u, rfl, h1, h2⟩ := h
  obtain ⟨M, U, e, k1, k2, k3⟩ := full_of h1 h2
  have hr : rung p q = U * 4503599627370496 + M := by
    rw [hp, ← e]
    have := rung_scale (M * 2 ^ U) 1 hq
    rw [Nat.one_mul] at this
    rw [this]
    exact rung_fits_eq k1 k2 k3
  rw [hr]
  obtain ⟨w1, w2, w3⟩ := word_mod s (r := U * 4503599627370496 + M) (by omega)
  refine ⟨w3, by rw [w1]; omega, ?_⟩
  rw [read_word s k1 k2 k3]
  simp only [val, signed]
  rw [show ((U : Int) - 1074 + 1074).toNat = U by omega, Nat.shiftLeft_eq, e]
end Go.Proofs.YtpilniljhmkedaaGreatDoor.Fl
