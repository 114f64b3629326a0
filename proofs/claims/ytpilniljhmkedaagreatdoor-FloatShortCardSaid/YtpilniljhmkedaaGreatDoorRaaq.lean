/- The text that a float is written as is read as that float. Nought, written and read; what is read of a text whose digits are all nought, or whose power is too great or too small. The slow road's decimal as it lies in memory: 800 digits, their count, the point, two marks. The slow road's plain law: how many digits a left shift adds. prefixIsLessThan, walked. A left shift's plain law, digit by digit from the end. The slow road's tables, below the decimal. -/
import Derived.Test.YtpilniljhmkedaaGreatDoorRaam
import Derived.Test.YtpilniljhmkedaaGreatDoorRaap
import Derived.Test.YtpilniljhmkedaaGreatDoorRaah
import Derived.Test.YtpilniljhmkedaaGreatDoorRaac
import Derived.WalkKit
import Derived.BigQuiet
namespace Go.Proofs.YtpilniljhmkedaaGreatDoor
open Go.RowKit Go.Lib
namespace Pl
theorem vl_lt (l : List UInt8) (h : ∀ c ∈ l, digit c) : vl l < 10 ^ l.length := by
  induction l using snocRec with
  | nil => decide
  | snoc l c ih =>
    have hc := h c (by simp)
    have := ih (fun x hx => h x (by simp [hx]))
    unfold digit at hc
    rw [vl_snoc, List.length_append, List.length_singleton, Nat.pow_succ]
    omega
theorem erun_vl (l : List UInt8) (h : vl l < 100000) : erun l = vl l := by
  induction l using snocRec with
  | nil => rfl
  | snoc l c ih =>
    rw [vl_snoc] at h
    rw [erun_snoc, ih (by omega), vl_snoc]
    unfold estep
    rw [if_pos (by omega)]
theorem erun_dec {n : Nat} (h : n < 100000) : erun (decDigits n) = n := by
  rw [erun_vl _ (by rw [vl_dec]; exact h), vl_dec]
end Pl
theorem dec_ne (n : Nat) : decDigits n ≠ [] := by
  intro e
  have := congrArg List.length e
  rw [decDigits_length] at this
  have := nDigits_pos n
  simp at *
  omega
theorem txt_special {t : Txt} (h : t.Ok) : IsSpecial (bs t.text) := by
  have hx := List.length_pos_iff.2 h.x0
  have hl := h.len
  have key : ∀ M : List UInt8, M = t.X ++ 46 :: t.Y ++ t.tail → (q : 0 < M.length) → 48 ≤ M[0].toNat ∧ M[0].toNat ≤ 57 := by
    intro M e q
    subst e
    have e1 : (t.X ++ 46 :: t.Y ++ t.tail)[0] = t.X[0] := by
      rw [List.getElem_append_left (by simp; omega), List.getElem_append_left hx]
    rw [e1]
    exact h.xd _ (List.getElem_mem _)
  obtain ⟨neg, X, Y, ex⟩ := t
  unfold Txt.text at hl ⊢
  cases neg
  · simp only [Bool.false_eq_true, if_false, List.nil_append] at hl ⊢
    have hp : 0 < (Txt.body ⟨false, X, Y, ex⟩ ++ Txt.tail ⟨false, X, Y, ex⟩).length := by unfold Txt.body; simp; omega
    exact special_bs _ hp (by omega) (key _ rfl hp)
  · simp only [if_true] at hl ⊢
    have hp : 0 < (Txt.body ⟨true, X, Y, ex⟩ ++ Txt.tail ⟨true, X, Y, ex⟩).length := by unfold Txt.body; simp; omega
    exact special_minus _ hp (by simp at hl ⊢; omega) (key _ rfl hp)
/-- what a text's digits come to -/
def Txt.num (t : Txt) : Nat := Pl.vl (t.X ++ t.Y)
def Txt.pow (t : Txt) : Int := t.exp - t.Y.length
/-- a text of at most 19 digits -/
theorem txt_short {t : Txt} (h : t.Ok) (h0 : t.num ≠ 0) (h19 : t.num < 10000000000000000000) : ReadsAs (bs t.text) t.num t.pow t.neg false t.text.length := by
  have r := txt_reads h
  have hc : Pl.cnt (t.X ++ t.Y) ≤ 19 := Pl.cnt_19 (fun c hc => (List.mem_append.1 hc).elim (h.xd c) (h.yd c)) h19
  have e : Pl.run t.body = _ := Pl.run_behind t.X t.Y h.xd h.x0 h.yd hc
  rw [e] at r
  have e2 : Pl.expOf ⟨Pl.vl (t.X ++ t.Y), Pl.cnt (t.X ++ t.Y), Pl.cnt (t.X ++ t.Y), (Pl.cnt (t.X ++ t.Y) : Int) - t.Y.length, true, true, false⟩ t.exp = t.pow := by
    unfold Pl.expOf Txt.pow
    have h0' : ¬ Pl.vl (t.X ++ t.Y) = 0 := h0
    simp only [h0', if_false]
    omega
  rw [e2] at r
  exact r
theorem pow_le_nDigits (u : Nat) (h : 1 ≤ u) : 10 ^ (nDigits u - 1) ≤ u := by
  induction u using Nat.strongRecOn with
  | _ u ih =>
    by_cases h10 : u < 10
    · rw [nDigits_small h10]; exact h
    · rw [nDigits_big h10]
      have := ih (u / 10) (by omega) (by omega)
      have hp := nDigits_pos (u / 10)
      rw [Nat.add_sub_cancel]
      obtain ⟨m, hm⟩ : ∃ m, nDigits (u / 10) = m + 1 := ⟨nDigits (u / 10) - 1, by omega⟩
      rw [hm] at this ⊢
      rw [Nat.add_sub_cancel] at this
      rw [Nat.pow_succ]
      omega
theorem show_txt {a : Nat} (hf : a / 4503599627370496 % 2048 < 2047) (hz : a % 9223372036854775808 ≠ 0) :
    ∃ t : Txt, t.Ok ∧ Pl.showN a = t.text ∧ t.neg = decide (9223372036854775808 ≤ a) ∧ t.num ≠ 0 ∧ t.num < 10000000000000000000 ∧ -345 ≤ t.pow ∧ t.pow ≤ 310 ∧ Pl.rnd Fl.E74 (t.num, t.pow) = a % 9223372036854775808 ∧ ∃ x y : Nat, t.num * 10 ^ x = (Pl.decOf a).1 * 10 ^ y := by
  obtain ⟨g1, g2, g3, g4, g5⟩ := Pl.digs_ok hf hz
  have hm0 : Pl.mant a ≠ 0 := by unfold Pl.mant; split <;> omega
  obtain ⟨hr, h18, hk1, hk2⟩ : Pl.RndIs Fl.E74 (Pl.decOf a) (a % 9223372036854775808) := by
    have hm64 : Pl.mant a < 18446744073709551616 := by unfold Pl.mant; split <;> omega
    obtain ⟨l1, l2⟩ := Pl.left_ok hm64 hm0
    unfold Pl.decOf
    by_cases h0 : a / 4503599627370496 % 2048 = 0
    · obtain ⟨e1, e2, _, _⟩ := Pl.den_left h0 (by omega)
      have := Pl.short_round (M := Pl.mant a) (L := Pl.lft a) (u := 0) Fl.E74_is (by omega) (by omega) (.inr rfl) (by omega) l1 l2
      rw [e2]
      rw [show (((0 : Nat) : Int) - 1074 - (Pl.lft a : Int)) = -1074 - (Pl.lft a : Int) by omega, show 0 * 4503599627370496 + Pl.mant a = a % 9223372036854775808 by omega] at this
      exact this
    · obtain ⟨e1, e2, e3⟩ := Pl.nor_left h0
      have := Pl.short_round (M := Pl.mant a) (L := Pl.lft a) (u := a / 4503599627370496 % 2048 - 1) Fl.E74_is (by omega) (by omega) (.inl (by omega)) (by omega) l1 l2
      rw [e2]
      rw [show (((a / 4503599627370496 % 2048 - 1 : Nat) : Int) - 1074 - (Pl.lft a : Int)) = ((a / 4503599627370496 % 2048 : Nat) : Int) - 1075 - (Pl.lft a : Int) by omega, show (a / 4503599627370496 % 2048 - 1) * 4503599627370496 + Pl.mant a = a % 9223372036854775808 by omega] at this
      exact this
  obtain ⟨s1, s2⟩ := Pl.vl_sig (Pl.decOf a).1
  obtain ⟨d1, d2, _, _⟩ := Pl.dec_ok hf hm0
  have hnd : nDigits (Pl.decOf a).1 ≤ 18 := by
    rcases Nat.lt_or_ge 18 (nDigits (Pl.decOf a).1) with h | h
    · exfalso
      have hp := pow_le_nDigits (Pl.decOf a).1 (by omega)
      have : 10 ^ 18 ≤ 10 ^ (nDigits (Pl.decOf a).1 - 1) := Nat.pow_le_pow_right (by decide) (by omega)
      have e : (10 : Nat) ^ 18 = 1000000000000000000 := rfl
      omega
    · exact h
  -- names
  have hdpt : Pl.dpt a = nDigits (Pl.decOf a).1 + (Pl.decOf a).2 := rfl
  have hdig : Pl.digs a = Pl.sig (Pl.decOf a).1 := rfl
  rw [← hdig] at s1 s2
  obtain ⟨D, hD⟩ : ∃ D, (Pl.decOf a).1 = D := ⟨_, rfl⟩
  obtain ⟨k, hk⟩ : ∃ k, (Pl.decOf a).2 = k := ⟨_, rfl⟩
  obtain ⟨L, hL⟩ : ∃ L, Pl.digs a = L := ⟨_, rfl⟩
  obtain ⟨N, hN⟩ : ∃ N, nDigits D = N := ⟨_, rfl⟩
  have hdk : Pl.decOf a = (D, k) := by rw [← hD, ← hk]
  rw [hdk] at hr
  rw [hD] at h18 s1 s2 d1 d2 hnd hdpt
  rw [hk] at hk1 hk2 hdpt
  rw [hL] at g1 g2 g3 s1 s2
  rw [hN] at s1 s2 hnd hdpt
  have hv0 : Pl.vl L ≠ 0 := by intro e; rw [e, Nat.zero_mul] at s1; omega
  have hvD : Pl.vl L ≤ D := by
    have : Pl.vl L * 1 ≤ Pl.vl L * 10 ^ (N - L.length) := Nat.mul_le_mul_left _ (Nat.pow_pos (by decide))
    omega
  have hvL := Pl.vl_lt L g1
  -- the value of shifted digits
  have hval : ∀ (j : Nat) (q : Int), q = Pl.dpt a - L.length - j → Pl.rnd Fl.E74 (Pl.vl L * 10 ^ j, q) = a % 9223372036854775808 := by
    intro j q hq
    have e1 := Pl.rnd_shift Fl.E74 (Pl.vl L) (k + ((N - L.length : Nat) : Int)) j
    have e2 := Pl.rnd_shift Fl.E74 (Pl.vl L) (k + ((N - L.length : Nat) : Int)) (N - L.length)
    rw [s1, show k + ((N - L.length : Nat) : Int) - ((N - L.length : Nat) : Int) = k by omega] at e2
    rw [hq, hdpt, show (N : Int) + k - (L.length : Int) - (j : Int) = k + ((N - L.length : Nat) : Int) - (j : Int) by omega, e1, ← e2]
    exact hr
  have hbig : ∀ j : Nat, j ≤ 1 → Pl.vl L * 10 ^ j < 10000000000000000000 := by
    intro j hj
    rcases Nat.le_one_iff_eq_zero_or_eq_one.1 hj with rfl | rfl
    · rw [Nat.pow_zero]; omega
    · rw [Nat.pow_one]; omega
  have hrel : ∀ j : Nat, ∃ x y : Nat, Pl.vl L * 10 ^ j * 10 ^ x = (Pl.decOf a).1 * 10 ^ y := fun j => ⟨N - L.length, j, by rw [hD, ← s1]; ac_rfl⟩
  have hpos : ∀ j : Nat, Pl.vl L * 10 ^ j ≠ 0 := fun j e => by
    rcases Nat.mul_eq_zero.1 e with h | h
    · exact hv0 h
    · exact absurd h (Nat.pos_iff_ne_zero.1 (Nat.pow_pos (by decide)))
  have hshow : Pl.showN a = (if decide (9223372036854775808 ≤ a) = true then [45] else []) ++ Pl.written L (Pl.dpt a - 1) := by
    unfold Pl.showN
    rw [hL]
    by_cases h : 9223372036854775808 ≤ a
    · rw [if_pos h, if_pos (decide_eq_true h)]
    · rw [if_neg h, if_neg (by simpa using h)]
  generalize decide (9223372036854775808 ≤ a) = neg at hshow ⊢
  rcases Pl.written_parts g1 g2 g3 (Pl.dpt a - 1) (by omega) with ⟨hc, X, Y, j, P, hj, hw⟩ | ⟨hc, X, Y, j, P, hj, hw⟩
  · have hPq := P.q
    have hPl := P.len
    have hx1 := List.length_pos_iff.2 P.y0
    rcases Int.lt_or_le (Pl.dpt a - 1) 0 with hneg | hpos'
    · obtain ⟨ED, hED⟩ : ∃ ED, decDigits (Pl.dpt a - 1).natAbs = ED := ⟨_, rfl⟩
      have hit : Lib.itoa (Pl.dpt a - 1) = 45 :: ED := by unfold Lib.itoa; rw [if_pos hneg, hED]
      have her : Pl.erun ED = (Pl.dpt a - 1).natAbs := by rw [← hED]; exact Pl.erun_dec (by omega)
      have hdl : ED.length ≤ 20 := by rw [← hED, decDigits_length]; exact nDigits_le (by omega) (by omega)
      have hd0 : ED ≠ [] := by rw [← hED]; exact dec_ne _
      have hdd : ∀ c ∈ ED, Pl.digit c := by rw [← hED]; exact Pl.dec_digit _
      clear hED
      have hex : (Txt.exp ⟨neg, X, Y, some (true, ED)⟩) = Pl.dpt a - 1 := by
        show -((Pl.erun ED : Nat) : Int) = _
        rw [her]; omega
      have htxt : Pl.showN a = Txt.text ⟨neg, X, Y, some (true, ED)⟩ := by
        rw [hshow, hw, hit]
        simp [Txt.text, Txt.body, Txt.tail]
      have hpw : Txt.pow ⟨neg, X, Y, some (true, ED)⟩ = Pl.dpt a - 1 - Y.length := by unfold Txt.pow; rw [hex]
      have hnum : Txt.num ⟨neg, X, Y, some (true, ED)⟩ = Pl.vl L * 10 ^ j := P.v
      have hlen : (Txt.text ⟨neg, X, Y, some (true, ED)⟩).length ≤ 400 := by
        simp only [Txt.text, Txt.body, Txt.tail, List.length_append, List.length_cons]
        have : (if neg = true then [45] else ([] : List UInt8)).length ≤ 1 := by cases neg <;> simp
        omega
      refine ⟨_, ⟨P.x0, P.y0, P.xd, P.yd, ?_, hlen⟩, htxt, rfl, by rw [hnum]; exact hpos j, by rw [hnum]; exact hbig j hj, by rw [hpw]; omega, by rw [hpw]; omega, by rw [hnum, hpw]; exact hval j _ (by omega), by rw [hnum]; exact hrel j⟩
      intro s D2 e
      simp only [Option.some.injEq, Prod.mk.injEq] at e
      obtain ⟨_, rfl⟩ := e
      exact ⟨hd0, hdd⟩
    · obtain ⟨ED, hED⟩ : ∃ ED, decDigits (Pl.dpt a - 1).toNat = ED := ⟨_, rfl⟩
      have hit : Lib.itoa (Pl.dpt a - 1) = ED := by unfold Lib.itoa; rw [if_neg (by omega), hED]
      have her : Pl.erun ED = (Pl.dpt a - 1).toNat := by rw [← hED]; exact Pl.erun_dec (by omega)
      have hdl : ED.length ≤ 20 := by rw [← hED, decDigits_length]; exact nDigits_le (by omega) (by omega)
      have hd0 : ED ≠ [] := by rw [← hED]; exact dec_ne _
      have hdd : ∀ c ∈ ED, Pl.digit c := by rw [← hED]; exact Pl.dec_digit _
      clear hED
      have hex : (Txt.exp ⟨neg, X, Y, some (false, ED)⟩) = Pl.dpt a - 1 := by
        show ((Pl.erun ED : Nat) : Int) = _
        rw [her]; omega
      have htxt : Pl.showN a = Txt.text ⟨neg, X, Y, some (false, ED)⟩ := by
        rw [hshow, hw, hit]
        simp [Txt.text, Txt.body, Txt.tail]
      have hpw : Txt.pow ⟨neg, X, Y, some (false, ED)⟩ = Pl.dpt a - 1 - Y.length := by unfold Txt.pow; rw [hex]
      have hnum : Txt.num ⟨neg, X, Y, some (false, ED)⟩ = Pl.vl L * 10 ^ j := P.v
      have hlen : (Txt.text ⟨neg, X, Y, some (false, ED)⟩).length ≤ 400 := by
        simp only [Txt.text, Txt.body, Txt.tail, List.length_append, List.length_cons]
        have : (if neg = true then [45] else ([] : List UInt8)).length ≤ 1 := by cases neg <;> simp
        omega
      refine ⟨_, ⟨P.x0, P.y0, P.xd, P.yd, ?_, hlen⟩, htxt, rfl, by rw [hnum]; exact hpos j, by rw [hnum]; exact hbig j hj, by rw [hpw]; omega, by rw [hpw]; omega, by rw [hnum, hpw]; exact hval j _ (by omega), by rw [hnum]; exact hrel j⟩
      intro s D2 e
      simp only [Option.some.injEq, Prod.mk.injEq] at e
      obtain ⟨_, rfl⟩ := e
      exact ⟨hd0, hdd⟩
  · have hPq := P.q
    have hPl := P.len
    have htxt : Pl.showN a = Txt.text ⟨neg, X, Y, none⟩ := by
      rw [hshow, hw]
      simp [Txt.text, Txt.body, Txt.tail]
    have hpw : Txt.pow ⟨neg, X, Y, none⟩ = 0 - Y.length := rfl
    have hnum : Txt.num ⟨neg, X, Y, none⟩ = Pl.vl L * 10 ^ j := P.v
    have hb2 : Pl.vl L * 10 ^ j < 10000000000000000000 := by
      rcases hj with hj | ⟨_, hj⟩
      · exact hbig j hj
      · have h1 : Pl.vl L * 10 ^ j ≤ 10 ^ L.length * 10 ^ j := Nat.mul_le_mul_right _ (Nat.le_of_lt hvL)
        rw [← Nat.pow_add] at h1
        have h2 : 10 ^ (L.length + j) ≤ 10 ^ 17 := Nat.pow_le_pow_right (by decide) hj
        have e : (10 : Nat) ^ 17 = 100000000000000000 := rfl
        omega
    have hlen : (Txt.text ⟨neg, X, Y, none⟩).length ≤ 400 := by
      simp only [Txt.text, Txt.body, Txt.tail, List.length_append, List.length_cons, List.length_nil]
      have : (if neg = true then [45] else ([] : List UInt8)).length ≤ 1 := by cases neg <;> simp
      omega
    exact ⟨_, ⟨P.x0, P.y0, P.xd, P.yd, (fun s D2 e => by cases e), hlen⟩, htxt, rfl, by rw [hnum]; exact hpos j, by rw [hnum]; exact hb2, by rw [hpw]; omega, by rw [hpw]; omega, by rw [hnum, hpw]; exact hval j _ (by omega), by rw [hnum]; exact hrel j⟩
/-- T2: what is written is read as itself -/
theorem read_show (a : Nat) (w : World) (ha : a < 18446744073709551616) (hf : a % 9223372036854775808 < 9218868437227405312) (hz : a % 9223372036854775808 ≠ 0) (he : Env w) :
    Calls Tryz.prog 7 #[.string (bs (Pl.showN a))] w fun e w' => e = .returned (.tuple #[.int .u64 a, .int .i64 0]) ∧ Below w.heap.size w w' := by
  obtain ⟨t, hok, et, hneg, h0, h19, hp1, hp2, hr, _⟩ := show_txt (by omega) hz
  rw [et]
  refine (read_in (R := fun r => r = Fl.D.word t.neg (Pl.rnd Fl.E74 (t.num, t.pow))) (E := False) t.text w (by have := hok.len; omega) (txt_formed hok) he
    (fun w he => atof_in (bs t.text) t.text.length t.num t.pow t.neg w (txt_special hok) (txt_short hok h0 h19) h0 (by omega) hp1 hp2 (by rw [hr]; exact hf) he)).mono ?_
  rintro e w' ⟨⟨r, rfl, rfl⟩ | ⟨hE, _⟩, hB⟩
  · refine ⟨?_, hB⟩
    have e1 : Fl.told (Fl.D.word t.neg (Pl.rnd Fl.E74 (t.num, t.pow))) = a := by
      unfold Pl.rnd
      rw [Fl.told_word]
      have hr' : Fl.rung (t.num * 10 ^ t.pow.toNat * 2 ^ Fl.E74) (10 ^ (-t.pow).toNat) = a % 9223372036854775808 := hr
      simp only
      rw [hr', hneg]
      have := Fl.word_of ha
      have e2 : decide (9223372036854775808 ≤ a) = (a / 9223372036854775808 % 2 == 1) := by
        rw [Bool.eq_iff_iff, decide_eq_true_iff, beq_iff_eq]; omega
      rw [e2]; exact this
    rw [e1]
  · exact hE.elim
end Go.Proofs.YtpilniljhmkedaaGreatDoor
namespace Go.Proofs.YtpilniljhmkedaaGreatDoor
open Go.RowKit Go.Lib
/-- a float that is a number -/
def FinF (r : Nat) : Prop := r < 18446744073709551616 ∧ r % 9223372036854775808 < 9218868437227405312
/-- the text of nought -/
def zeroT (neg : Bool) : Txt := ⟨neg, [48], [48], none⟩
theorem zero_ok (neg : Bool) : (zeroT neg).Ok := by
  refine ⟨by simp [zeroT], by simp [zeroT], ?_, ?_, (fun s D e => by cases e), by cases neg <;> decide⟩
  · intro c hc; simp [zeroT] at hc; subst hc; exact ⟨by decide, by decide⟩
  · intro c hc; simp [zeroT] at hc; subst hc; exact ⟨by decide, by decide⟩
theorem signbit_any (a : Nat) (ha : a < 18446744073709551616) (w : World) : Calls Tryz.prog 21 #[.float .f64 a] w fun e w' => e = .returned (.bool (decide (9223372036854775808 ≤ a))) ∧ w = w' := by
  have h1 := run_bits
  have h2 : decide (wrap64 (a : Int) < 0) = decide (9223372036854775808 ≤ a) := by
    rw [Bool.eq_iff_iff, decide_eq_true_iff, decide_eq_true_iff]
    unfold wrap64
    omega
  rw [← h2]
  clear h2
  go_enter Tryz.func21, Tryz.ntmps21
  go_wp2_with fail
  go_ret
  exact ⟨rfl, rfl⟩
set_option maxHeartbeats 2000000 in
theorem show_zero (neg : Bool) (w : World) :
    Calls Tryz.prog 8 #[.int .u64 (Pl.sgb neg : Nat)] w fun e w' => e = .returned (.string (bs (zeroT neg).text)) ∧ w = w' := by
  have key : ∀ a : Nat, a < 18446744073709551616 → decide (a = 9218868437227405312) = false → decide (a = 18442240474082181120) = false → FloatKind.f64.format.order a a = some .eq → FloatKind.f64.format.order a 0 = some .eq → ∀ s : ByteArray, (∀ w : World, Calls Tryz.prog 21 #[.float .f64 a] w fun e w' => e = .returned (.bool (decide (9223372036854775808 ≤ a))) ∧ w = w') →
      (decide (9223372036854775808 ≤ a) = false ∧ s = ⟨#[48, 46, 48]⟩ ∨ decide (9223372036854775808 ≤ a) = true ∧ s = ⟨#[45, 48, 46, 48]⟩) → Calls Tryz.prog 8 #[.int .u64 a] w fun e w' => e = .returned (.string s) ∧ w = w' := by
    intro a ha i1 i2 ho hz s HS hs
    have HI1 := Lib.hid (fun w => isInf1_any a ha w)
    have HI2 := Lib.hid (fun w => isInfn_any a ha w)
    rw [i1] at HI1
    rw [i2] at HI2
    have HSB := Lib.hid HS
    clear i1 i2 HS
    generalize decide (9223372036854775808 ≤ a) = b at hs HSB
    rcases hs with ⟨rfl, rfl⟩ | ⟨rfl, rfl⟩
    all_goals
      go_enter Tryz.func8, Tryz.ntmps8
      go_wp2_with fail
      refine (of_any _ _).mono ?_
      rintro e w' ⟨rfl, rfl⟩
      go_wp2_with fail
      refine (HI1.out _).mono ?_
      rintro e w' ⟨rfl, rfl⟩
      go_wp2_with fail
      refine (HI2.out _).mono ?_
      rintro e w' ⟨rfl, rfl⟩
      go_wp2_with (refine (HSB.out _).mono ?_; rintro e w' ⟨rfl, rfl⟩)
      go_ret
      exact ⟨rfl, rfl⟩
  cases neg
  · exact key 0 (by decide) (by decide) (by decide) (by decide +kernel) (by decide +kernel) _ (fun w => signbit_any 0 (by decide) w) (.inl ⟨by decide, rfl⟩)
  · exact key 9223372036854775808 (by decide) (by decide) (by decide) (by decide +kernel) (by decide +kernel) _ (fun w => signbit_any 9223372036854775808 (by decide) w) (.inr ⟨by decide, rfl⟩)
set_option maxRecDepth 100000 in
set_option maxHeartbeats 2000000 in
theorem atof_nought (s : ByteArray) (n : Nat) (p : Int) (neg tr : Bool) (w : World) (hs : IsSpecial s) (hr : ReadsAs s 0 p neg tr n) (he : Env w) : AtofIn (fun r => r = Pl.sgb neg) False s n w := by
  have h1 := he.opt
  have h2 := run_sfb
  clear he
  unfold AtofIn
  obtain ⟨sg, hsg, hsgv⟩ : ∃ sg : Nat, Pl.sgb neg = sg ∧ (neg = false ∧ sg = 0 ∨ neg = true ∧ sg = 9223372036854775808) := ⟨_, rfl, by cases neg <;> simp [Pl.sgb]⟩
  have b2 : bits .or .u64 9223372036854775808 0 = 9223372036854775808 := by decide
  have b3 : bits .or .u64 0 0 = 0 := by decide
  rw [hsg]
  clear hsg
  rcases hsgv with ⟨rfl, rfl⟩ | ⟨rfl, rfl⟩
  all_goals
    go_enter Tryz.func100, Tryz.ntmps100
    go_wp2_with fail
    refine (hs _).mono ?_
    rintro e w' ⟨rfl, rfl⟩
    go_wp2_with fail
    refine (hr _).mono ?_
    rintro e w' ⟨rfl, rfl⟩
    go_wp2_with fail
    refine (bool2u_any _ _).mono ?_
    rintro e w' ⟨rfl, rfl⟩
    go_wp2_with fail
    go_ret3
    exact ⟨⟨_, .inl ⟨rfl, rfl⟩⟩, Below.refl _ _⟩
set_option maxRecDepth 100000 in
set_option maxHeartbeats 2000000 in
theorem atof_edge (s : ByteArray) (n d : Nat) (p : Int) (neg tr : Bool) (w : World) (hs : IsSpecial s) (hr : ReadsAs s d p neg tr n) (hd0 : d ≠ 0) (hp : 310 < p ∨ p < -345) (he : Env w) : AtofIn FinF True s n w := by
  have h1 := he.opt
  have h2 := run_sfb
  have b1 : ((d : Int) == 0) = false := by rw [beq_eq_false_iff_ne]; omega
  clear he
  unfold AtofIn
  have b2 : bits .or .u64 9223372036854775808 0 = 9223372036854775808 := by decide
  have b3 : bits .or .u64 0 0 = 0 := by decide
  have b4 : bits .or .u64 9223372036854775808 9218868437227405312 = 18442240474082181120 := by decide
  have b5 : bits .or .u64 0 9218868437227405312 = 9218868437227405312 := by decide
  rcases hp with hp | hp
  all_goals
    cases neg
    all_goals
      go_enter Tryz.func100, Tryz.ntmps100
      go_wp2_with fail
      refine (hs _).mono ?_
      rintro e w' ⟨rfl, rfl⟩
      go_wp2_with fail
      refine (hr _).mono ?_
      rintro e w' ⟨rfl, rfl⟩
      go_wp2_with fail
      refine (bool2u_any _ _).mono ?_
      rintro e w' ⟨rfl, rfl⟩
      go_wp2_with fail
      go_ret3
      first
        | exact ⟨⟨_, .inr ⟨trivial, rfl⟩⟩, Below.refl _ _⟩
        | exact ⟨⟨_, .inl ⟨⟨by decide, by decide⟩, rfl⟩⟩, Below.refl _ _⟩
end Go.Proofs.YtpilniljhmkedaaGreatDoor
namespace Go.Proofs.YtpilniljhmkedaaGreatDoor
open Go.RowKit
structure Dm where
  d : Nat → Nat
  nd : Nat
  dp : Int
  ng : Bool
  tr : Bool
structure Has (w : World) (P : Nat) (D : Dm) : Prop where
  size : P < w.heap.size
  dig : ∀ i, i < 800 → w.cell? ⟨P, i, none⟩ = some (.int .u8 (D.d i : Nat))
  nd : w.cell? ⟨P, 800, none⟩ = some (.int .i64 (D.nd : Nat))
  dp : w.cell? ⟨P, 801, none⟩ = some (.int .i64 D.dp)
  ng : w.cell? ⟨P, 802, none⟩ = some (.bool D.ng)
  tr : w.cell? ⟨P, 803, none⟩ = some (.bool D.tr)
  free : ∀ i, w.frozen? ⟨P, i, none⟩ = false
theorem off_ne {P i j : Nat} (h : i ≠ j) : (⟨P, i, none⟩ : Addr) ≠ ⟨P, j, none⟩ := by intro e; injection e with _ e; exact h e
def Dm.put (D : Dm) (i x : Nat) : Dm := { D with d := fun j => if j = i then x else D.d j }
theorem Has.put {w : World} {P : Nat} {D : Dm} (h : Has w P D) (i x : Nat) (hi : i < 800) : Has (w.setCell ⟨P, i, none⟩ (.int .u8 (x : Nat))) P (D.put i x) := by
  refine ⟨by rw [World.size_setCell]; exact h.size, fun j hj => ?_, ?_, ?_, ?_, ?_, fun j => by rw [World.frozen?_setCell]; exact h.free j⟩
  · by_cases e : j = i
    · subst e
      rw [World.cell?_setCell_same _ _ _ (h.dig j hj)]; simp [Dm.put]
    · rw [World.cell?_setCell_other _ _ _ _ (off_ne (fun e2 => e e2.symm)), h.dig j hj]; simp [Dm.put, e]
  · rw [World.cell?_setCell_other _ _ _ _ (off_ne (by omega))]; exact h.nd
  · rw [World.cell?_setCell_other _ _ _ _ (off_ne (by omega))]; exact h.dp
  · rw [World.cell?_setCell_other _ _ _ _ (off_ne (by omega))]; exact h.ng
  · rw [World.cell?_setCell_other _ _ _ _ (off_ne (by omega))]; exact h.tr
theorem Has.setnd {w : World} {P : Nat} {D : Dm} (h : Has w P D) (n : Nat) : Has (w.setCell ⟨P, 800, none⟩ (.int .i64 (n : Nat))) P { D with nd := n } := by
  refine ⟨by rw [World.size_setCell]; exact h.size, fun j hj => ?_, ?_, ?_, ?_, ?_, fun j => by rw [World.frozen?_setCell]; exact h.free j⟩
  · rw [World.cell?_setCell_other _ _ _ _ (off_ne (by omega))]; exact h.dig j hj
  · rw [World.cell?_setCell_same _ _ _ h.nd]
  · rw [World.cell?_setCell_other _ _ _ _ (off_ne (by omega))]; exact h.dp
  · rw [World.cell?_setCell_other _ _ _ _ (off_ne (by omega))]; exact h.ng
  · rw [World.cell?_setCell_other _ _ _ _ (off_ne (by omega))]; exact h.tr
theorem Has.setdp {w : World} {P : Nat} {D : Dm} (h : Has w P D) (n : Int) : Has (w.setCell ⟨P, 801, none⟩ (.int .i64 n)) P { D with dp := n } := by
  refine ⟨by rw [World.size_setCell]; exact h.size, fun j hj => ?_, ?_, ?_, ?_, ?_, fun j => by rw [World.frozen?_setCell]; exact h.free j⟩
  · rw [World.cell?_setCell_other _ _ _ _ (off_ne (by omega))]; exact h.dig j hj
  · rw [World.cell?_setCell_other _ _ _ _ (off_ne (by omega))]; exact h.nd
  · rw [World.cell?_setCell_same _ _ _ h.dp]
  · rw [World.cell?_setCell_other _ _ _ _ (off_ne (by omega))]; exact h.ng
  · rw [World.cell?_setCell_other _ _ _ _ (off_ne (by omega))]; exact h.tr
theorem Has.setng {w : World} {P : Nat} {D : Dm} (h : Has w P D) (n : Bool) : Has (w.setCell ⟨P, 802, none⟩ (.bool n)) P { D with ng := n } := by
  refine ⟨by rw [World.size_setCell]; exact h.size, fun j hj => ?_, ?_, ?_, ?_, ?_, fun j => by rw [World.frozen?_setCell]; exact h.free j⟩
  · rw [World.cell?_setCell_other _ _ _ _ (off_ne (by omega))]; exact h.dig j hj
  · rw [World.cell?_setCell_other _ _ _ _ (off_ne (by omega))]; exact h.nd
  · rw [World.cell?_setCell_other _ _ _ _ (off_ne (by omega))]; exact h.dp
  · rw [World.cell?_setCell_same _ _ _ h.ng]
  · rw [World.cell?_setCell_other _ _ _ _ (off_ne (by omega))]; exact h.tr
theorem Has.settr {w : World} {P : Nat} {D : Dm} (h : Has w P D) (n : Bool) : Has (w.setCell ⟨P, 803, none⟩ (.bool n)) P { D with tr := n } := by
  refine ⟨by rw [World.size_setCell]; exact h.size, fun j hj => ?_, ?_, ?_, ?_, ?_, fun j => by rw [World.frozen?_setCell]; exact h.free j⟩
  · rw [World.cell?_setCell_other _ _ _ _ (off_ne (by omega))]; exact h.dig j hj
  · rw [World.cell?_setCell_other _ _ _ _ (off_ne (by omega))]; exact h.nd
  · rw [World.cell?_setCell_other _ _ _ _ (off_ne (by omega))]; exact h.dp
  · rw [World.cell?_setCell_other _ _ _ _ (off_ne (by omega))]; exact h.ng
  · rw [World.cell?_setCell_same _ _ _ h.tr]
/-- how many digits are left when the noughts at the end are struck -/
def tn (d : Nat → Nat) : Nat → Nat
  | 0 => 0
  | n + 1 => if d n = 48 then tn d n else n + 1
def Dm.trim (D : Dm) : Dm := { D with nd := tn D.d D.nd, dp := if tn D.d D.nd = 0 then 0 else D.dp }
def ndOf (w : World) (P : Nat) : Nat := match w.cell? ⟨P, 800, none⟩ with | some (.int _ n) => n.toNat | _ => 0
theorem Has.ndOf {w : World} {P : Nat} {D : Dm} (h : Has w P D) : ndOf w P = D.nd := by unfold Go.Proofs.YtpilniljhmkedaaGreatDoor.ndOf; rw [h.nd]; exact Int.toNat_natCast _
theorem Has.drewN {w : World} {P : Nat} {D : Dm} (h : Has w P D) (n : Nat) : Has (w.drewN n) P D := ⟨h.size, h.dig, h.nd, h.dp, h.ng, h.tr, h.free⟩
theorem Has.drew {w : World} {P : Nat} {D : Dm} (h : Has w P D) : Has w.drew P D := ⟨h.size, h.dig, h.nd, h.dp, h.ng, h.tr, h.free⟩
theorem dtrim_any (P : Nat) (D : Dm) (w : World) (hn : D.nd ≤ 800) (h : Has w P D) : Calls Tryz.prog 158 #[.pointer (some ⟨P, 0, none⟩)] w fun e w' => e = .returned (.tuple #[]) ∧ Has w' P D.trim ∧ Below P w w' := by
  have HH := Lib.hid h
  go_enter Tryz.func158, Tryz.ntmps158
  go_wp2_with fail
  go_loopw [20] (fun _ wr => ∃ n : Nat, n ≤ D.nd ∧ Hid (Has wr P { D with nd := n }) ∧ Hid (tn D.d n = tn D.d D.nd) ∧ Hid (Below P w wr)) (fun _ wr => ndOf wr P)
  case atStart => exact ⟨D.nd, Nat.le_refl _, HH, Lib.hid rfl, Lib.hid (Below.refl _ _)⟩
  case round =>
    obtain ⟨n, hn1, HX, HT, HB⟩ := hrel
    have HM := Lib.hid HX.out.ndOf
    have c1 := HX.out.nd
    have c2 := HX.out.free 800
    have c3 := HX.out.dp
    have c4 := HX.out.free 801
    simp only at c1 c3
    by_cases h0 : 0 < n
    · obtain ⟨m, rfl⟩ : ∃ m, n = m + 1 := ⟨n - 1, by omega⟩
      rw [Int.natCast_add, Int.natCast_one] at c1
      have c5 := HX.out.dig m (by omega)
      have c6 := HX.out.free m
      have hw : IntKind.i64.wrap ((m : Int) + 1 - 1) = m := by rw [show (m : Int) + 1 - 1 = m by omega]; exact IntWalk.i64_in _ (by omega)
      have hg : decide ((0 : Int) < (m : Int) + 1) = true := decide_eq_true (by omega)
      have hm0 : (0 : Int) ≤ (m : Int) := by omega
      have hm1 : (m : Int) < 800 := by omega
      simp only at c5
      by_cases h1 : D.d m = 48
      · have h2 : ((D.d m : Int) == 48) = true := by rw [h1]; rfl
        have h3 := Lib.hid h1
        clear h1
        go_wp2_with fail
        go_quiet (fail)
        go_wp2_with fail
        have HX2 := (HX.out.drewN nq).setnd m
        refine ⟨⟨m, by omega, Lib.hid HX2, Lib.hid ?_, Lib.hid ((below_drewN HB.out nq).setCell (Nat.le_refl _) _)⟩, ?_⟩
        · rw [← HT.out, tn, if_pos h3.out]
        · rw [HX2.ndOf, HM.out]; show m < m + 1; omega
      · have h2 : ((D.d m : Int) == 48) = false := by rw [beq_eq_false_iff_ne]; omega
        have hz : ((m : Int) + 1 == 0) = false := by rw [beq_eq_false_iff_ne]; omega
        have HE := Lib.hid (show D.trim = { D with nd := m + 1 } by
          have := HT.out
          rw [tn, if_neg h1] at this
          unfold Dm.trim
          rw [← this, if_neg (by omega)])
        clear h1
        go_wp2_with fail
        go_quiet (fail)
        go_wp2_with fail
        exact ⟨rfl, _, results_none Tryz.results158 _ _ _, rfl, by rw [HE.out]; exact HX.out.drewN nq, below_drewN HB.out nq⟩
    · obtain rfl : n = 0 := by omega
      have HE := Lib.hid (show D.trim = { D with nd := 0, dp := 0 } by
          have := HT.out
          rw [tn] at this
          unfold Dm.trim
          rw [← this, if_pos rfl])
      rw [show ((0 : Nat) : Int) = 0 from rfl] at c1
      go_wp2_with fail
      go_quiet (fail)
      go_wp2_with fail
      exact ⟨rfl, _, results_none Tryz.results158 _ _ _, rfl, by rw [HE.out]; exact (HX.out.drewN nq).setdp 0, (below_drewN HB.out nq).setCell (Nat.le_refl _) _⟩
end Go.Proofs.YtpilniljhmkedaaGreatDoor
namespace Go.Proofs.YtpilniljhmkedaaGreatDoor
open Go.RowKit
namespace Pl
/-- the decimal's digits are those of N -/
structure DIs (D : Dm) (N : Nat) : Prop where
  le : D.nd ≤ 800
  pos : 0 < D.nd
  dig : ∀ i, i < D.nd → D.d i = N / 10 ^ (D.nd - 1 - i) % 10 + 48
  lo : 10 ^ (D.nd - 1) ≤ N
  hi : N < 10 ^ D.nd
def snum : List UInt8 → Nat
  | [] => 0
  | c :: t => (c.toNat - 48) * 10 ^ t.length + snum t
def preLess (d : Nat → Nat) (nd : Nat) : Nat → List UInt8 → Bool
  | _, [] => false
  | i, c :: t => if nd ≤ i then true else if d i = c.toNat then preLess d nd (i + 1) t else decide (d i < c.toNat)
/-- digits alone, and more than nought in each end piece -/
def Cut : List UInt8 → Prop
  | [] => True
  | c :: t => 48 ≤ c.toNat ∧ c.toNat ≤ 57 ∧ 0 < snum (c :: t) ∧ Cut t
instance : ∀ l, Decidable (Cut l)
  | [] => isTrue trivial
  | c :: t => have := instDecidableCut t; (inferInstanceAs (Decidable (48 ≤ c.toNat ∧ c.toNat ≤ 57 ∧ 0 < snum (c :: t) ∧ Cut t)))
theorem snum_lt : ∀ l, Cut l → snum l < 10 ^ l.length
  | [], _ => by simp [snum]
  | c :: t, h => by
    have h1 := snum_lt t h.2.2.2
    obtain ⟨a, b, _⟩ := h
    simp only [snum, List.length_cons, Nat.pow_succ]
    have : (c.toNat - 48) * 10 ^ t.length ≤ 9 * 10 ^ t.length := Nat.mul_le_mul_right _ (by omega)
    omega
theorem preLess_is {D : Dm} {N : Nat} (h : DIs D N) : ∀ (l : List UInt8) (i : Nat), i ≤ D.nd → Cut l → (preLess D.d D.nd i l = true ↔ N % 10 ^ (D.nd - i) * 10 ^ l.length < snum l * 10 ^ (D.nd - i))
  | [], i, hi, _ => by simp [preLess, snum]
  | c :: t, i, hi, hc => by
    by_cases he : i = D.nd
    · subst he
      have := hc.2.2.1
      simp [preLess, Nat.mod_one, this]
    · obtain ⟨m, hm⟩ : ∃ m, D.nd - i = m + 1 := ⟨D.nd - i - 1, by omega⟩
      have hm2 : D.nd - (i + 1) = m := by omega
      have hd := h.dig i (by omega)
      rw [show D.nd - 1 - i = m by omega] at hd
      have hr := preLess_is h t (i + 1) (by omega) hc.2.2.2
      rw [hm2] at hr
      have hs := snum_lt t hc.2.2.2
      obtain ⟨c1, c2, _⟩ := hc
      have hA : N % 10 ^ m < 10 ^ m := Nat.mod_lt _ (Nat.pow_pos (by omega))
      have hN : N % 10 ^ (m + 1) = N / 10 ^ m % 10 * 10 ^ m + N % 10 ^ m := by
        rw [Nat.pow_succ, Nat.mod_mul]; rw [Nat.mul_comm]; omega
      have ha : N / 10 ^ m % 10 < 10 := Nat.mod_lt _ (by omega)
      rw [preLess, if_neg (by omega), hm, hN, hd]
      generalize N / 10 ^ m % 10 = a at *
      generalize N % 10 ^ m = A at *
      simp only [snum, List.length_cons]
      generalize snum t = S at *
      generalize ht : t.length = L at *
      generalize hcc : c.toNat = cc at *
      obtain ⟨b, rfl⟩ : ∃ b, cc = b + 48 := ⟨cc - 48, by omega⟩
      rw [Nat.add_sub_cancel]
      have p1 : 0 < 10 ^ m := Nat.pow_pos (by omega)
      have p2 : 0 < 10 ^ L := Nat.pow_pos (by omega)
      have e1 : (a * 10 ^ m + A) * 10 ^ (L + 1) = 10 * (a * (10 ^ m * 10 ^ L) + A * 10 ^ L) := by rw [Nat.pow_succ]; simp only [Nat.add_mul, Nat.mul_add, Nat.mul_comm, Nat.mul_left_comm, Nat.mul_assoc]
      have e2 : (b * 10 ^ L + S) * 10 ^ (m + 1) = 10 * (b * (10 ^ m * 10 ^ L) + S * 10 ^ m) := by rw [Nat.pow_succ]; simp only [Nat.add_mul, Nat.mul_add, Nat.mul_comm, Nat.mul_left_comm, Nat.mul_assoc]
      rw [e1, e2]
      have f1 : A * 10 ^ L < 10 ^ m * 10 ^ L := Nat.mul_lt_mul_of_pos_right hA p2
      have f2 : S * 10 ^ m < 10 ^ m * 10 ^ L := by rw [Nat.mul_comm (10 ^ m)]; exact Nat.mul_lt_mul_of_pos_right hs p1
      generalize 10 ^ m * 10 ^ L = Q at *
      generalize A * 10 ^ L = AL at *
      generalize S * 10 ^ m = SM at *
      by_cases hab : a = b
      · subst hab
        rw [if_pos rfl, hr]; omega
      · rw [if_neg (by omega), decide_eq_true_iff]
        constructor
        · intro hlt
          have : (a + 1) * Q ≤ b * Q := Nat.mul_le_mul_right _ (by omega)
          rw [Nat.add_mul, Nat.one_mul] at this
          omega
        · intro hlt
          rcases Nat.lt_or_ge a b with h9 | h9
          · omega
          · exfalso
            have : (b + 1) * Q ≤ a * Q := Nat.mul_le_mul_right _ (by omega)
            rw [Nat.add_mul, Nat.one_mul] at this
            omega
/-- what the table says -/
theorem cheats : ∀ k, k < 61 → ∃ x, Go.Pinned.cheatRows[k]? = some x ∧ (1 ≤ k → 1 ≤ x.1 ∧ x.2.length + x.1 = k + 1 ∧ snum x.2 = 5 ^ k ∧ Cut x.2 ∧ 2 ^ k ≤ 10 ^ x.1 ∧ 10 ^ (x.1 - 1) ≤ 2 ^ k) := by
  have h : ((List.range 61).all fun k => match Go.Pinned.cheatRows[k]? with | some x => decide (1 ≤ k → 1 ≤ x.1 ∧ x.2.length + x.1 = k + 1 ∧ snum x.2 = 5 ^ k ∧ Cut x.2 ∧ 2 ^ k ≤ 10 ^ x.1 ∧ 10 ^ (x.1 - 1) ≤ 2 ^ k) | none => false) = true := by kernel_rfl
  intro k hk
  have h1 := List.all_eq_true.1 h k (List.mem_range.2 hk)
  cases hx : Go.Pinned.cheatRows[k]? with
  | none => rw [hx] at h1; cases h1
  | some x => rw [hx] at h1; exact ⟨x, rfl, of_decide_eq_true h1⟩
/-- how many digits more -/
def more (D : Dm) (x : Nat × List UInt8) : Nat := if preLess D.d D.nd 0 x.2 = true then x.1 - 1 else x.1
theorem more_is {D : Dm} {N k : Nat} {x : Nat × List UInt8} (h : DIs D N) (hk : 1 ≤ k) (hx : 1 ≤ x.1 ∧ x.2.length + x.1 = k + 1 ∧ snum x.2 = 5 ^ k ∧ Cut x.2 ∧ 2 ^ k ≤ 10 ^ x.1 ∧ 10 ^ (x.1 - 1) ≤ 2 ^ k) :
    10 ^ (D.nd - 1 + more D x) ≤ N * 2 ^ k ∧ N * 2 ^ k < 10 ^ (D.nd + more D x) := by
  obtain ⟨h1, h2, h3, h4, h5, h6⟩ := hx
  have hp := preLess_is h x.2 0 (by omega) h4
  rw [Nat.sub_zero, Nat.mod_eq_of_lt h.hi, h3] at hp
  have hlo := h.lo
  have hhi := h.hi
  have hpos := h.pos
  have p2 : 0 < 2 ^ k := Nat.pow_pos (by omega)
  have key : (N * 10 ^ x.2.length < 5 ^ k * 10 ^ D.nd ↔ N * 2 ^ k < 10 ^ (D.nd - 1 + x.1)) := by
    have e1 : (5 ^ k * 10 ^ D.nd) * 2 ^ k = 10 ^ (D.nd - 1 + x.1) * 10 ^ x.2.length := by
      rw [← Nat.pow_add, show D.nd - 1 + x.1 + x.2.length = D.nd + k by omega, Nat.mul_right_comm, ← Nat.mul_pow, ← Nat.pow_add, Nat.add_comm k]
    have e2 : (N * 10 ^ x.2.length) * 2 ^ k = N * 2 ^ k * 10 ^ x.2.length := Nat.mul_right_comm _ _ _
    rw [← Nat.mul_lt_mul_right p2, e1, e2, Nat.mul_lt_mul_right (Nat.pow_pos (by omega))]
  unfold more
  split
  · rename_i hl
    have h7 := key.1 (hp.1 hl)
    refine ⟨?_, ?_⟩
    · rw [Nat.pow_add]; exact Nat.mul_le_mul hlo h6
    · rw [show D.nd + (x.1 - 1) = D.nd - 1 + x.1 by omega]; exact h7
  · rename_i hl
    refine ⟨Nat.not_lt.1 (fun h7 => hl (hp.2 (key.2 h7))), ?_⟩
    rw [Nat.pow_add]
    exact Nat.lt_of_lt_of_le (Nat.mul_lt_mul_of_pos_right hhi p2) (Nat.mul_le_mul_left _ h5)
end Pl
end Go.Proofs.YtpilniljhmkedaaGreatDoor
namespace Go.Proofs.YtpilniljhmkedaaGreatDoor
open Go.RowKit
theorem prefix_any (P : Nat) (D : Dm) (l : List UInt8) (w : World) (hn : D.nd ≤ 800) (h : Has w P D) : Calls Tryz.prog 177 #[.slice (some ⟨P, 0, none⟩) D.nd 800, .string ⟨l.toArray⟩] w fun e w' => e = .returned (.bool (Pl.preLess D.d D.nd 0 l)) ∧ ∃ n, w' = w.drewN n := by
  have HH := Lib.hid h
  have hl : (⟨l.toArray⟩ : ByteArray).size = l.length := by simp [ByteArray.size]
  go_enter Tryz.func177, Tryz.ntmps177
  go_wp2_with fail
  go_loopw [5] (fun s wr => ∃ (k n : Nat), k ≤ l.length ∧ s = .int .i64 k ∧ Hid (Pl.preLess D.d D.nd 0 l = Pl.preLess D.d D.nd k (l.drop k)) ∧ wr = w.drewN n) (fun s _ => l.length - (RowKit.intOf s).toNat)
  case atStart => exact ⟨0, 0, by omega, rfl, Lib.hid rfl, rfl⟩
  case round =>
    obtain ⟨k, n, hk, rfl, HT, rfl⟩ := hrel
    by_cases hlt : k < l.length
    · have hk1 : decide ((k : Int) < (l.length : Int)) = true := decide_eq_true (by omega)
      have HD := Lib.hid (show l.drop k = l[k] :: l.drop (k + 1) from (List.drop_eq_getElem_cons hlt))
      by_cases hge : D.nd ≤ k
      · have hk2 : decide ((D.nd : Int) ≤ (k : Int)) = true := decide_eq_true (by omega)
        have HE := Lib.hid (show Pl.preLess D.d D.nd 0 l = true by rw [HT.out, HD.out, Pl.preLess, if_pos hge])
        go_wp2_with fail
        go_ret
        exact ⟨by rw [HE.out]; rfl, n, rfl⟩
      · have hk2 : decide ((D.nd : Int) ≤ (k : Int)) = false := decide_eq_false (by omega)
        have c5 := HH.out.dig k (by omega)
        have hm0 : (0 : Int) ≤ (k : Int) := by omega
        have hm1 : (k : Int) < (D.nd : Int) := by omega
        have hm2 : (k : Int) < (l.length : Int) := by omega
        have hbs : k < (⟨l.toArray⟩ : ByteArray).size := by rw [hl]; exact hlt
        have e1 : ((⟨l.toArray⟩ : ByteArray)[k]'hbs).toNat = l[k].toNat := rfl
        by_cases he : D.d k = l[k].toNat
        · have e2 : ((D.d k : Int) != (l[k].toNat : Int)) = false := by rw [he]; simp
          have HE := Lib.hid (show Pl.preLess D.d D.nd 0 l = Pl.preLess D.d D.nd (k + 1) (l.drop (k + 1)) by rw [HT.out, HD.out, Pl.preLess, if_neg hge, if_pos he])
          clear he
          go_wp2_with fail
          go_quiet (fail)
          go_wp2_with fail
          go_roundw
          case rel => exact ⟨k + 1, _, by omega, by go_num, HE, rfl⟩
          case measure => simp [RowKit.intOf]; omega
        · have e2 : ((D.d k : Int) != (l[k].toNat : Int)) = true := by simp; omega
          have HE := Lib.hid (show Pl.preLess D.d D.nd 0 l = decide (D.d k < l[k].toNat) by rw [HT.out, HD.out, Pl.preLess, if_neg hge, if_neg he])
          have e3 : decide ((D.d k : Int) < (l[k].toNat : Int)) = decide (D.d k < l[k].toNat) := by simp
          clear he
          go_wp2_with fail
          go_quiet (fail)
          go_wp2_with fail
          go_quiet (fail)
          go_wp2_with fail
          go_ret
          exact ⟨by rw [HE.out, ← e3]; rfl, _, by rw [World.drewN_drewN, World.drewN_drewN]⟩
    · obtain rfl : k = l.length := by omega
      have hk1 : decide ((l.length : Int) < (l.length : Int)) = false := decide_eq_false (by omega)
      have HE := Lib.hid (show Pl.preLess D.d D.nd 0 l = false by rw [HT.out, List.drop_length, Pl.preLess])
      go_wp2_with fail
      go_ret
      exact ⟨by rw [HE.out]; rfl, n, rfl⟩
end Go.Proofs.YtpilniljhmkedaaGreatDoor
namespace Go.Proofs.YtpilniljhmkedaaGreatDoor
open Go.RowKit
namespace Pl
/-- the digit at place i of a number of T digits -/
def dg (M T i : Nat) : Nat := M / 10 ^ (T - 1 - i) % 10 + 48
/-- what is carried when the last q digits are done -/
def cy (N k q : Nat) : Nat := N % 10 ^ q * 2 ^ k / 10 ^ q
theorem cy_zero (N k : Nat) : cy N k 0 = 0 := by simp [cy, Nat.mod_one]
theorem cy_lt (N k q : Nat) : cy N k q < 2 ^ k := by
  unfold cy
  have p : 0 < 10 ^ q := Nat.pow_pos (by omega)
  rw [Nat.div_lt_iff_lt_mul p, Nat.mul_comm (2 ^ k)]
  exact Nat.mul_lt_mul_of_pos_right (Nat.mod_lt _ p) (Nat.pow_pos (by omega))
/-- the carry and the next digit -/
theorem cy_add (N k q : Nat) : cy N k q + N / 10 ^ q % 10 * 2 ^ k = N % 10 ^ (q + 1) * 2 ^ k / 10 ^ q := by
  unfold cy
  have p : 0 < 10 ^ q := Nat.pow_pos (by omega)
  have hN : N % 10 ^ (q + 1) = N / 10 ^ q % 10 * 10 ^ q + N % 10 ^ q := by
    rw [Nat.pow_succ, Nat.mod_mul]; rw [Nat.mul_comm]; omega
  rw [hN, Nat.add_mul, Nat.mul_right_comm, Nat.add_comm (_ * _ * _), Nat.add_mul_div_right _ _ p]
theorem cy_quo (N k q : Nat) : (cy N k q + N / 10 ^ q % 10 * 2 ^ k) / 10 = cy N k (q + 1) := by
  rw [cy_add, Nat.div_div_eq_div_mul, ← Nat.pow_succ]; rfl
theorem cy_rem (N k q : Nat) : (cy N k q + N / 10 ^ q % 10 * 2 ^ k) % 10 = N * 2 ^ k / 10 ^ q % 10 := by
  rw [cy_add]
  have p : 0 < 10 ^ q := Nat.pow_pos (by omega)
  have h := Nat.div_add_mod N (10 ^ (q + 1))
  generalize N % 10 ^ (q + 1) = R at *
  generalize N / 10 ^ (q + 1) = H at *
  rw [← h, Nat.add_mul, Nat.pow_succ, show 10 ^ q * 10 * H * 2 ^ k = (10 * (H * 2 ^ k)) * 10 ^ q by ac_rfl, Nat.add_comm, Nat.add_mul_div_right _ _ p]
  omega
theorem cy_full {N n : Nat} (k : Nat) (h : N < 10 ^ n) : cy N k n = N * 2 ^ k / 10 ^ n := by unfold cy; rw [Nat.mod_eq_of_lt h]
/-- the decimal in the midst of a left shift: from place lo on the new digits, ahead of it the old ones -/
def Dm.mid (D : Dm) (M T lo : Nat) (t : Bool) : Dm := { D with d := fun i => if lo ≤ i ∧ i < T then dg M T i else D.d i, tr := t }
theorem mid_put {D : Dm} {M T lo : Nat} {t : Bool} (h : lo < T) : (Dm.mid D M T (lo + 1) t).put lo (dg M T lo) = Dm.mid D M T lo t := by
  unfold Dm.put Dm.mid
  simp only [Dm.mk.injEq, and_true]
  funext i
  by_cases e : i = lo
  · subst e; simp [h]
  · rw [if_neg e]
    by_cases h2 : lo ≤ i ∧ i < T
    · rw [if_pos h2, if_pos (by omega)]
    · rw [if_neg h2, if_neg (by omega)]
theorem mid_out {D : Dm} {M T lo : Nat} {t : Bool} (i : Nat) (h : i < lo) : (Dm.mid D M T lo t).d i = D.d i := by
  unfold Dm.mid; simp only; rw [if_neg (by omega)]
theorem mid_start (D : Dm) (M T : Nat) : Dm.mid D M T T D.tr = D := by
  unfold Dm.mid
  cases D
  simp only [Dm.mk.injEq, and_true]
  funext i
  rw [if_neg (by omega)]
/-- places beyond the room may hold what they will -/
theorem has_mid {w : World} {P : Nat} {D : Dm} {M T lo : Nat} {t : Bool} (h : Has w P (Dm.mid D M T (lo + 1) t)) (hlo : 800 ≤ lo) : Has w P (Dm.mid D M T lo t) := by
  refine ⟨h.size, fun i hi => ?_, h.nd, h.dp, h.ng, h.tr, h.free⟩
  rw [h.dig i hi]
  unfold Dm.mid
  simp only
  rw [if_neg (by omega), if_neg (by omega)]
theorem has_mid_tr {w : World} {P : Nat} {D : Dm} {M T lo : Nat} {t t2 : Bool} (h : Has (w.setCell ⟨P, 803, none⟩ (.bool t2)) P { (Dm.mid D M T lo t) with tr := t2 }) : Has (w.setCell ⟨P, 803, none⟩ (.bool t2)) P (Dm.mid D M T lo t2) := h
theorem tn_le (d : Nat → Nat) : ∀ n, tn d n ≤ n
  | 0 => Nat.le_refl _
  | n + 1 => by
    rw [tn]; split
    · have := tn_le d n; omega
    · exact Nat.le_refl _
/-- striking noughts at the end -/
theorem trim_is {D : Dm} {N : Nat} (h : DIs D N) : DIs D.trim (N / 10 ^ (D.nd - D.trim.nd)) ∧ N / 10 ^ (D.nd - D.trim.nd) * 10 ^ (D.nd - D.trim.nd) = N ∧ D.trim.dp = D.dp ∧ D.trim.nd ≤ D.nd := by
  have key : ∀ n, 0 < n → n ≤ D.nd → N / 10 ^ (D.nd - n) * 10 ^ (D.nd - n) = N → 0 < tn D.d n ∧ N / 10 ^ (D.nd - tn D.d n) * 10 ^ (D.nd - tn D.d n) = N := by
    intro n
    induction n with
    | zero => intro h0; omega
    | succ n ih =>
      intro _ h1 h2
      rw [tn]
      by_cases h3 : D.d n = 48
      · rw [if_pos h3]
        have hd := h.dig n (by omega)
        have e1 : D.nd - 1 - n = D.nd - (n + 1) := by omega
        rw [e1] at hd
        have hz : N / 10 ^ (D.nd - (n + 1)) % 10 = 0 := by omega
        have hn : 0 < n := by
          refine Nat.pos_of_ne_zero (fun e => ?_)
          subst e
          have hlo := h.lo
          have hhi := h.hi
          have e2 : 10 ^ (D.nd - 1) * 10 = 10 ^ D.nd := by rw [← Nat.pow_succ]; congr 1; omega
          have h5 : N / 10 ^ (D.nd - (0 + 1)) < 10 := by rw [Nat.div_lt_iff_lt_mul (Nat.pow_pos (by omega)), Nat.mul_comm]; rw [Nat.zero_add, e2]; exact hhi
          have h6 : 1 ≤ N / 10 ^ (D.nd - (0 + 1)) := by rw [Nat.le_div_iff_mul_le (Nat.pow_pos (by omega)), Nat.one_mul]; exact hlo
          omega
        refine ih hn (by omega) ?_
        have e3 : D.nd - n = D.nd - (n + 1) + 1 := by omega
        rw [e3, Nat.pow_succ, ← Nat.div_div_eq_div_mul, Nat.mul_comm (10 ^ _) 10, ← Nat.mul_assoc, Nat.div_mul_cancel (Nat.dvd_of_mod_eq_zero hz)]
        exact h2
      · rw [if_neg h3]
        exact ⟨by omega, h2⟩
  obtain ⟨k1, k2⟩ := key D.nd h.pos (Nat.le_refl _) (by rw [Nat.sub_self]; simp)
  have hl := tn_le D.d D.nd
  have e : D.trim = { D with nd := tn D.d D.nd } := by unfold Dm.trim; rw [if_neg (by omega)]
  have hle := h.le
  refine ⟨?_, ?_, by rw [e], by rw [e]; exact hl⟩
  · rw [e]
    generalize tn D.d D.nd = m at *
    simp only
    have hp : 0 < 10 ^ (D.nd - m) := Nat.pow_pos (by omega)
    refine ⟨by simp only; omega, by simp only; omega, fun i hi => ?_, ?_, ?_⟩
    · simp only at hi ⊢
      rw [h.dig i (by omega), Nat.div_div_eq_div_mul, ← Nat.pow_add, show D.nd - m + (m - 1 - i) = D.nd - 1 - i by omega]
    · simp only
      rw [Nat.le_div_iff_mul_le hp, ← Nat.pow_add, show m - 1 + (D.nd - m) = D.nd - 1 by omega]
      exact h.lo
    · simp only
      rw [Nat.div_lt_iff_lt_mul hp, ← Nat.pow_add, show m + (D.nd - m) = D.nd by omega]
      exact h.hi
  · rw [e]; exact k2
/-- all the new digits, cut where the room ends -/
theorem mid_is {D : Dm} {M T : Nat} {t : Bool} {p : Int} (hT : 0 < T) (h1 : 10 ^ (T - 1) ≤ M) (h2 : M < 10 ^ T) : DIs { Dm.mid D M T 0 t with nd := min T 800, dp := p } (M / 10 ^ (T - min T 800)) := by
  have hm : min T 800 ≤ T := Nat.min_le_left _ _
  have hm2 : min T 800 ≤ 800 := Nat.min_le_right _ _
  have hm3 : 0 < min T 800 := by omega
  generalize min T 800 = m at *
  have hp : 0 < 10 ^ (T - m) := Nat.pow_pos (by omega)
  refine ⟨hm2, hm3, fun i hi => ?_, ?_, ?_⟩
  · simp only at hi ⊢
    unfold Dm.mid
    simp only
    rw [if_pos (by omega), dg, Nat.div_div_eq_div_mul, ← Nat.pow_add, show T - m + (m - 1 - i) = T - 1 - i by omega]
  · simp only
    rw [Nat.le_div_iff_mul_le hp, ← Nat.pow_add, show m - 1 + (T - m) = T - 1 by omega]
    exact h1
  · simp only
    rw [Nat.div_lt_iff_lt_mul hp, ← Nat.pow_add, show m + (T - m) = T by omega]
    exact h2
end Pl
end Go.Proofs.YtpilniljhmkedaaGreatDoor
namespace Go.Proofs.YtpilniljhmkedaaGreatDoor
open Go.RowKit
structure Tbs (w : World) (P : Nat) : Prop where
  lt : 16 < P
  info : w.cell? ⟨8, 0, none⟩ = some (.int .u64 52)
  info1 : w.cell? ⟨8, 1, none⟩ = some (.int .u64 11)
  info2 : w.cell? ⟨8, 2, none⟩ = some (.int .i64 (-1023))
  ptab : ∃ (a : Addr) (cap : Nat), w.cell? ⟨11, 0, none⟩ = some (.slice (some a) 9 cap) ∧ a.block < P ∧ ∀ (i : Nat) (x : Nat), Pl.ptab[i]? = some x → w.cell? (a.add i) = some (.int .i64 (x : Nat))
  lch : ∃ (a : Addr) (cap : Nat), w.cell? ⟨14, 0, none⟩ = some (.slice (some a) 61 cap) ∧ a.block < P ∧ ∀ (i : Nat) (x : Nat × List UInt8), Go.Pinned.cheatRows[i]? = some x → w.cell? (a.add (2 * i)) = some (.int .i64 (x.1 : Nat)) ∧ w.cell? (a.add (2 * i + 1)) = some (.string ⟨x.2.toArray⟩)
theorem Tbs.below {w w' : World} {P : Nat} (h : Tbs w P) (hb : Below P w w') : Tbs w' P := by
  have hs := h.lt
  have hc : ∀ g o, g < 17 → w'.cell? ⟨g, o, none⟩ = w.cell? ⟨g, o, none⟩ := fun g o hg => hb.cell (p := ⟨g, o, none⟩) (by show g < _; omega)
  refine ⟨hs, ?_, ?_, ?_, ?_, ?_⟩
  · rw [hc _ _ (by omega)]; exact h.info
  · rw [hc _ _ (by omega)]; exact h.info1
  · rw [hc _ _ (by omega)]; exact h.info2
  · obtain ⟨a, cap, h1, h2, h3⟩ := h.ptab
    exact ⟨a, cap, by rw [hc _ _ (by omega)]; exact h1, h2, fun i x hx => by rw [hb.cell (by rw [add_block]; exact h2)]; exact h3 i x hx⟩
  · obtain ⟨a, cap, h1, h2, h3⟩ := h.lch
    exact ⟨a, cap, by rw [hc _ _ (by omega)]; exact h1, h2, fun i x hx => ⟨by rw [hb.cell (by rw [add_block]; exact h2)]; exact (h3 i x hx).1, by rw [hb.cell (by rw [add_block]; exact h2)]; exact (h3 i x hx).2⟩⟩
theorem Env.tbs {w : World} (h : Env w) : Tbs w w.heap.size := ⟨h.size, h.info, h.info1, h.info2, h.ptab, h.lch⟩
end Go.Proofs.YtpilniljhmkedaaGreatDoor
