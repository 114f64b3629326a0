/- The contract of atof64 at a text whose digits are not cut. The contracts of ParseFloat and Read where reading takes memory: a float as R says, or (where E allows it) an error. Plain: the digits ahead of the point and behind it of the text that a float is written as. The text that a float is written as is read as that float. Nought, written and read; what is read of a text whose digits are all nought, or whose power is too great or too small. The slow road's decimal as it lies in memory: 800 digits, their count, the point, two marks. The slow road's plain law: how many digits a left shift adds. prefixIsLessThan, walked. A left shift's plain law, digit by digit from the end. The slow road's tables, below the decimal. atof64 at a text whose digits are cut, given the slow road. (Printed by gen_slo.py.) Read of any text, given the slow road: a number, or an error. leftShift, walked. A right shift's plain law. rightShift, walked. shouldRoundUp, walked. The slow road's digits as they are read: plain. The slow road: a decimal of nought, what set leaves. -/
import Derived.Test.YtlodbibagmblkaaGreatDoorTabf
import Derived.Test.YtlodbibagmblkaaGreatDoorTaba
import Derived.Test.YtlodbibagmblkaaGreatDoorTabd
import Derived.Test.YtlodbibagmblkaaGreatDoorTaah
import Derived.Test.YtlodbibagmblkaaGreatDoorTaab
import Derived.WalkKit
import Derived.BigQuiet
import Derived.Deep.CutRange
import Derived.Test.YtlodbibagmblkaaGreatDoorTaaf
import Derived.Deep.LoopGhost
import Derived.Test.YtlodbibagmblkaaGreatDoorTaai
namespace Go.Proofs.YtlodbibagmblkaaGreatDoor
open Go.RowKit
open Fl (E74)
theorem exact_any (d : Nat) (p : Int) (neg : Bool) (w : World) (hd : d < 18446744073709551616) (he : Env w) :
    Calls Tryz.prog 291 #[.int .u64 d, .int .i64 p, .bool neg] w (ExOut d p neg w) := by
  rcases Nat.lt_or_ge d 4503599627370496 with h | h
  · by_cases h0 : p = 0
    · subst h0; exact exact_zero d neg w h he
    · by_cases h1 : p < -22 ∨ 37 < p
      · exact exact_none d p neg w h h1 he
      · rcases Int.lt_or_le p 0 with h2 | h2
        · obtain ⟨k, rfl⟩ : ∃ k : Nat, p = -(k : Int) := ⟨(-p).toNat, by omega⟩
          exact exact_quo d k neg w h (by omega) (by omega) he
        · obtain ⟨k, rfl⟩ : ∃ k : Nat, p = (k : Int) := ⟨p.toNat, by omega⟩
          rcases Nat.lt_or_ge 22 k with h3 | h3
          · obtain ⟨j, rfl⟩ : ∃ j, k = j + 22 := ⟨k - 22, by omega⟩
            exact exact_mul2 d j neg w h (by omega) (by omega) he
          · exact exact_mul d k neg w h h3 (by omega) he
  · exact exact_big d p neg w h hd he
/-- what reading answers at a rung -/
def readV (neg : Bool) (r n : Nat) : Value := .tuple #[.float .f64 (Fl.D.word neg r), .int .i64 n, if r = 9218868437227405312 then .iface 190 (.int .i64 1) else .nilIface]
theorem floatV_is (neg : Bool) {d : Nat} {p : Int} (hd0 : d ≠ 0) (hd : d < 18446744073709551616) (hp1 : -345 ≤ p) (hp2 : p ≤ 310) :
    floatV neg (Pl.pOut d (Lib.bitLen d) p) = .tuple #[.float .f64 (Fl.D.word neg (Pl.rnd E74 (d, p))), if Pl.rnd E74 (d, p) = 9218868437227405312 then .iface 190 (.int .i64 1) else .nilIface] := by
  obtain ⟨b1, b2, b3⟩ := Pl.bitLen_bounds hd hd0
  have b4 := Lib.bitLen_le d 64 (Nat.le_refl _) hd
  rw [Pl.parse_is Fl.E74_is b1 b4 b2 b3 hp1 hp2]
  unfold floatV
  simp only [decide_eq_true_eq]
set_option maxRecDepth 100000 in
set_option maxHeartbeats 2000000 in
theorem atof_any (s : ByteArray) (n d : Nat) (p : Int) (neg : Bool) (w : World) (hs : IsSpecial s) (hr : ReadsAs s d p neg false n) (hd0 : d ≠ 0) (hd : d < 18446744073709551616) (hp1 : -345 ≤ p) (hp2 : p ≤ 310) (he : Env w) :
    Calls Tryz.prog 253 #[.string s] w fun e w' => e = .returned (readV neg (Pl.rnd E74 (d, p)) n) ∧ Below w.heap.size w w' := by
  have h1 := he.opt
  have HX := Lib.hid (exact_any d p neg w hd he)
  have HP := Lib.hid (parsef_any d p neg w hd0 hd hp1 hp2 he.tab (by have := he.size; omega))
  rw [floatV_is neg hd0 hd hp1 hp2] at HP
  have b1 : ((d : Int) == 0) = false := by rw [beq_eq_false_iff_ne]; omega
  obtain ⟨r, hr'⟩ : ∃ r, Pl.rnd E74 (d, p) = r := ⟨_, rfl⟩
  unfold ExOut at HX
  rw [hr'] at HX HP ⊢
  clear he hr'
  go_enter Tryz.func253, Tryz.ntmps253
  go_wp2_with fail
  refine (hs _).mono ?_
  rintro e w' ⟨rfl, rfl⟩
  go_wp2_with fail
  refine (hr _).mono ?_
  rintro e w' ⟨rfl, rfl⟩
  go_wp2_with fail
  refine (bool2u_any _ _).mono ?_
  rintro e w' ⟨rfl, rfl⟩
  obtain ⟨sg, hsg, hsgv⟩ : ∃ sg : Int, (Pl.sgb neg : Int) = sg ∧ (neg = false ∧ sg = 0 ∨ neg = true ∧ sg = 9223372036854775808) := ⟨_, rfl, by cases neg <;> simp [Pl.sgb]⟩
  rw [hsg] at HP
  clear hsg
  rcases hsgv with ⟨rfl, rfl⟩ | ⟨rfl, rfl⟩
  all_goals
    go_wp2_with fail
    refine HX.out.mono ?_
    rintro e w'' ⟨f, ok, rfl, hok, rfl⟩
    cases ok
    rotate_left 1
    · obtain ⟨rfl, hlt⟩ := hok rfl
      have HL := Lib.hid hlt
      clear hok hlt
      go_wp2_with fail
      go_ret3
      refine ⟨?_, Below.refl _ _⟩
      unfold readV
      rw [if_neg (by have := HL.out; omega)]
      rfl
    · clear hok
      by_cases hinf : r = 9218868437227405312
      · rw [if_pos hinf] at HP
        have HI := Lib.hid hinf
        clear hinf
        go_wp2_with fail
        refine HP.out.mono ?_
        rintro e w2 ⟨rfl, hb⟩
        have HB := Lib.hid hb
        clear hb
        go_wp2_with fail
        go_ret3
        refine ⟨?_, HB.out⟩
        unfold readV
        rw [if_pos HI.out]
        rfl
      · rw [if_neg hinf] at HP
        have HI := Lib.hid hinf
        clear hinf
        go_wp2_with fail
        refine HP.out.mono ?_
        rintro e w2 ⟨rfl, hb⟩
        have HB := Lib.hid hb
        clear hb
        go_wp2_with fail
        go_ret3
        refine ⟨?_, HB.out⟩
        unfold readV
        rw [if_neg HI.out]
        rfl
end Go.Proofs.YtlodbibagmblkaaGreatDoor
namespace Go.Proofs.YtlodbibagmblkaaGreatDoor
open Go.RowKit Go.Lib
/-- what atof64 answers of a text: a float as R says, or an error, if E -/
def AtofIn (R : Nat → Prop) (E : Prop) (s : ByteArray) (n : Nat) (w : World) : Prop :=
  Calls Tryz.prog 253 #[.string s] w fun e w' => (∃ r, R r ∧ e = .returned (.tuple #[.float .f64 r, .int .i64 n, .nilIface]) ∨ E ∧ e = .returned (.tuple #[.float .f64 r, .int .i64 n, .iface 190 (.int .i64 1)])) ∧ Below w.heap.size w w'
theorem pre_in {R : Nat → Prop} {E : Prop} (s : ByteArray) (w : World) (n : Nat) (h : AtofIn R E s n w) :
    Calls Tryz.prog 224 #[.string s, .int .i64 64] w fun e w' => (∃ r, R r ∧ e = .returned (.tuple #[.float .f64 r, .int .i64 n, .nilIface]) ∨ E ∧ e = .returned (.tuple #[.float .f64 r, .int .i64 n, .iface 190 (.int .i64 1)])) ∧ Below w.heap.size w w' := by
  go_enter Tryz.func224, Tryz.ntmps224
  go_wp2_with fail
  refine h.mono ?_
  rintro e w' ⟨⟨r, ⟨hR, rfl⟩ | ⟨hE, rfl⟩⟩, hB⟩
  · go_wp2_with fail
    go_ret3
    exact ⟨⟨r, .inl ⟨hR, rfl⟩⟩, hB⟩
  · go_wp2_with fail
    go_ret3
    exact ⟨⟨r, .inr ⟨hE, rfl⟩⟩, hB⟩
theorem iparse_in {R : Nat → Prop} {E : Prop} (s : ByteArray) (w : World) (n : Nat) (h : AtofIn R E s n w) (hn : Hid (s.size = n)) :
    Calls Tryz.prog 200 #[.string s, .int .i64 64] w fun e w' => (∃ r, R r ∧ e = .returned (.tuple #[.float .f64 r, .nilIface]) ∨ E ∧ e = .returned (.tuple #[.float .f64 r, .iface 190 (.int .i64 1)])) ∧ Below w.heap.size w w' := by
  have hn' := hn.out
  have b1 : ((n : Int) != (n : Int)) = false := by simp
  go_enter Tryz.func200, Tryz.ntmps200
  go_wp2_with fail
  refine (pre_in s _ n h).mono ?_
  rintro e w' ⟨⟨r, ⟨hR, rfl⟩ | ⟨hE, rfl⟩⟩, hB⟩
  · go_wp2_with fail
    go_ret2
    exact ⟨⟨r, .inl ⟨hR, rfl⟩⟩, hB⟩
  · go_wp2_with fail
    go_ret2
    exact ⟨⟨r, .inr ⟨hE, rfl⟩⟩, hB⟩
set_option maxHeartbeats 1000000 in
theorem parse_in {R : Nat → Prop} {E : Prop} (s : ByteArray) (w : World) (n : Nat) (h : AtofIn R E s n w) (hn : Hid (s.size = n)) (hs : s.size ≤ 100000) (he : Env w) :
    Calls Tryz.prog 168 #[.string s, .int .i64 64] w fun e w' => (∃ r, R r ∧ e = .returned (.tuple #[.float .f64 r, .nilIface]) ∨ E ∧ ∃ a, e = .returned (.tuple #[.float .f64 r, .iface 191 (.pointer (some a))])) ∧ Below w.heap.size w w' := by
  go_enter Tryz.func168, Tryz.ntmps168
  go_wp2_with fail
  refine (iparse_in s _ n h hn).mono ?_
  rintro e w' ⟨⟨r, ⟨hR, rfl⟩ | ⟨hE, rfl⟩⟩, hB⟩
  · go_wp2_with fail
    go_ret2
    exact ⟨⟨r, .inl ⟨hR, rfl⟩⟩, hB⟩
  · have HB := Lib.hid hB
    have he' := he.below hB
    clear hB
    go_wp2_with fail
    refine (toError_range _ s _ hs he').mono ?_
    rintro e w1 ⟨a, rfl, hB1⟩
    have HBZ := Lib.hid (HB.out.trans (hB1.mono HB.out.size))
    clear hB1
    go_wp2_with fail
    go_ret2
    exact ⟨⟨r, .inr ⟨hE, a, rfl⟩⟩, HBZ.out⟩
theorem read_in {R : Nat → Prop} {E : Prop} (l : List UInt8) (w : World) (hl : l.length ≤ 1000) (hf : Pl.formed l = true) (he : Env w) (h : ∀ w, Env w → AtofIn R E (bs l) l.length w) :
    Calls Tryz.prog 123 #[.string (bs l)] w fun e w' => ((∃ r, R r ∧ e = .returned (.tuple #[.int .u64 (Fl.told r), .int .i64 0])) ∨ E ∧ e = .returned (.tuple #[.int .u64 0, .int .i64 101])) ∧ Below w.heap.size w w' := by
  have HF := Lib.hid (formed_any l w (by omega))
  have HP := Lib.hid (fun w he => parse_in (bs l) w l.length (h w he) (Lib.hid rfl) (by rw [bs_size]; omega) he)
  rw [hf] at HF
  clear h
  generalize bs l = s at *
  go_enter Tryz.func123, Tryz.ntmps123
  go_wp2_with fail
  refine HF.out.mono ?_
  rintro e w1 ⟨rfl, hB⟩
  go_wp2_with fail
  refine (HP.out _ (he.below hB)).mono ?_
  rintro e w2 ⟨⟨r, ⟨hR, rfl⟩ | ⟨hE, a, rfl⟩⟩, hB2⟩
  · have HBZ := Lib.hid (hB.trans (hB2.mono hB.size))
    clear hB hB2
    go_wp2_with fail
    refine (told_any _ _).mono ?_
    rintro e w3 ⟨rfl, rfl⟩
    go_wp2_with fail
    go_ret2
    exact ⟨.inl ⟨r, hR, rfl⟩, HBZ.out⟩
  · have HBZ := Lib.hid (hB.trans (hB2.mono hB.size))
    clear hB hB2
    go_wp2_with fail
    go_ret2
    exact ⟨.inr ⟨hE, rfl⟩, HBZ.out⟩
/-- a text whose digits are not cut -/
theorem atof_in (s : ByteArray) (n d : Nat) (p : Int) (neg : Bool) (w : World) (hs : IsSpecial s) (hr : ReadsAs s d p neg false n) (hd0 : d ≠ 0) (hd : d < 18446744073709551616) (hp1 : -345 ≤ p) (hp2 : p ≤ 310) (hlt : Pl.rnd Fl.E74 (d, p) < 9218868437227405312) (he : Env w) :
    AtofIn (fun r => r = Fl.D.word neg (Pl.rnd Fl.E74 (d, p))) False s n w := by
  refine (atof_any s n d p neg w hs hr hd0 hd hp1 hp2 he).mono ?_
  rintro e w' ⟨rfl, hB⟩
  refine ⟨⟨_, .inl ⟨rfl, ?_⟩⟩, hB⟩
  unfold readV
  rw [if_neg (by omega)]
end Go.Proofs.YtlodbibagmblkaaGreatDoor
namespace Go.Proofs.YtlodbibagmblkaaGreatDoor
open Go Go.Lib
namespace Pl
theorem rnd_shift (E d : Nat) (k : Int) (j : Nat) : rnd E (d * 10 ^ j, k - j) = rnd E (d, k) := by
  induction j with
  | zero => simp
  | succ j ih =>
    rw [← ih]
    have h := rnd_ten E (d * 10 ^ j) (-(k - (j : Int)) + 1)
    rw [show -(-(k - (j : Int)) + 1 - 1) = k - j by omega, show -(-(k - (j : Int)) + 1) = k - ((j + 1 : Nat) : Int) by omega] at h
    rw [h, Nat.pow_succ]
    congr 2
    rw [Nat.mul_comm 10, Nat.mul_assoc]
theorem repeat_zeros (k : Nat) : Lib.repeatL [48] k = List.replicate k 48 := by
  induction k with
  | zero => rfl
  | succ k ih => rw [Lib.repeatL, ih]; rfl
theorem vl_one : vl [48] = 0 := vl_zeros 1
/-- a text's digits ahead of the point and behind it -/
structure Parts (L : List UInt8) (p : Int) (e : Int) (X Y : List UInt8) (j : Nat) : Prop where
  x0 : X ≠ []
  y0 : Y ≠ []
  xd : ∀ c ∈ X, digit c
  yd : ∀ c ∈ Y, digit c
  v : vl (X ++ Y) = vl L * 10 ^ j
  q : e - Y.length = p + 1 - L.length - j
  j17 : j ≤ 17
  len : X.length + Y.length ≤ L.length + 20
theorem pointed_parts {L : List UInt8} (hL : ∀ c ∈ L, digit c) {n : Nat} (hn : 1 ≤ n) (hn2 : n ≤ L.length) (hl : L.length ≤ 1000) : ∃ (X Y : List UInt8) (j : Nat), j ≤ 1 ∧ pointed L n = X ++ 46 :: Y ∧ X ≠ [] ∧ Y ≠ [] ∧ (∀ c ∈ X, digit c) ∧ (∀ c ∈ Y, digit c) ∧ vl (X ++ Y) = vl L * 10 ^ j ∧ (Y.length : Int) = L.length + j - n ∧ X.length + Y.length ≤ L.length + 1 := by
  unfold pointed
  by_cases h : n = L.length
  · rw [if_pos h]
    refine ⟨L, [48], 1, by omega, rfl, List.ne_nil_of_length_pos (by omega), by simp, hL, ?_, ?_, ?_, by simp⟩
    · intro c hc; simp at hc; subst hc; exact ⟨by decide, by decide⟩
    · rw [vl_append, vl_one]; rfl
    · simp; omega
  · rw [if_neg h]
    refine ⟨L.take n, L.drop n, 0, by omega, by simp, List.ne_nil_of_length_pos (by rw [List.length_take]; omega), List.ne_nil_of_length_pos (by rw [List.length_drop]; omega), fun c hc => hL c (List.mem_of_mem_take hc), fun c hc => hL c (List.mem_of_mem_drop hc), ?_, ?_, ?_⟩
    · rw [List.take_append_drop]; simp
    · rw [List.length_drop]; omega
    · rw [List.length_take, List.length_drop]; omega
theorem written_parts {L : List UInt8} (hL : ∀ c ∈ L, digit c) (h1 : 1 ≤ L.length) (hl : L.length ≤ 20) (p : Int) (hp : -400 ≤ p ∧ p ≤ 400) :
    ((p < -4 ∨ 15 < p) ∧ ∃ (X Y : List UInt8) (j : Nat), Parts L p p X Y j ∧ j ≤ 1 ∧ written L p = X ++ 46 :: Y ++ 101 :: Lib.itoa p) ∨
      (¬ (p < -4 ∨ 15 < p) ∧ ∃ (X Y : List UInt8) (j : Nat), Parts L p 0 X Y j ∧ (j ≤ 1 ∨ (Y.length = 1 ∧ L.length + j ≤ 17)) ∧ written L p = X ++ 46 :: Y) := by
  unfold written
  by_cases c1 : p < -4 ∨ 15 < p
  · left
    rw [if_pos c1]
    obtain ⟨X, Y, j, hj, e, x0, y0, xd, yd, v, q, le⟩ := pointed_parts hL (n := 1) (by omega) h1 (by omega)
    exact ⟨c1, X, Y, j, ⟨x0, y0, xd, yd, v, by omega, by omega, by omega⟩, hj, by rw [e]; simp⟩
  · right
    refine ⟨c1, ?_⟩
    rw [if_neg c1]
    by_cases c2 : p + 1 ≤ 0
    · rw [if_pos c2, repeat_zeros]
      refine ⟨[48], List.replicate (-(p + 1)).toNat 48 ++ L, 0, ⟨by simp, List.ne_nil_of_length_pos (by rw [List.length_append]; omega), ?_, ?_, ?_, ?_, by omega, ?_⟩, .inl (by omega), by simp⟩
      · intro c hc; simp at hc; subst hc; exact ⟨by decide, by decide⟩
      · intro c hc
        rcases List.mem_append.1 hc with hc | hc
        · obtain ⟨_, rfl⟩ := List.mem_replicate.1 hc; exact ⟨by decide, by decide⟩
        · exact hL c hc
      · rw [← List.append_assoc, vl_append]
        have : [48] ++ List.replicate (-(p + 1)).toNat 48 = List.replicate ((-(p + 1)).toNat + 1) (48 : UInt8) := by rw [List.replicate_succ]; rfl
        rw [this, vl_zeros]; simp
      · simp; omega
      · simp; omega
    · rw [if_neg c2]
      by_cases c3 : (L.length : Int) < p + 1
      · rw [if_pos c3, repeat_zeros]
        have hlen : (L ++ List.replicate (p + 1 - L.length).toNat (48 : UInt8)).length = (p + 1).toNat := by simp; omega
        unfold pointed
        rw [if_pos hlen.symm]
        refine ⟨L ++ List.replicate (p + 1 - L.length).toNat 48, [48], (p + 1 - L.length).toNat + 1, ⟨List.ne_nil_of_length_pos (by rw [List.length_append]; omega), by simp, ?_, ?_, ?_, ?_, by omega, ?_⟩, .inr ⟨rfl, by omega⟩, by simp⟩
        · intro c hc
          rcases List.mem_append.1 hc with hc | hc
          · exact hL c hc
          · obtain ⟨_, rfl⟩ := List.mem_replicate.1 hc; exact ⟨by decide, by decide⟩
        · intro c hc; simp at hc; subst hc; exact ⟨by decide, by decide⟩
        · rw [vl_append, vl_append, vl_zeros, vl_one, List.length_replicate, Nat.pow_succ, Nat.add_zero, Nat.add_zero, Nat.mul_assoc]; rfl
        · simp; omega
        · rw [hlen]; simp; omega
      · rw [if_neg c3]
        obtain ⟨X, Y, j, hj, e, x0, y0, xd, yd, v, q, le⟩ := pointed_parts hL (n := (p + 1).toNat) (by omega) (by omega) (by omega)
        exact ⟨X, Y, j, ⟨x0, y0, xd, yd, v, by omega, by omega, by omega⟩, .inl hj, e⟩
end Pl
end Go.Proofs.YtlodbibagmblkaaGreatDoor
namespace Go.Proofs.YtlodbibagmblkaaGreatDoor
open Go.RowKit Go.Lib
namespace Pl
theorem vl_lt (l : List UInt8) (h : ∀ c ∈ l, digit c) : vl l < 10 ^ l.length := by
  induction l using snocRec with
  | nil => decide
  | snoc l c ih =>
    have hc := h c (by simp)
    have := ih (fun x hx => h x (by simp [hx]))
    unfold digit at hc
    rw [vl_snoc, List.length_append, List.length_singleton, Nat.pow_succ]
    omega
theorem erun_vl (l : List UInt8) (h : vl l < 100000) : erun l = vl l := by
  induction l using snocRec with
  | nil => rfl
  | snoc l c ih =>
    rw [vl_snoc] at h
    rw [erun_snoc, ih (by omega), vl_snoc]
    unfold estep
    rw [if_pos (by omega)]
theorem erun_dec {n : Nat} (h : n < 100000) : erun (decDigits n) = n := by
  rw [erun_vl _ (by rw [vl_dec]; exact h), vl_dec]
end Pl
theorem dec_ne (n : Nat) : decDigits n ≠ [] := by
  intro e
  have := congrArg List.length e
  rw [decDigits_length] at this
  have := nDigits_pos n
  simp at *
  omega
theorem txt_special {t : Txt} (h : t.Ok) : IsSpecial (bs t.text) := by
  have hx := List.length_pos_iff.2 h.x0
  have hl := h.len
  have key : ∀ M : List UInt8, M = t.X ++ 46 :: t.Y ++ t.tail → (q : 0 < M.length) → 48 ≤ M[0].toNat ∧ M[0].toNat ≤ 57 := by
    intro M e q
    subst e
    have e1 : (t.X ++ 46 :: t.Y ++ t.tail)[0] = t.X[0] := by
      rw [List.getElem_append_left (by simp; omega), List.getElem_append_left hx]
    rw [e1]
    exact h.xd _ (List.getElem_mem _)
  obtain ⟨neg, X, Y, ex⟩ := t
  unfold Txt.text at hl ⊢
  cases neg
  · simp only [Bool.false_eq_true, if_false, List.nil_append] at hl ⊢
    have hp : 0 < (Txt.body ⟨false, X, Y, ex⟩ ++ Txt.tail ⟨false, X, Y, ex⟩).length := by unfold Txt.body; simp; omega
    exact special_bs _ hp (by omega) (key _ rfl hp)
  · simp only [if_true] at hl ⊢
    have hp : 0 < (Txt.body ⟨true, X, Y, ex⟩ ++ Txt.tail ⟨true, X, Y, ex⟩).length := by unfold Txt.body; simp; omega
    exact special_minus _ hp (by simp at hl ⊢; omega) (key _ rfl hp)
/-- what a text's digits come to -/
def Txt.num (t : Txt) : Nat := Pl.vl (t.X ++ t.Y)
def Txt.pow (t : Txt) : Int := t.exp - t.Y.length
/-- a text of at most 19 digits -/
theorem txt_short {t : Txt} (h : t.Ok) (h0 : t.num ≠ 0) (h19 : t.num < 10000000000000000000) : ReadsAs (bs t.text) t.num t.pow t.neg false t.text.length := by
  have r := txt_reads h
  have hc : Pl.cnt (t.X ++ t.Y) ≤ 19 := Pl.cnt_19 (fun c hc => (List.mem_append.1 hc).elim (h.xd c) (h.yd c)) h19
  have e : Pl.run t.body = _ := Pl.run_behind t.X t.Y h.xd h.x0 h.yd hc
  rw [e] at r
  have e2 : Pl.expOf ⟨Pl.vl (t.X ++ t.Y), Pl.cnt (t.X ++ t.Y), Pl.cnt (t.X ++ t.Y), (Pl.cnt (t.X ++ t.Y) : Int) - t.Y.length, true, true, false⟩ t.exp = t.pow := by
    unfold Pl.expOf Txt.pow
    have h0' : ¬ Pl.vl (t.X ++ t.Y) = 0 := h0
    simp only [h0', if_false]
    omega
  rw [e2] at r
  exact r
theorem pow_le_nDigits (u : Nat) (h : 1 ≤ u) : 10 ^ (nDigits u - 1) ≤ u := by
  induction u using Nat.strongRecOn with
  | _ u ih =>
    by_cases h10 : u < 10
    · rw [nDigits_small h10]; exact h
    · rw [nDigits_big h10]
      have := ih (u / 10) (by omega) (by omega)
      have hp := nDigits_pos (u / 10)
      rw [Nat.add_sub_cancel]
      obtain ⟨m, hm⟩ : ∃ m, nDigits (u / 10) = m + 1 := ⟨nDigits (u / 10) - 1, by omega⟩
      rw [hm] at this ⊢
      rw [Nat.add_sub_cancel] at this
      rw [Nat.pow_succ]
      omega
theorem show_txt {a : Nat} (hf : a / 4503599627370496 % 2048 < 2047) (hz : a % 9223372036854775808 ≠ 0) :
    ∃ t : Txt, t.Ok ∧ Pl.showN a = t.text ∧ t.neg = decide (9223372036854775808 ≤ a) ∧ t.num ≠ 0 ∧ t.num < 10000000000000000000 ∧ -345 ≤ t.pow ∧ t.pow ≤ 310 ∧ Pl.rnd Fl.E74 (t.num, t.pow) = a % 9223372036854775808 ∧ ∃ x y : Nat, t.num * 10 ^ x = (Pl.decOf a).1 * 10 ^ y := by
  obtain ⟨g1, g2, g3, g4, g5⟩ := Pl.digs_ok hf hz
  have hm0 : Pl.mant a ≠ 0 := by unfold Pl.mant; split <;> omega
  obtain ⟨hr, h18, hk1, hk2⟩ : Pl.RndIs Fl.E74 (Pl.decOf a) (a % 9223372036854775808) := by
    have hm64 : Pl.mant a < 18446744073709551616 := by unfold Pl.mant; split <;> omega
    obtain ⟨l1, l2⟩ := Pl.left_ok hm64 hm0
    unfold Pl.decOf
    by_cases h0 : a / 4503599627370496 % 2048 = 0
    · obtain ⟨e1, e2, _, _⟩ := Pl.den_left h0 (by omega)
      have := Pl.short_round (M := Pl.mant a) (L := Pl.lft a) (u := 0) Fl.E74_is (by omega) (by omega) (.inr rfl) (by omega) l1 l2
      rw [e2]
      rw [show (((0 : Nat) : Int) - 1074 - (Pl.lft a : Int)) = -1074 - (Pl.lft a : Int) by omega, show 0 * 4503599627370496 + Pl.mant a = a % 9223372036854775808 by omega] at this
      exact this
    · obtain ⟨e1, e2, e3⟩ := Pl.nor_left h0
      have := Pl.short_round (M := Pl.mant a) (L := Pl.lft a) (u := a / 4503599627370496 % 2048 - 1) Fl.E74_is (by omega) (by omega) (.inl (by omega)) (by omega) l1 l2
      rw [e2]
      rw [show (((a / 4503599627370496 % 2048 - 1 : Nat) : Int) - 1074 - (Pl.lft a : Int)) = ((a / 4503599627370496 % 2048 : Nat) : Int) - 1075 - (Pl.lft a : Int) by omega, show (a / 4503599627370496 % 2048 - 1) * 4503599627370496 + Pl.mant a = a % 9223372036854775808 by omega] at this
      exact this
  obtain ⟨s1, s2⟩ := Pl.vl_sig (Pl.decOf a).1
  obtain ⟨d1, d2, _, _⟩ := Pl.dec_ok hf hm0
  have hnd : nDigits (Pl.decOf a).1 ≤ 18 := by
    rcases Nat.lt_or_ge 18 (nDigits (Pl.decOf a).1) with h | h
    · exfalso
      have hp := pow_le_nDigits (Pl.decOf a).1 (by omega)
      have : 10 ^ 18 ≤ 10 ^ (nDigits (Pl.decOf a).1 - 1) := Nat.pow_le_pow_right (by decide) (by omega)
      have e : (10 : Nat) ^ 18 = 1000000000000000000 := rfl
      omega
    · exact h
  -- names
  have hdpt : Pl.dpt a = nDigits (Pl.decOf a).1 + (Pl.decOf a).2 := rfl
  have hdig : Pl.digs a = Pl.sig (Pl.decOf a).1 := rfl
  rw [← hdig] at s1 s2
  obtain ⟨D, hD⟩ : ∃ D, (Pl.decOf a).1 = D := ⟨_, rfl⟩
  obtain ⟨k, hk⟩ : ∃ k, (Pl.decOf a).2 = k := ⟨_, rfl⟩
  obtain ⟨L, hL⟩ : ∃ L, Pl.digs a = L := ⟨_, rfl⟩
  obtain ⟨N, hN⟩ : ∃ N, nDigits D = N := ⟨_, rfl⟩
  have hdk : Pl.decOf a = (D, k) := by rw [← hD, ← hk]
  rw [hdk] at hr
  rw [hD] at h18 s1 s2 d1 d2 hnd hdpt
  rw [hk] at hk1 hk2 hdpt
  rw [hL] at g1 g2 g3 s1 s2
  rw [hN] at s1 s2 hnd hdpt
  have hv0 : Pl.vl L ≠ 0 := by intro e; rw [e, Nat.zero_mul] at s1; omega
  have hvD : Pl.vl L ≤ D := by
    have : Pl.vl L * 1 ≤ Pl.vl L * 10 ^ (N - L.length) := Nat.mul_le_mul_left _ (Nat.pow_pos (by decide))
    omega
  have hvL := Pl.vl_lt L g1
  -- the value of shifted digits
  have hval : ∀ (j : Nat) (q : Int), q = Pl.dpt a - L.length - j → Pl.rnd Fl.E74 (Pl.vl L * 10 ^ j, q) = a % 9223372036854775808 := by
    intro j q hq
    have e1 := Pl.rnd_shift Fl.E74 (Pl.vl L) (k + ((N - L.length : Nat) : Int)) j
    have e2 := Pl.rnd_shift Fl.E74 (Pl.vl L) (k + ((N - L.length : Nat) : Int)) (N - L.length)
    rw [s1, show k + ((N - L.length : Nat) : Int) - ((N - L.length : Nat) : Int) = k by omega] at e2
    rw [hq, hdpt, show (N : Int) + k - (L.length : Int) - (j : Int) = k + ((N - L.length : Nat) : Int) - (j : Int) by omega, e1, ← e2]
    exact hr
  have hbig : ∀ j : Nat, j ≤ 1 → Pl.vl L * 10 ^ j < 10000000000000000000 := by
    intro j hj
    rcases Nat.le_one_iff_eq_zero_or_eq_one.1 hj with rfl | rfl
    · rw [Nat.pow_zero]; omega
    · rw [Nat.pow_one]; omega
  have hrel : ∀ j : Nat, ∃ x y : Nat, Pl.vl L * 10 ^ j * 10 ^ x = (Pl.decOf a).1 * 10 ^ y := fun j => ⟨N - L.length, j, by rw [hD, ← s1]; ac_rfl⟩
  have hpos : ∀ j : Nat, Pl.vl L * 10 ^ j ≠ 0 := fun j e => by
    rcases Nat.mul_eq_zero.1 e with h | h
    · exact hv0 h
    · exact absurd h (Nat.pos_iff_ne_zero.1 (Nat.pow_pos (by decide)))
  have hshow : Pl.showN a = (if decide (9223372036854775808 ≤ a) = true then [45] else []) ++ Pl.written L (Pl.dpt a - 1) := by
    unfold Pl.showN
    rw [hL]
    by_cases h : 9223372036854775808 ≤ a
    · rw [if_pos h, if_pos (decide_eq_true h)]
    · rw [if_neg h, if_neg (by simpa using h)]
  generalize decide (9223372036854775808 ≤ a) = neg at hshow ⊢
  rcases Pl.written_parts g1 g2 g3 (Pl.dpt a - 1) (by omega) with ⟨hc, X, Y, j, P, hj, hw⟩ | ⟨hc, X, Y, j, P, hj, hw⟩
  · have hPq := P.q
    have hPl := P.len
    have hx1 := List.length_pos_iff.2 P.y0
    rcases Int.lt_or_le (Pl.dpt a - 1) 0 with hneg | hpos'
    · obtain ⟨ED, hED⟩ : ∃ ED, decDigits (Pl.dpt a - 1).natAbs = ED := ⟨_, rfl⟩
      have hit : Lib.itoa (Pl.dpt a - 1) = 45 :: ED := by unfold Lib.itoa; rw [if_pos hneg, hED]
      have her : Pl.erun ED = (Pl.dpt a - 1).natAbs := by rw [← hED]; exact Pl.erun_dec (by omega)
      have hdl : ED.length ≤ 20 := by rw [← hED, decDigits_length]; exact nDigits_le (by omega) (by omega)
      have hd0 : ED ≠ [] := by rw [← hED]; exact dec_ne _
      have hdd : ∀ c ∈ ED, Pl.digit c := by rw [← hED]; exact Pl.dec_digit _
      clear hED
      have hex : (Txt.exp ⟨neg, X, Y, some (true, ED)⟩) = Pl.dpt a - 1 := by
        show -((Pl.erun ED : Nat) : Int) = _
        rw [her]; omega
      have htxt : Pl.showN a = Txt.text ⟨neg, X, Y, some (true, ED)⟩ := by
        rw [hshow, hw, hit]
        simp [Txt.text, Txt.body, Txt.tail]
      have hpw : Txt.pow ⟨neg, X, Y, some (true, ED)⟩ = Pl.dpt a - 1 - Y.length := by unfold Txt.pow; rw [hex]
      have hnum : Txt.num ⟨neg, X, Y, some (true, ED)⟩ = Pl.vl L * 10 ^ j := P.v
      have hlen : (Txt.text ⟨neg, X, Y, some (true, ED)⟩).length ≤ 400 := by
        simp only [Txt.text, Txt.body, Txt.tail, List.length_append, List.length_cons]
        have : (if neg = true then [45] else ([] : List UInt8)).length ≤ 1 := by cases neg <;> simp
        omega
      refine ⟨_, ⟨P.x0, P.y0, P.xd, P.yd, ?_, hlen⟩, htxt, rfl, by rw [hnum]; exact hpos j, by rw [hnum]; exact hbig j hj, by rw [hpw]; omega, by rw [hpw]; omega, by rw [hnum, hpw]; exact hval j _ (by omega), by rw [hnum]; exact hrel j⟩
      intro s D2 e
      simp only [Option.some.injEq, Prod.mk.injEq] at e
      obtain ⟨_, rfl⟩ := e
      exact ⟨hd0, hdd⟩
    · obtain ⟨ED, hED⟩ : ∃ ED, decDigits (Pl.dpt a - 1).toNat = ED := ⟨_, rfl⟩
      have hit : Lib.itoa (Pl.dpt a - 1) = ED := by unfold Lib.itoa; rw [if_neg (by omega), hED]
      have her : Pl.erun ED = (Pl.dpt a - 1).toNat := by rw [← hED]; exact Pl.erun_dec (by omega)
      have hdl : ED.length ≤ 20 := by rw [← hED, decDigits_length]; exact nDigits_le (by omega) (by omega)
      have hd0 : ED ≠ [] := by rw [← hED]; exact dec_ne _
      have hdd : ∀ c ∈ ED, Pl.digit c := by rw [← hED]; exact Pl.dec_digit _
      clear hED
      have hex : (Txt.exp ⟨neg, X, Y, some (false, ED)⟩) = Pl.dpt a - 1 := by
        show ((Pl.erun ED : Nat) : Int) = _
        rw [her]; omega
      have htxt : Pl.showN a = Txt.text ⟨neg, X, Y, some (false, ED)⟩ := by
        rw [hshow, hw, hit]
        simp [Txt.text, Txt.body, Txt.tail]
      have hpw : Txt.pow ⟨neg, X, Y, some (false, ED)⟩ = Pl.dpt a - 1 - Y.length := by unfold Txt.pow; rw [hex]
      have hnum : Txt.num ⟨neg, X, Y, some (false, ED)⟩ = Pl.vl L * 10 ^ j := P.v
      have hlen : (Txt.text ⟨neg, X, Y, some (false, ED)⟩).length ≤ 400 := by
        simp only [Txt.text, Txt.body, Txt.tail, List.length_append, List.length_cons]
        have : (if neg = true then [45] else ([] : List UInt8)).length ≤ 1 := by cases neg <;> simp
        omega
      refine ⟨_, ⟨P.x0, P.y0, P.xd, P.yd, ?_, hlen⟩, htxt, rfl, by rw [hnum]; exact hpos j, by rw [hnum]; exact hbig j hj, by rw [hpw]; omega, by rw [hpw]; omega, by rw [hnum, hpw]; exact hval j _ (by omega), by rw [hnum]; exact hrel j⟩
      intro s D2 e
      simp only [Option.some.injEq, Prod.mk.injEq] at e
      obtain ⟨_, rfl⟩ := e
      exact ⟨hd0, hdd⟩
  · have hPq := P.q
    have hPl := P.len
    have htxt : Pl.showN a = Txt.text ⟨neg, X, Y, none⟩ := by
      rw [hshow, hw]
      simp [Txt.text, Txt.body, Txt.tail]
    have hpw : Txt.pow ⟨neg, X, Y, none⟩ = 0 - Y.length := rfl
    have hnum : Txt.num ⟨neg, X, Y, none⟩ = Pl.vl L * 10 ^ j := P.v
    have hb2 : Pl.vl L * 10 ^ j < 10000000000000000000 := by
      rcases hj with hj | ⟨_, hj⟩
      · exact hbig j hj
      · have h1 : Pl.vl L * 10 ^ j ≤ 10 ^ L.length * 10 ^ j := Nat.mul_le_mul_right _ (Nat.le_of_lt hvL)
        rw [← Nat.pow_add] at h1
        have h2 : 10 ^ (L.length + j) ≤ 10 ^ 17 := Nat.pow_le_pow_right (by decide) hj
        have e : (10 : Nat) ^ 17 = 100000000000000000 := rfl
        omega
    have hlen : (Txt.text ⟨neg, X, Y, none⟩).length ≤ 400 := by
      simp only [Txt.text, Txt.body, Txt.tail, List.length_append, List.length_cons, List.length_nil]
      have : (if neg = true then [45] else ([] : List UInt8)).length ≤ 1 := by cases neg <;> simp
      omega
    exact ⟨_, ⟨P.x0, P.y0, P.xd, P.yd, (fun s D2 e => by cases e), hlen⟩, htxt, rfl, by rw [hnum]; exact hpos j, by rw [hnum]; exact hb2, by rw [hpw]; omega, by rw [hpw]; omega, by rw [hnum, hpw]; exact hval j _ (by omega), by rw [hnum]; exact hrel j⟩
/-- T2: what is written is read as itself -/
theorem read_show (a : Nat) (w : World) (ha : a < 18446744073709551616) (hf : a % 9223372036854775808 < 9218868437227405312) (hz : a % 9223372036854775808 ≠ 0) (he : Env w) :
    Calls Tryz.prog 123 #[.string (bs (Pl.showN a))] w fun e w' => e = .returned (.tuple #[.int .u64 a, .int .i64 0]) ∧ Below w.heap.size w w' := by
  obtain ⟨t, hok, et, hneg, h0, h19, hp1, hp2, hr, _⟩ := show_txt (by omega) hz
  rw [et]
  refine (read_in (R := fun r => r = Fl.D.word t.neg (Pl.rnd Fl.E74 (t.num, t.pow))) (E := False) t.text w (by have := hok.len; omega) (txt_formed hok) he
    (fun w he => atof_in (bs t.text) t.text.length t.num t.pow t.neg w (txt_special hok) (txt_short hok h0 h19) h0 (by omega) hp1 hp2 (by rw [hr]; exact hf) he)).mono ?_
  rintro e w' ⟨⟨r, rfl, rfl⟩ | ⟨hE, _⟩, hB⟩
  · refine ⟨?_, hB⟩
    have e1 : Fl.told (Fl.D.word t.neg (Pl.rnd Fl.E74 (t.num, t.pow))) = a := by
      unfold Pl.rnd
      rw [Fl.told_word]
      have hr' : Fl.rung (t.num * 10 ^ t.pow.toNat * 2 ^ Fl.E74) (10 ^ (-t.pow).toNat) = a % 9223372036854775808 := hr
      simp only
      rw [hr', hneg]
      have := Fl.word_of ha
      have e2 : decide (9223372036854775808 ≤ a) = (a / 9223372036854775808 % 2 == 1) := by
        rw [Bool.eq_iff_iff, decide_eq_true_iff, beq_iff_eq]; omega
      rw [e2]; exact this
    rw [e1]
  · exact hE.elim
end Go.Proofs.YtlodbibagmblkaaGreatDoor
namespace Go.Proofs.YtlodbibagmblkaaGreatDoor
open Go.RowKit Go.Lib
/-- a float that is a number -/
def FinF (r : Nat) : Prop := r < 18446744073709551616 ∧ r % 9223372036854775808 < 9218868437227405312
/-- the text of nought -/
def zeroT (neg : Bool) : Txt := ⟨neg, [48], [48], none⟩
theorem zero_ok (neg : Bool) : (zeroT neg).Ok := by
  refine ⟨by simp [zeroT], by simp [zeroT], ?_, ?_, (fun s D e => by cases e), by cases neg <;> decide⟩
  · intro c hc; simp [zeroT] at hc; subst hc; exact ⟨by decide, by decide⟩
  · intro c hc; simp [zeroT] at hc; subst hc; exact ⟨by decide, by decide⟩
theorem signbit_any (a : Nat) (ha : a < 18446744073709551616) (w : World) : Calls Tryz.prog 154 #[.float .f64 a] w fun e w' => e = .returned (.bool (decide (9223372036854775808 ≤ a))) ∧ w = w' := by
  have h1 := run_bits
  have h2 : decide (wrap64 (a : Int) < 0) = decide (9223372036854775808 ≤ a) := by
    rw [Bool.eq_iff_iff, decide_eq_true_iff, decide_eq_true_iff]
    unfold wrap64
    omega
  rw [← h2]
  clear h2
  go_enter Tryz.func154, Tryz.ntmps154
  go_wp2_with fail
  go_ret
  exact ⟨rfl, rfl⟩
set_option maxHeartbeats 2000000 in
theorem show_zero (neg : Bool) (w : World) :
    Calls Tryz.prog 108 #[.int .u64 (Pl.sgb neg : Nat)] w fun e w' => e = .returned (.string (bs (zeroT neg).text)) ∧ w = w' := by
  have key : ∀ a : Nat, a < 18446744073709551616 → decide (a = 9218868437227405312) = false → decide (a = 18442240474082181120) = false → FloatKind.f64.format.order a a = some .eq → FloatKind.f64.format.order a 0 = some .eq → ∀ s : ByteArray, (∀ w : World, Calls Tryz.prog 154 #[.float .f64 a] w fun e w' => e = .returned (.bool (decide (9223372036854775808 ≤ a))) ∧ w = w') →
      (decide (9223372036854775808 ≤ a) = false ∧ s = ⟨#[48, 46, 48]⟩ ∨ decide (9223372036854775808 ≤ a) = true ∧ s = ⟨#[45, 48, 46, 48]⟩) → Calls Tryz.prog 108 #[.int .u64 a] w fun e w' => e = .returned (.string s) ∧ w = w' := by
    intro a ha i1 i2 ho hz s HS hs
    have HI1 := Lib.hid (fun w => isInf1_any a ha w)
    have HI2 := Lib.hid (fun w => isInfn_any a ha w)
    rw [i1] at HI1
    rw [i2] at HI2
    have HSB := Lib.hid HS
    clear i1 i2 HS
    generalize decide (9223372036854775808 ≤ a) = b at hs HSB
    rcases hs with ⟨rfl, rfl⟩ | ⟨rfl, rfl⟩
    all_goals
      go_enter Tryz.func108, Tryz.ntmps108
      go_wp2_with fail
      refine (of_any _ _).mono ?_
      rintro e w' ⟨rfl, rfl⟩
      go_wp2_with fail
      refine (HI1.out _).mono ?_
      rintro e w' ⟨rfl, rfl⟩
      go_wp2_with fail
      refine (HI2.out _).mono ?_
      rintro e w' ⟨rfl, rfl⟩
      go_wp2_with (refine (HSB.out _).mono ?_; rintro e w' ⟨rfl, rfl⟩)
      go_ret
      exact ⟨rfl, rfl⟩
  cases neg
  · exact key 0 (by decide) (by decide) (by decide) (by decide +kernel) (by decide +kernel) _ (fun w => signbit_any 0 (by decide) w) (.inl ⟨by decide, rfl⟩)
  · exact key 9223372036854775808 (by decide) (by decide) (by decide) (by decide +kernel) (by decide +kernel) _ (fun w => signbit_any 9223372036854775808 (by decide) w) (.inr ⟨by decide, rfl⟩)
set_option maxRecDepth 100000 in
set_option maxHeartbeats 2000000 in
theorem atof_nought (s : ByteArray) (n : Nat) (p : Int) (neg tr : Bool) (w : World) (hs : IsSpecial s) (hr : ReadsAs s 0 p neg tr n) (he : Env w) : AtofIn (fun r => r = Pl.sgb neg) False s n w := by
  have h1 := he.opt
  have h2 := run_sfb
  clear he
  unfold AtofIn
  obtain ⟨sg, hsg, hsgv⟩ : ∃ sg : Nat, Pl.sgb neg = sg ∧ (neg = false ∧ sg = 0 ∨ neg = true ∧ sg = 9223372036854775808) := ⟨_, rfl, by cases neg <;> simp [Pl.sgb]⟩
  have b2 : bits .or .u64 9223372036854775808 0 = 9223372036854775808 := by decide
  have b3 : bits .or .u64 0 0 = 0 := by decide
  rw [hsg]
  clear hsg
  rcases hsgv with ⟨rfl, rfl⟩ | ⟨rfl, rfl⟩
  all_goals
    go_enter Tryz.func253, Tryz.ntmps253
    go_wp2_with fail
    refine (hs _).mono ?_
    rintro e w' ⟨rfl, rfl⟩
    go_wp2_with fail
    refine (hr _).mono ?_
    rintro e w' ⟨rfl, rfl⟩
    go_wp2_with fail
    refine (bool2u_any _ _).mono ?_
    rintro e w' ⟨rfl, rfl⟩
    go_wp2_with fail
    go_ret3
    exact ⟨⟨_, .inl ⟨rfl, rfl⟩⟩, Below.refl _ _⟩
end Go.Proofs.YtlodbibagmblkaaGreatDoor
namespace Go.Proofs.YtlodbibagmblkaaGreatDoor
open Go.RowKit
structure Dm where
  d : Nat → Nat
  nd : Nat
  dp : Int
  ng : Bool
  tr : Bool
structure Has (w : World) (P : Nat) (D : Dm) : Prop where
  size : P < w.heap.size
  dig : ∀ i, i < 800 → w.cell? ⟨P, i, none⟩ = some (.int .u8 (D.d i : Nat))
  nd : w.cell? ⟨P, 800, none⟩ = some (.int .i64 (D.nd : Nat))
  dp : w.cell? ⟨P, 801, none⟩ = some (.int .i64 D.dp)
  ng : w.cell? ⟨P, 802, none⟩ = some (.bool D.ng)
  tr : w.cell? ⟨P, 803, none⟩ = some (.bool D.tr)
  free : ∀ i, w.frozen? ⟨P, i, none⟩ = false
theorem off_ne {P i j : Nat} (h : i ≠ j) : (⟨P, i, none⟩ : Addr) ≠ ⟨P, j, none⟩ := by intro e; injection e with _ e; exact h e
def Dm.put (D : Dm) (i x : Nat) : Dm := { D with d := fun j => if j = i then x else D.d j }
theorem Has.put {w : World} {P : Nat} {D : Dm} (h : Has w P D) (i x : Nat) (hi : i < 800) : Has (w.setCell ⟨P, i, none⟩ (.int .u8 (x : Nat))) P (D.put i x) := by
  refine ⟨by rw [World.size_setCell]; exact h.size, fun j hj => ?_, ?_, ?_, ?_, ?_, fun j => by rw [World.frozen?_setCell]; exact h.free j⟩
  · by_cases e : j = i
    · subst e
      rw [World.cell?_setCell_same _ _ _ (h.dig j hj)]; simp [Dm.put]
    · rw [World.cell?_setCell_other _ _ _ _ (off_ne (fun e2 => e e2.symm)), h.dig j hj]; simp [Dm.put, e]
  · rw [World.cell?_setCell_other _ _ _ _ (off_ne (by omega))]; exact h.nd
  · rw [World.cell?_setCell_other _ _ _ _ (off_ne (by omega))]; exact h.dp
  · rw [World.cell?_setCell_other _ _ _ _ (off_ne (by omega))]; exact h.ng
  · rw [World.cell?_setCell_other _ _ _ _ (off_ne (by omega))]; exact h.tr
/-- how many digits are left when the noughts at the end are struck -/
def tn (d : Nat → Nat) : Nat → Nat
  | 0 => 0
  | n + 1 => if d n = 48 then tn d n else n + 1
def Dm.trim (D : Dm) : Dm := { D with nd := tn D.d D.nd, dp := if tn D.d D.nd = 0 then 0 else D.dp }
theorem Has.drewN {w : World} {P : Nat} {D : Dm} (h : Has w P D) (n : Nat) : Has (w.drewN n) P D := ⟨h.size, h.dig, h.nd, h.dp, h.ng, h.tr, h.free⟩
theorem Has.drew {w : World} {P : Nat} {D : Dm} (h : Has w P D) : Has w.drew P D := ⟨h.size, h.dig, h.nd, h.dp, h.ng, h.tr, h.free⟩
end Go.Proofs.YtlodbibagmblkaaGreatDoor
namespace Go.Proofs.YtlodbibagmblkaaGreatDoor
open Go.RowKit
namespace Pl
/-- the decimal's digits are those of N -/
structure DIs (D : Dm) (N : Nat) : Prop where
  le : D.nd ≤ 800
  pos : 0 < D.nd
  dig : ∀ i, i < D.nd → D.d i = N / 10 ^ (D.nd - 1 - i) % 10 + 48
  lo : 10 ^ (D.nd - 1) ≤ N
  hi : N < 10 ^ D.nd
def snum : List UInt8 → Nat
  | [] => 0
  | c :: t => (c.toNat - 48) * 10 ^ t.length + snum t
def preLess (d : Nat → Nat) (nd : Nat) : Nat → List UInt8 → Bool
  | _, [] => false
  | i, c :: t => if nd ≤ i then true else if d i = c.toNat then preLess d nd (i + 1) t else decide (d i < c.toNat)
/-- digits alone, and more than nought in each end piece -/
def Cut : List UInt8 → Prop
  | [] => True
  | c :: t => 48 ≤ c.toNat ∧ c.toNat ≤ 57 ∧ 0 < snum (c :: t) ∧ Cut t
instance : ∀ l, Decidable (Cut l)
  | [] => isTrue trivial
  | c :: t => have := instDecidableCut t; (inferInstanceAs (Decidable (48 ≤ c.toNat ∧ c.toNat ≤ 57 ∧ 0 < snum (c :: t) ∧ Cut t)))
/-- how many digits more -/
def more (D : Dm) (x : Nat × List UInt8) : Nat := if preLess D.d D.nd 0 x.2 = true then x.1 - 1 else x.1
end Pl
end Go.Proofs.YtlodbibagmblkaaGreatDoor
namespace Go.Proofs.YtlodbibagmblkaaGreatDoor
open Go.RowKit
end Go.Proofs.YtlodbibagmblkaaGreatDoor
namespace Go.Proofs.YtlodbibagmblkaaGreatDoor
open Go.RowKit
namespace Pl
/-- the digit at place i of a number of T digits -/
def dgt (M T i : Nat) : Nat := M / 10 ^ (T - 1 - i) % 10 + 48
/-- the decimal in the midst of a left shift: from place lo on the new digits, ahead of it the old ones -/
def Dm.mid (D : Dm) (M T lo : Nat) (t : Bool) : Dm := { D with d := fun i => if lo ≤ i ∧ i < T then dgt M T i else D.d i, tr := t }
end Pl
end Go.Proofs.YtlodbibagmblkaaGreatDoor
namespace Go.Proofs.YtlodbibagmblkaaGreatDoor
open Go.RowKit
structure Tbs (w : World) (P : Nat) : Prop where
  lt : 16 < P
  info : w.cell? ⟨10, 0, none⟩ = some (.int .u64 52)
  info1 : w.cell? ⟨10, 1, none⟩ = some (.int .u64 11)
  info2 : w.cell? ⟨10, 2, none⟩ = some (.int .i64 (-1023))
  ptab : ∃ (a : Addr) (cap : Nat), w.cell? ⟨14, 0, none⟩ = some (.slice (some a) 9 cap) ∧ a.block < P ∧ ∀ (i : Nat) (x : Nat), Pl.ptab[i]? = some x → w.cell? (a.add i) = some (.int .i64 (x : Nat))
  lch : ∃ (a : Addr) (cap : Nat), w.cell? ⟨12, 0, none⟩ = some (.slice (some a) 61 cap) ∧ a.block < P ∧ ∀ (i : Nat) (x : Nat × List UInt8), Go.Pinned.cheatRows[i]? = some x → w.cell? (a.add (2 * i)) = some (.int .i64 (x.1 : Nat)) ∧ w.cell? (a.add (2 * i + 1)) = some (.string ⟨x.2.toArray⟩)
theorem Tbs.below {w w' : World} {P : Nat} (h : Tbs w P) (hb : Below P w w') : Tbs w' P := by
  have hs := h.lt
  have hc : ∀ g o, g < 17 → w'.cell? ⟨g, o, none⟩ = w.cell? ⟨g, o, none⟩ := fun g o hg => hb.cell (p := ⟨g, o, none⟩) (by show g < _; omega)
  refine ⟨hs, ?_, ?_, ?_, ?_, ?_⟩
  · rw [hc _ _ (by omega)]; exact h.info
  · rw [hc _ _ (by omega)]; exact h.info1
  · rw [hc _ _ (by omega)]; exact h.info2
  · obtain ⟨a, cap, h1, h2, h3⟩ := h.ptab
    exact ⟨a, cap, by rw [hc _ _ (by omega)]; exact h1, h2, fun i x hx => by rw [hb.cell (by rw [add_block]; exact h2)]; exact h3 i x hx⟩
  · obtain ⟨a, cap, h1, h2, h3⟩ := h.lch
    exact ⟨a, cap, by rw [hc _ _ (by omega)]; exact h1, h2, fun i x hx => ⟨by rw [hb.cell (by rw [add_block]; exact h2)]; exact (h3 i x hx).1, by rw [hb.cell (by rw [add_block]; exact h2)]; exact (h3 i x hx).2⟩⟩
end Go.Proofs.YtlodbibagmblkaaGreatDoor
namespace Go.Proofs.YtlodbibagmblkaaGreatDoor
open Go.RowKit Go.Lib
end Go.Proofs.YtlodbibagmblkaaGreatDoor
namespace Go.Proofs.YtlodbibagmblkaaGreatDoor
open Go.RowKit Go.Lib
theorem AtofIn.mono {R R' : Nat → Prop} {E E' : Prop} {s : ByteArray} {n : Nat} {w : World} (h : AtofIn R E s n w) (hR : ∀ r, R r → R' r) (hE : E → E') : AtofIn R' E' s n w := by
  refine Calls.mono h ?_
  rintro e w' ⟨⟨r, ⟨h1, h2⟩ | ⟨h1, h2⟩⟩, hB⟩
  · exact ⟨⟨r, .inl ⟨hR r h1, h2⟩⟩, hB⟩
  · exact ⟨⟨r, .inr ⟨hE h1, h2⟩⟩, hB⟩
end Go.Proofs.YtlodbibagmblkaaGreatDoor
namespace Go.Proofs.YtlodbibagmblkaaGreatDoor
open Go.RowKit Go.Lib
end Go.Proofs.YtlodbibagmblkaaGreatDoor
namespace Go.Proofs.YtlodbibagmblkaaGreatDoor
open Go.RowKit
namespace Pl
/-- the first q digits, noughts behind the last -/
def ap (N nd q : Nat) : Nat := N * 10 ^ q / 10 ^ nd
/-- the new digit at place i -/
def rdg (N nd k r i : Nat) : Nat := ap N nd (r + i) / 2 ^ k % 10 + 48
def Dm.cut (D : Dm) (N k r j : Nat) (t : Bool) : Dm := { D with d := fun i => if i < j then rdg N D.nd k r i else D.d i, tr := t }
end Pl
end Go.Proofs.YtlodbibagmblkaaGreatDoor
namespace Go.Proofs.YtlodbibagmblkaaGreatDoor
open Go.RowKit Go.Lib
end Go.Proofs.YtlodbibagmblkaaGreatDoor
namespace Go.Proofs.YtlodbibagmblkaaGreatDoor
open Go.RowKit Go.Lib
def Dm.up (D : Dm) (m : Nat) : Bool := if D.d m = 53 ∧ m + 1 = D.nd then (if D.tr = true then true else decide (0 < m ∧ (D.d (m - 1) - 48) % 2 ≠ 0)) else decide (53 ≤ D.d m)
end Go.Proofs.YtlodbibagmblkaaGreatDoor
namespace Go.Proofs.YtlodbibagmblkaaGreatDoor
open Go.RowKit
namespace Pl
/-- the digits read so far are those of N -/
structure Dz (D : Dm) (N : Nat) : Prop where
  dig : ∀ i, i < D.nd → D.d i = N / 10 ^ (D.nd - 1 - i) % 10 + 48
  lo : D.nd = 0 ∨ 10 ^ (D.nd - 1) ≤ N
  hi : N < 10 ^ D.nd
theorem Dz.zero {D : Dm} (h : D.nd = 0) : Dz D 0 := ⟨fun i hi => by omega, .inl h, by rw [h]; decide⟩
theorem Dz.add {D : Dm} {N c : Nat} (h : Dz D N) (h1 : 48 ≤ c) (h2 : c ≤ 57) (h0 : D.nd = 0 → c ≠ 48) : Dz { (D.put D.nd c) with nd := D.nd + 1 } (N * 10 + (c - 48)) := by
  refine ⟨fun i hi => ?_, .inr ?_, ?_⟩
  · show (if i = D.nd then c else D.d i) = (N * 10 + (c - 48)) / 10 ^ (D.nd + 1 - 1 - i) % 10 + 48
    have hi' : i < D.nd + 1 := hi
    by_cases e : i = D.nd
    · rw [if_pos e, e, Nat.add_sub_cancel, Nat.sub_self, Nat.pow_zero, Nat.div_one]; omega
    · rw [if_neg e, h.dig i (by omega), show D.nd + 1 - 1 - i = 1 + (D.nd - 1 - i) by omega, Nat.pow_add, ← Nat.div_div_eq_div_mul, Nat.pow_one, show (N * 10 + (c - 48)) / 10 = N by omega]
  · show 10 ^ (D.nd + 1 - 1) ≤ N * 10 + (c - 48)
    rw [Nat.add_sub_cancel]
    rcases h.lo with e | e
    · have := h0 e; rw [e]; show 1 ≤ _; omega
    · have hp : 0 < D.nd ∨ D.nd = 0 := by omega
      rcases hp with hp | hp
      · have e2 : (10 : Nat) ^ D.nd = 10 ^ (D.nd - 1) * 10 := by rw [← Nat.pow_succ]; congr 1; omega
        rw [e2]; omega
      · have := h0 hp; rw [hp]; show 1 ≤ _; omega
  · show N * 10 + (c - 48) < 10 ^ (D.nd + 1)
    have := h.hi
    rw [Nat.pow_succ]; omega
theorem Dz.is {D : Dm} {N : Nat} (h : Dz D N) (h1 : 0 < D.nd) (h2 : D.nd ≤ 800) : DIs D N := ⟨h2, h1, h.dig, by rcases h.lo with e | e <;> omega, h.hi⟩
end Pl
end Go.Proofs.YtlodbibagmblkaaGreatDoor
namespace Go.Proofs.YtlodbibagmblkaaGreatDoor
open Go.RowKit Go.Lib
namespace Pl
end Pl
end Go.Proofs.YtlodbibagmblkaaGreatDoor
