/- atof64 at a text whose digits are cut, given the slow road. (Printed by gen_slo.py.) Read of any text, given the slow road: a number, or an error. Fixed floats: a text that is none, one too far, a float cut. The contract of works. leftShift, walked. A right shift's plain law. -/
import Derived.Test.YtpilniljhmkedaaGreatDoorRaaq
import Derived.Test.YtpilniljhmkedaaGreatDoorRaam
import Derived.Test.YtpilniljhmkedaaGreatDoorRaak
import Derived.Laws.StructEq
import Derived.Deep.RegionHeld3
import Derived.Deep.CutRange
namespace Go.Proofs.YtpilniljhmkedaaGreatDoor
open Go.RowKit Go.Lib
/-- the slow road of a text: a float, or too great a number -/
def SlowC (s : ByteArray) : Prop := ∀ (w : World) (P : Nat), Tbs w P → w.heap[P]? = some (.cells Tryz.zeroCells143 143 (0, 0)) →
  Calls Tryz.prog 137 #[.pointer (some ⟨P, 0, none⟩), .string s] w fun e w1 => e = .returned (.bool true) ∧ Below P w w1 ∧
    Calls Tryz.prog 138 #[.pointer (some ⟨P, 0, none⟩), .pointer (some ⟨8, 0, none⟩)] w1 fun e w2 => ∃ (b : Nat) (o : Bool), e = .returned (.tuple #[.int .u64 b, .bool o]) ∧ b < 18446744073709551616 ∧ (o = false → b % 9223372036854775808 < 9218868437227405312) ∧ Below P w1 w2
/-- what parseFloat64 answers, told apart -/
def ParsesAs (d : Nat) (p sg : Int) (v : Nat) (ev : Value) : Prop := ∀ W : World, Env W → Calls Tryz.prog 142 #[.int .u64 d, .int .i64 p, .int .u64 sg] W fun e w' => e = .returned (.tuple #[.float .f64 v, ev]) ∧ Below W.heap.size W w'
theorem parses_of (d : Nat) (p : Int) (neg : Bool) (hd0 : d ≠ 0) (hd : d < 18446744073709551616) (hp1 : -345 ≤ p) (hp2 : p ≤ 310) : ∃ v ev, ParsesAs d p (Pl.sgb neg : Nat) v ev ∧ Fl.isNan v = false ∧ ((ev = .nilIface ∧ FinF v) ∨ ev = .iface 95 (.int .i64 1)) := by
  have f1 := floatV_is neg (d := d) (p := p) hd0 hd hp1 hp2
  have q1 : Pl.rnd Fl.E74 (d, p) ≤ 9218868437227405312 := Fl.rung_le _ _
  refine ⟨Fl.D.word neg (Pl.rnd Fl.E74 (d, p)), if Pl.rnd Fl.E74 (d, p) = 9218868437227405312 then .iface 95 (.int .i64 1) else .nilIface, fun W he => ?_, Fl.word_not_nan neg q1, ?_⟩
  · have := parsef_any d p neg W hd0 hd hp1 hp2 he.tab (by have := he.size; omega)
    rw [f1] at this
    exact this
  · by_cases h : Pl.rnd Fl.E74 (d, p) = 9218868437227405312
    · right; rw [if_pos h]
    · left
      rw [if_neg h]
      refine ⟨rfl, (Fl.word_mod neg (by omega)).2.2, ?_⟩
      rw [(Fl.word_mod neg (by omega)).1]
      omega
set_option maxRecDepth 100000 in
set_option maxHeartbeats 4000000 in
theorem atof_cut_pos_eq (s : ByteArray) (n d : Nat) (p : Int) (w : World) (hs : IsSpecial s) (hr : ReadsAs s d p false true n) (hd0 : d ≠ 0) (hd : d < 10000000000000000000) (hp1 : -345 ≤ p) (hp2 : p ≤ 310) (v1 v2 : Nat) (e1 e2 : Value)
    (HP : ParsesAs d p 0 v1 e1) (HP2 : ParsesAs (d + 1 : Nat) p 0 v2 e2) (ho : (FloatKind.f64.format.order v1 v2 == some .eq) = true) (he : Env w) :
    Calls Tryz.prog 100 #[.string s] w fun e w' => e = .returned (.tuple #[.float .f64 v1, .int .i64 n, e1]) ∧ Below w.heap.size w w' := by
  have h1 := he.opt
  have h2 := run_sfb
  have b1 : ((d : Int) == 0) = false := by rw [beq_eq_false_iff_ne]; omega
  have HPH := Lib.hid HP
  have HPG := Lib.hid HP2
  have HE := Lib.hid he
  have hd1 : d + 1 < 18446744073709551616 := by omega
  clear HP HP2 he
  go_enter Tryz.func100, Tryz.ntmps100
  go_wp2_with fail
  refine (hs _).mono ?_
  rintro e w' ⟨rfl, rfl⟩
  go_wp2_with fail
  refine (hr _).mono ?_
  rintro e w' ⟨rfl, rfl⟩
  go_wp2_with fail
  refine (bool2u_any _ _).mono ?_
  rintro e w' ⟨rfl, rfl⟩
  go_wp2_with fail
  refine (HPH.out _ HE.out).mono ?_
  rintro e w2 ⟨rfl, hb2⟩
  have HB2 := Lib.hid hb2
  have HE2 := Lib.hid (HE.out.below hb2)
  clear hb2
  go_wp2_with fail
  refine (HPG.out _ HE2.out).mono ?_
  rintro e w3 ⟨rfl, hb3⟩
  have HB3 := Lib.hid (HB2.out.trans (hb3.mono HB2.out.size))
  have HE3 := Lib.hid (HE2.out.below hb3)
  clear hb3
  go_wp2_with fail
  go_ret3
  exact ⟨rfl, HB3.out⟩
set_option maxRecDepth 100000 in
set_option maxHeartbeats 4000000 in
theorem atof_cut_neg_eq (s : ByteArray) (n d : Nat) (p : Int) (w : World) (hs : IsSpecial s) (hr : ReadsAs s d p true true n) (hd0 : d ≠ 0) (hd : d < 10000000000000000000) (hp1 : -345 ≤ p) (hp2 : p ≤ 310) (v1 v2 : Nat) (e1 e2 : Value)
    (HP : ParsesAs d p 9223372036854775808 v1 e1) (HP2 : ParsesAs (d + 1 : Nat) p 9223372036854775808 v2 e2) (ho : (FloatKind.f64.format.order v1 v2 == some .eq) = true) (he : Env w) :
    Calls Tryz.prog 100 #[.string s] w fun e w' => e = .returned (.tuple #[.float .f64 v1, .int .i64 n, e1]) ∧ Below w.heap.size w w' := by
  have h1 := he.opt
  have h2 := run_sfb
  have b1 : ((d : Int) == 0) = false := by rw [beq_eq_false_iff_ne]; omega
  have HPH := Lib.hid HP
  have HPG := Lib.hid HP2
  have HE := Lib.hid he
  have hd1 : d + 1 < 18446744073709551616 := by omega
  clear HP HP2 he
  go_enter Tryz.func100, Tryz.ntmps100
  go_wp2_with fail
  refine (hs _).mono ?_
  rintro e w' ⟨rfl, rfl⟩
  go_wp2_with fail
  refine (hr _).mono ?_
  rintro e w' ⟨rfl, rfl⟩
  go_wp2_with fail
  refine (bool2u_any _ _).mono ?_
  rintro e w' ⟨rfl, rfl⟩
  go_wp2_with fail
  refine (HPH.out _ HE.out).mono ?_
  rintro e w2 ⟨rfl, hb2⟩
  have HB2 := Lib.hid hb2
  have HE2 := Lib.hid (HE.out.below hb2)
  clear hb2
  go_wp2_with fail
  refine (HPG.out _ HE2.out).mono ?_
  rintro e w3 ⟨rfl, hb3⟩
  have HB3 := Lib.hid (HB2.out.trans (hb3.mono HB2.out.size))
  have HE3 := Lib.hid (HE2.out.below hb3)
  clear hb3
  go_wp2_with fail
  go_ret3
  exact ⟨rfl, HB3.out⟩
set_option maxRecDepth 100000 in
set_option maxHeartbeats 4000000 in
theorem atof_cut_pos_ne (s : ByteArray) (n d : Nat) (p : Int) (w : World) (hs : IsSpecial s) (hr : ReadsAs s d p false true n) (hd0 : d ≠ 0) (hd : d < 10000000000000000000) (hp1 : -345 ≤ p) (hp2 : p ≤ 310) (v1 v2 : Nat) (e1 e2 : Value)
    (HP : ParsesAs d p 0 v1 e1) (HP2 : ParsesAs (d + 1 : Nat) p 0 v2 e2) (ho : (FloatKind.f64.format.order v1 v2 == some .eq) = false) (hn : s.size = n) (hsz : s.size ≤ 100000) (hS : SlowC s) (he : Env w) :
    Calls Tryz.prog 100 #[.string s] w fun e w' => (∃ r, (FinF r ∧ e = .returned (.tuple #[.float .f64 r, .int .i64 n, .nilIface])) ∨ True ∧ e = .returned (.tuple #[.float .f64 r, .int .i64 n, .iface 95 (.int .i64 1)])) ∧ Below w.heap.size w w' := by
  have h1 := he.opt
  have h2 := run_sfb
  have b1 : ((d : Int) == 0) = false := by rw [beq_eq_false_iff_ne]; omega
  have HPH := Lib.hid HP
  have HPG := Lib.hid HP2
  have HE := Lib.hid he
  have hd1 : d + 1 < 18446744073709551616 := by omega
  clear HP HP2 he
  have HSL := Lib.hid hS
  have hss : s.extract 0 n = s := by rw [← hn]; simp
  have hnn : n ≤ s.size := by omega
  clear hS
  go_enter Tryz.func100, Tryz.ntmps100
  go_wp2_with fail
  refine (hs _).mono ?_
  rintro e w' ⟨rfl, rfl⟩
  go_wp2_with fail
  refine (hr _).mono ?_
  rintro e w' ⟨rfl, rfl⟩
  go_wp2_with fail
  refine (bool2u_any _ _).mono ?_
  rintro e w' ⟨rfl, rfl⟩
  go_wp2_with fail
  refine (HPH.out _ HE.out).mono ?_
  rintro e w2 ⟨rfl, hb2⟩
  have HB2 := Lib.hid hb2
  have HE2 := Lib.hid (HE.out.below hb2)
  clear hb2
  go_wp2_with fail
  refine (HPG.out _ HE2.out).mono ?_
  rintro e w3 ⟨rfl, hb3⟩
  have HB3 := Lib.hid (HB2.out.trans (hb3.mono HB2.out.size))
  have HE3 := Lib.hid (HE2.out.below hb3)
  clear hb3
  go_upto_region 28 with (fail)
  go_upto_region 29 with (fail)
  have hz3 : w3.heap.size < (w3.alloc (.cells Tryz.zeroCells143 143)).heap.size := by simp
  have HD := Lib.hid (heap_alloc_at w3 (.cells Tryz.zeroCells143 143))
  have HB34 := Lib.hid ((Below.refl w3.heap.size w3).alloc (Nat.le_refl _) (.cells Tryz.zeroCells143 143))
  generalize w3.alloc (.cells Tryz.zeroCells143 143) = w4 at hz3 HD HB34 ⊢
  have HSW := Lib.hid (HSL.out w4 w3.heap.size (HE3.out.tbs.below HB34.out) HD.out)
  go_wp2_with fail
  refine HSW.out.mono ?_
  rintro e w5 ⟨rfl, hb5, hfl⟩
  have HFL := Lib.hid hfl
  have HB5 := Lib.hid (HB34.out.trans hb5)
  clear hb5 hfl
  go_wp2_with fail
  refine HFL.out.mono ?_
  rintro e w6 ⟨b, o, rfl, hb64, hfin, hb6⟩
  have HFIN := Lib.hid hfin
  have HB6 := Lib.hid (HB3.out.trans ((HB5.out.trans hb6).mono HB3.out.size))
  clear hb6 hfin
  cases o
  · go_wp2_with fail
    go_ret3
    exact ⟨⟨b, .inl ⟨⟨hb64, HFIN.out (by trivial)⟩, rfl⟩⟩, HB6.out⟩
  · go_wp2_with fail
    go_ret3
    exact ⟨⟨b, .inr ⟨trivial, rfl⟩⟩, HB6.out⟩
set_option maxRecDepth 100000 in
set_option maxHeartbeats 4000000 in
theorem atof_cut_neg_ne (s : ByteArray) (n d : Nat) (p : Int) (w : World) (hs : IsSpecial s) (hr : ReadsAs s d p true true n) (hd0 : d ≠ 0) (hd : d < 10000000000000000000) (hp1 : -345 ≤ p) (hp2 : p ≤ 310) (v1 v2 : Nat) (e1 e2 : Value)
    (HP : ParsesAs d p 9223372036854775808 v1 e1) (HP2 : ParsesAs (d + 1 : Nat) p 9223372036854775808 v2 e2) (ho : (FloatKind.f64.format.order v1 v2 == some .eq) = false) (hn : s.size = n) (hsz : s.size ≤ 100000) (hS : SlowC s) (he : Env w) :
    Calls Tryz.prog 100 #[.string s] w fun e w' => (∃ r, (FinF r ∧ e = .returned (.tuple #[.float .f64 r, .int .i64 n, .nilIface])) ∨ True ∧ e = .returned (.tuple #[.float .f64 r, .int .i64 n, .iface 95 (.int .i64 1)])) ∧ Below w.heap.size w w' := by
  have h1 := he.opt
  have h2 := run_sfb
  have b1 : ((d : Int) == 0) = false := by rw [beq_eq_false_iff_ne]; omega
  have HPH := Lib.hid HP
  have HPG := Lib.hid HP2
  have HE := Lib.hid he
  have hd1 : d + 1 < 18446744073709551616 := by omega
  clear HP HP2 he
  have HSL := Lib.hid hS
  have hss : s.extract 0 n = s := by rw [← hn]; simp
  have hnn : n ≤ s.size := by omega
  clear hS
  go_enter Tryz.func100, Tryz.ntmps100
  go_wp2_with fail
  refine (hs _).mono ?_
  rintro e w' ⟨rfl, rfl⟩
  go_wp2_with fail
  refine (hr _).mono ?_
  rintro e w' ⟨rfl, rfl⟩
  go_wp2_with fail
  refine (bool2u_any _ _).mono ?_
  rintro e w' ⟨rfl, rfl⟩
  go_wp2_with fail
  refine (HPH.out _ HE.out).mono ?_
  rintro e w2 ⟨rfl, hb2⟩
  have HB2 := Lib.hid hb2
  have HE2 := Lib.hid (HE.out.below hb2)
  clear hb2
  go_wp2_with fail
  refine (HPG.out _ HE2.out).mono ?_
  rintro e w3 ⟨rfl, hb3⟩
  have HB3 := Lib.hid (HB2.out.trans (hb3.mono HB2.out.size))
  have HE3 := Lib.hid (HE2.out.below hb3)
  clear hb3
  go_upto_region 28 with (fail)
  go_upto_region 29 with (fail)
  have hz3 : w3.heap.size < (w3.alloc (.cells Tryz.zeroCells143 143)).heap.size := by simp
  have HD := Lib.hid (heap_alloc_at w3 (.cells Tryz.zeroCells143 143))
  have HB34 := Lib.hid ((Below.refl w3.heap.size w3).alloc (Nat.le_refl _) (.cells Tryz.zeroCells143 143))
  generalize w3.alloc (.cells Tryz.zeroCells143 143) = w4 at hz3 HD HB34 ⊢
  have HSW := Lib.hid (HSL.out w4 w3.heap.size (HE3.out.tbs.below HB34.out) HD.out)
  go_wp2_with fail
  refine HSW.out.mono ?_
  rintro e w5 ⟨rfl, hb5, hfl⟩
  have HFL := Lib.hid hfl
  have HB5 := Lib.hid (HB34.out.trans hb5)
  clear hb5 hfl
  go_wp2_with fail
  refine HFL.out.mono ?_
  rintro e w6 ⟨b, o, rfl, hb64, hfin, hb6⟩
  have HFIN := Lib.hid hfin
  have HB6 := Lib.hid (HB3.out.trans ((HB5.out.trans hb6).mono HB3.out.size))
  clear hb6 hfin
  cases o
  · go_wp2_with fail
    go_ret3
    exact ⟨⟨b, .inl ⟨⟨hb64, HFIN.out (by trivial)⟩, rfl⟩⟩, HB6.out⟩
  · go_wp2_with fail
    go_ret3
    exact ⟨⟨b, .inr ⟨trivial, rfl⟩⟩, HB6.out⟩
theorem atof_cut (s : ByteArray) (n d : Nat) (p : Int) (neg : Bool) (w : World) (hs : IsSpecial s) (hr : ReadsAs s d p neg true n) (hn : s.size = n) (hsz : s.size ≤ 100000) (hd0 : d ≠ 0) (hd : d < 10000000000000000000) (hp1 : -345 ≤ p) (hp2 : p ≤ 310) (hS : SlowC s) (he : Env w) :
    AtofIn FinF True s n w := by
  obtain ⟨v1, e1, HP, _, hv⟩ := parses_of d p neg hd0 (by omega) hp1 hp2
  obtain ⟨v2, e2, HP2, _, _⟩ := parses_of (d + 1) p neg (by omega) (by omega) hp1 hp2
  unfold AtofIn
  cases ho : (FloatKind.f64.format.order v1 v2 == some .eq)
  · cases neg
    · exact atof_cut_pos_ne s n d p w hs hr hd0 hd hp1 hp2 v1 v2 e1 e2 HP HP2 ho hn hsz hS he
    · exact atof_cut_neg_ne s n d p w hs hr hd0 hd hp1 hp2 v1 v2 e1 e2 HP HP2 ho hn hsz hS he
  · have key : Calls Tryz.prog 100 #[.string s] w fun e w' => e = .returned (.tuple #[.float .f64 v1, .int .i64 n, e1]) ∧ Below w.heap.size w w' := by
      cases neg
      · exact atof_cut_pos_eq s n d p w hs hr hd0 hd hp1 hp2 v1 v2 e1 e2 HP HP2 ho he
      · exact atof_cut_neg_eq s n d p w hs hr hd0 hd hp1 hp2 v1 v2 e1 e2 HP HP2 ho he
    refine key.mono ?_
    rintro e w' ⟨rfl, hB⟩
    rcases hv with ⟨rfl, hv⟩ | rfl
    · exact ⟨⟨v1, .inl ⟨hv, rfl⟩⟩, hB⟩
    · exact ⟨⟨v1, .inr ⟨trivial, rfl⟩⟩, hB⟩
end Go.Proofs.YtpilniljhmkedaaGreatDoor
namespace Go.Proofs.YtpilniljhmkedaaGreatDoor
open Go.RowKit Go.Lib
theorem AtofIn.mono {R R' : Nat → Prop} {E E' : Prop} {s : ByteArray} {n : Nat} {w : World} (h : AtofIn R E s n w) (hR : ∀ r, R r → R' r) (hE : E → E') : AtofIn R' E' s n w := by
  refine Calls.mono h ?_
  rintro e w' ⟨⟨r, ⟨h1, h2⟩ | ⟨h1, h2⟩⟩, hB⟩
  · exact ⟨⟨r, .inl ⟨hR r h1, h2⟩⟩, hB⟩
  · exact ⟨⟨r, .inr ⟨hE h1, h2⟩⟩, hB⟩
theorem atof_in2 (s : ByteArray) (n d : Nat) (p : Int) (neg : Bool) (w : World) (hs : IsSpecial s) (hr : ReadsAs s d p neg false n) (hd0 : d ≠ 0) (hd : d < 18446744073709551616) (hp1 : -345 ≤ p) (hp2 : p ≤ 310) (he : Env w) : AtofIn FinF True s n w := by
  refine (atof_any s n d p neg w hs hr hd0 hd hp1 hp2 he).mono ?_
  rintro e w' ⟨rfl, hB⟩
  have q1 : Pl.rnd Fl.E74 (d, p) ≤ 9218868437227405312 := Fl.rung_le _ _
  unfold readV
  by_cases h : Pl.rnd Fl.E74 (d, p) = 9218868437227405312
  · rw [if_pos h]
    exact ⟨⟨_, .inr ⟨trivial, rfl⟩⟩, hB⟩
  · rw [if_neg h]
    refine ⟨⟨_, .inl ⟨⟨(Fl.word_mod neg (by omega)).2.2, ?_⟩, rfl⟩⟩, hB⟩
    rw [(Fl.word_mod neg (by omega)).1]
    omega
theorem txt_atof {t : Txt} (h : t.Ok) (hS : (Pl.run t.body).m ≠ 0 → SlowC (bs t.text)) (w : World) (he : Env w) : AtofIn FinF True (bs t.text) t.text.length w := by
  have r := txt_reads h
  have hs := txt_special h
  have hl := h.len
  have hok := Pl.run_ok t.body (fun c hc => by
    rcases List.mem_append.1 hc with hc | hc
    · exact .inr (h.xd c hc)
    · rcases List.mem_cons.1 hc with hc | hc
      · exact .inl hc
      · exact .inr (h.yd c hc))
  have hm : (Pl.run t.body).m < 10000000000000000000 := Nat.lt_of_lt_of_le hok.m (Nat.pow_le_pow_right (n := 10) (by decide) hok.nm)
  obtain ⟨d, hd⟩ : ∃ d, (Pl.run t.body).m = d := ⟨_, rfl⟩
  obtain ⟨p, hp⟩ : ∃ p, Pl.expOf (Pl.run t.body) t.exp = p := ⟨_, rfl⟩
  rw [hd, hp] at r
  rw [hd] at hm
  by_cases h0 : d = 0
  · subst h0
    refine (atof_nought _ _ p t.neg (Pl.run t.body).tr w hs r he).mono ?_ (fun f => f.elim)
    rintro x rfl
    unfold FinF Pl.sgb
    cases t.neg <;> exact ⟨by decide, by decide⟩
  · by_cases he1 : 310 < p ∨ p < -345
    · exact atof_edge _ _ d p t.neg _ w hs r h0 he1 he
    · cases htr : (Pl.run t.body).tr
      · rw [htr] at r
        exact atof_in2 _ _ d p t.neg w hs r h0 (by omega) (by omega) (by omega) he
      · rw [htr] at r
        exact atof_cut _ _ d p t.neg w hs r (by rw [bs_size]) (by rw [bs_size]; omega) h0 hm (by omega) (by omega) (hS (by rw [hd]; exact h0)) he
theorem formed_long (s : ByteArray) (w : World) (h : 400 < s.size) (h2 : s.size ≤ 140737488355328) : Calls Tryz.prog 16 #[.string s] w fun e w' => e = .returned (.bool false) ∧ w = w' := by
  have h1 : (400 : Int) < (s.size : Int) := by omega
  go_enter Tryz.func16, Tryz.ntmps16
  go_wp2_with fail
  go_ret
  exact ⟨rfl, rfl⟩
/-- how Read of any text ends -/
def ReadEnd (w : World) (e : Ending) (w' : World) : Prop :=
  ((∃ x, FinF x ∧ e = .returned (.tuple #[.int .u64 x, .int .i64 0])) ∨ ∃ c : Int, (c = 100 ∨ c = 101) ∧ e = .returned (.tuple #[.int .u64 0, .int .i64 c])) ∧ Below w.heap.size w w'
theorem read_any (hS : ∀ t : Txt, t.Ok → (Pl.run t.body).m ≠ 0 → SlowC (bs t.text)) (s : ByteArray) (w : World) (h2 : s.size ≤ 140737488355328) (he : Env w) :
    Calls Tryz.prog 7 #[.string s] w (ReadEnd w) := by
  rcases Nat.lt_or_ge 400 s.size with hlong | hshort
  · have HF := Lib.hid (formed_long s w hlong h2)
    go_enter Tryz.func7, Tryz.ntmps7
    go_wp2_with fail
    refine HF.out.mono ?_
    rintro e w1 ⟨rfl, rfl⟩
    go_wp2_with fail
    go_ret2
    exact ⟨.inr ⟨100, .inl rfl, rfl⟩, Below.refl _ _⟩
  · obtain ⟨l, hl, hll⟩ : ∃ l : List UInt8, s = bs l ∧ l.length ≤ 400 := ⟨s.data.toList, by apply ByteArray.ext; unfold bs; simp, by simpa using hshort⟩
    subst hl
    cases hf : Pl.formed l
    · refine (read_no l w (by omega) hf).mono ?_
      rintro e w' ⟨rfl, hB⟩
      exact ⟨.inr ⟨100, .inl rfl, rfl⟩, hB⟩
    · obtain ⟨t, hok, rfl⟩ := formed_txt hf
      refine (read_in (R := FinF) (E := True) t.text w (by omega) hf he (fun w he => txt_atof hok (hS t hok) w he)).mono ?_
      rintro e w' ⟨⟨r, hr, rfl⟩ | ⟨_, rfl⟩, hB⟩
      · refine ⟨.inl ⟨r, hr, ?_⟩, hB⟩
        have : Fl.told r = r := by
          unfold Fl.told
          have hn : Fl.isNan r = false := by unfold Fl.isNan; rw [decide_eq_false_iff_not]; have := hr.2; omega
          rw [hn]; rfl
        rw [this]
      · exact ⟨.inr ⟨101, .inr rfl, rfl⟩, hB⟩
end Go.Proofs.YtpilniljhmkedaaGreatDoor
namespace Go.Proofs.YtpilniljhmkedaaGreatDoor
open Go.RowKit Go.Lib
theorem read_none (w : World) : Calls Tryz.prog 7 #[.string (bs [49, 101, 53])] w fun e w' => e = .returned (.tuple #[.int .u64 0, .int .i64 100]) ∧ Below w.heap.size w w' :=
  read_no [49, 101, 53] w (by decide) (by decide +kernel)
theorem read_beyond (w : World) (he : Env w) : Calls Tryz.prog 7 #[.string (bs [49, 46, 48, 101, 52, 48, 48])] w fun e w' => e = .returned (.tuple #[.int .u64 0, .int .i64 101]) ∧ Below w.heap.size w w' := by
  refine read_far [49, 46, 48, 101, 52, 48, 48] w (by decide) (by decide +kernel) he 9218868437227405312 ?_
  intro w he
  have hr : ReadsAs (bs [49, 46, 48, 101, 52, 48, 48]) 10 399 false false 7 := by
    intro w
    exact read_pos_exp (bs [49, 46, 48, 101, 52, 48, 48]) [49, 46, 48] [52, 48, 48] w (Lib.hid rfl) (by decide) (by decide) (by intro c hc; simp at hc; rcases hc with rfl | rfl | rfl <;> (unfold Pl.digit; decide)) (by intro k h h2; match k, h with | 0, _ => rfl | 1, _ => rfl | 2, _ => rfl) (by decide) rfl (mant3 (by unfold Pl.digit; decide) (by unfold Pl.digit; decide) rfl) (by decide) (by decide) (by intro k h h2; match k, h with | 0, _ => rfl | 1, _ => rfl | 2, _ => rfl) (by decide) (by decide) (by unfold Pl.digit; decide)
  exact atof_far (bs [49, 46, 48, 101, 52, 48, 48]) 7 10 399 false w (special_bs _ (by decide) (by decide) (by decide)) hr (by decide) he (by decide)
theorem frexp_two : FrexpIs 13835058055282163712 13826050856027422720 2 := by
  refine frexp_wrap _ _ _ (fun w => ?_)
  exact frexp_core 13835058055282163712 13835058055282163712 4503599627370496 1023 true 0 w (by decide) (by decide) (by decide) (fun w => norm_big 13835058055282163712 (by decide) (by decide) (by decide) w) (by decide +kernel) (by decide) (by decide) (by decide) (by decide)
theorem truncate_minus (w : World) : Calls Tryz.prog 11 #[.int .u64 13836183955189006336] w fun en w' => en = .returned (.tuple #[lof (-2), .int .i64 0]) ∧ Below w.heap.size w w' :=
  truncate_num 13836183955189006336 13835058055282163712 13826050856027422720 14064741636278059008 2 (-4503599627370496) (-2) w (by decide) (by decide) (by decide +kernel) frexp_two (by decide) (by decide +kernel) (by decide +kernel) (by decide) (by decide) (fun _ => ⟨by decide +kernel, by decide⟩) (by decide)
theorem fraction_minus (w : World) : Calls Tryz.prog 12 #[.int .u64 13836183955189006336] w fun e w' => e = .returned (.int .u64 13826050856027422720) ∧ w = w' := by
  have h := fraction_num 13836183955189006336 13826050856027422720 w (by decide) (by decide) (by decide +kernel)
  have e : (if Fl.D.order 13826050856027422720 0 = some .eq then 0 else Fl.told 13826050856027422720 : Nat) = 13826050856027422720 := by decide +kernel
  rw [e] at h
  exact h
theorem scale_down (w : World) : Calls Tryz.prog 13 #[.int .u64 4613937818241073152, .int .i64 (-1075)] w fun e w' => e = .returned (.int .u64 2) ∧ w = w' := by
  have h := scale_any 4613937818241073152 (-1075) w (by decide)
  have e : Fl.fscale 4613937818241073152 (-1075) = 2 := by decide +kernel
  rw [e] at h
  exact h
theorem exponent_most (w : World) : Calls Tryz.prog 14 #[.int .u64 4604930618986332160] w fun e w' => e = .returned (.tuple #[.int .i64 (-1), .int .i64 0]) ∧ w = w' := by
  have h := exponent_any 4604930618986332160 w (by decide)
  have e : Fl.fexp 4604930618986332160 = some (-1) := by decide +kernel
  unfold expv at h
  rw [e] at h
  exact h
theorem add_tenths (w : World) : Calls Tryz.prog 10 #[.int .u64 4591870180066957722, .int .u64 4596373779694328218] w fun e w' => e = .returned (.int .u64 4599075939470750516) ∧ Below w.heap.size w w' := by
  have h := add_any 4591870180066957722 4596373779694328218 w
  have e : Fl.fadd 4591870180066957722 4596373779694328218 = 4599075939470750516 := by decide +kernel
  rw [e] at h
  exact h
end Go.Proofs.YtpilniljhmkedaaGreatDoor
namespace Go.Proofs.YtpilniljhmkedaaGreatDoor
open Go.RowKit Go.Lib
theorem run_large_eq (a b : Bool) (s t : ByteArray) (w : World) : (binOp .eql 34 (.agg #[.bool a, .string s]) (.agg #[.bool b, .string t])).run Tryz.prog w = .ok (.bool (a == b && s.toList == t.toList)) w := by
  have u1 := Tryz.underlying4
  have a1 := Tryz.isAgg4
  have z1 := Tryz.sizeOf4
  have u2 := Tryz.underlying9
  have a2 := Tryz.isAgg9
  have z2 := Tryz.sizeOf9
  have hS : Tryz.prog.underlying 34 = some (.struct (Tryz.prog.fieldsOf 34)) := by kernel_rfl
  have hp : Tryz.prog.stoodInHeld 34 = false := by kernel_rfl
  rw [run_eql_struct, show (10000 : Nat) = 9999 + 1 from rfl, run_equalIn_agg w 9999 34 _ _ hS hp]
  simp only [Program.fieldsOf, Tryz.underlying34]
  go_simp
  by_cases h1 : a = b <;> by_cases h2 : s.toList = t.toList <;> simp [h1, h2]
theorem guard_large : Tryz.prog.eqGuardType Tryz.prog.depth 34 = false := by kernel_rfl
theorem shows_one (w : World) (he : Env w) : Calls Tryz.prog 8 #[.int .u64 4607182418800017408] w fun e w' => e = .returned (.string ⟨#[49, 46, 48]⟩) ∧ Below w.heap.size w w' := by
  have h := show_any 4607182418800017408 w (by decide) (by decide) (by decide) he
  rw [show_one] at h
  exact h
theorem shows_tiny (w : World) (he : Env w) : Calls Tryz.prog 8 #[.int .u64 1] w fun e w' => e = .returned (.string ⟨#[53, 46, 48, 101, 45, 51, 50, 52]⟩) ∧ Below w.heap.size w w' := by
  have h := show_any 1 w (by decide) (by decide) (by decide) he
  rw [show_tiny] at h
  exact h
theorem shows_most (w : World) (he : Env w) : Calls Tryz.prog 8 #[.int .u64 9218868437227405311] w fun e w' => e = .returned (.string ⟨#[49, 46, 55, 57, 55, 54, 57, 51, 49, 51, 52, 56, 54, 50, 51, 49, 53, 55, 101, 51, 48, 56]⟩) ∧ Below w.heap.size w w' := by
  have h := show_any 9218868437227405311 w (by decide) (by decide) (by decide) he
  rw [show_most] at h
  exact h
theorem shows_sum (w : World) (he : Env w) : Calls Tryz.prog 8 #[.int .u64 4599075939470750516] w fun e w' => e = .returned (.string ⟨#[48, 46, 51, 48, 48, 48, 48, 48, 48, 48, 48, 48, 48, 48, 48, 48, 48, 48, 52]⟩) ∧ Below w.heap.size w w' := by
  have h := show_any 4599075939470750516 w (by decide) (by decide) (by decide) he
  rw [show_sum] at h
  exact h
theorem shows_half (w : World) (he : Env w) : Calls Tryz.prog 8 #[.int .u64 13826050856027422720] w fun e w' => e = .returned (.string ⟨#[45, 48, 46, 53]⟩) ∧ Below w.heap.size w w' := by
  have h := show_any 13826050856027422720 w (by decide) (by decide) (by decide) he
  rw [show_half] at h
  exact h
theorem shows_two (w : World) (he : Env w) : Calls Tryz.prog 8 #[.int .u64 2] w fun e w' => e = .returned (.string ⟨#[49, 46, 48, 101, 45, 51, 50, 51]⟩) ∧ Below w.heap.size w w' := by
  have h := show_any 2 w (by decide) (by decide) (by decide) he
  rw [show_two] at h
  exact h
set_option maxHeartbeats 4000000 in
theorem works_any (w : World) (he : Env w) : Calls Tryz.prog 5 #[] w fun e w' => e = .returned (.bool true) ∧ Below w.heap.size w w' := by
  obtain ⟨N, hN⟩ : ∃ N, w.heap.size = N := ⟨_, rfl⟩
  have HB0 : Hid (Below N w w) := Lib.hid (Below.refl _ _)
  have HE0 := Lib.hid he
  have HN0 := Lib.hid (Nat.le_of_eq hN.symm)
  rw [hN]
  clear hN he
  go_enter Tryz.func5, Tryz.ntmps5
  go_wp2_with fail
  refine (shows_one _ HE0.out).mono ?_
  rintro e w1 ⟨rfl, hb⟩
  have HE1 := Lib.hid (HE0.out.below hb)
  have HB1 := Lib.hid (HB0.out.trans (hb.mono HN0.out))
  have HN1 := Lib.hid (Nat.le_trans HN0.out hb.size)
  clear hb HE0 HB0 HN0
  go_wp2_with fail
  refine (shows_tiny _ HE1.out).mono ?_
  rintro e w2 ⟨rfl, hb⟩
  have HE2 := Lib.hid (HE1.out.below hb)
  have HB2 := Lib.hid (HB1.out.trans (hb.mono HN1.out))
  have HN2 := Lib.hid (Nat.le_trans HN1.out hb.size)
  clear hb HE1 HB1 HN1
  go_wp2_with fail
  refine (shows_most _ HE2.out).mono ?_
  rintro e w3 ⟨rfl, hb⟩
  have HE3 := Lib.hid (HE2.out.below hb)
  have HB3 := Lib.hid (HB2.out.trans (hb.mono HN2.out))
  have HN3 := Lib.hid (Nat.le_trans HN2.out hb.size)
  clear hb HE2 HB2 HN2
  go_wp2_with fail
  refine (read_tenth _ HE3.out).mono ?_
  rintro e w4 ⟨rfl, hb⟩
  have HE4 := Lib.hid (HE3.out.below hb)
  have HB4 := Lib.hid (HB3.out.trans (hb.mono HN3.out))
  have HN4 := Lib.hid (Nat.le_trans HN3.out hb.size)
  clear hb HE3 HB3 HN3
  go_wp2_with fail
  refine (read_fifth _ HE4.out).mono ?_
  rintro e w5 ⟨rfl, hb⟩
  have HE5 := Lib.hid (HE4.out.below hb)
  have HB5 := Lib.hid (HB4.out.trans (hb.mono HN4.out))
  have HN5 := Lib.hid (Nat.le_trans HN4.out hb.size)
  clear hb HE4 HB4 HN4
  go_wp2_with fail
  refine (add_tenths _).mono ?_
  rintro e w6 ⟨rfl, hb⟩
  have HE6 := Lib.hid (HE5.out.below hb)
  have HB6 := Lib.hid (HB5.out.trans (hb.mono HN5.out))
  have HN6 := Lib.hid (Nat.le_trans HN5.out hb.size)
  clear hb HE5 HB5 HN5
  go_wp2_with fail
  refine (shows_sum _ HE6.out).mono ?_
  rintro e w7 ⟨rfl, hb⟩
  have HE7 := Lib.hid (HE6.out.below hb)
  have HB7 := Lib.hid (HB6.out.trans (hb.mono HN6.out))
  have HN7 := Lib.hid (Nat.le_trans HN6.out hb.size)
  clear hb HE6 HB6 HN6
  go_wp2_with fail
  refine (read_none _).mono ?_
  rintro e w8 ⟨rfl, hb⟩
  have HE8 := Lib.hid (HE7.out.below hb)
  have HB8 := Lib.hid (HB7.out.trans (hb.mono HN7.out))
  have HN8 := Lib.hid (Nat.le_trans HN7.out hb.size)
  clear hb HE7 HB7 HN7
  go_wp2_with fail
  refine (read_beyond _ HE8.out).mono ?_
  rintro e w9 ⟨rfl, hb⟩
  have HE9 := Lib.hid (HE8.out.below hb)
  have HB9 := Lib.hid (HB8.out.trans (hb.mono HN8.out))
  have HN9 := Lib.hid (Nat.le_trans HN8.out hb.size)
  clear hb HE8 HB8 HN8
  go_wp2_with fail
  refine (read_minus _ HE9.out).mono ?_
  rintro e w10 ⟨rfl, hb⟩
  have HE10 := Lib.hid (HE9.out.below hb)
  have HB10 := Lib.hid (HB9.out.trans (hb.mono HN9.out))
  have HN10 := Lib.hid (Nat.le_trans HN9.out hb.size)
  clear hb HE9 HB9 HN9
  go_wp2_with fail
  refine (truncate_minus _).mono ?_
  rintro e w11 ⟨rfl, hb⟩
  have HE11 := Lib.hid (HE10.out.below hb)
  have HB11 := Lib.hid (HB10.out.trans (hb.mono HN10.out))
  have HN11 := Lib.hid (Nat.le_trans HN10.out hb.size)
  clear hb HE10 HB10 HN10
  have HL := Lib.hid (show lof (-2) = .agg #[.bool (decide ((-2 : Int) < 0)), .string (bs (Pl.dgs ((-2 : Int).natAbs)))] from rfl)
  rw [HL.out]
  generalize decide ((-2 : Int) < 0) = g at HL ⊢
  generalize bs (Pl.dgs ((-2 : Int).natAbs)) = S at HL ⊢
  go_wp2_with fail
  obtain ⟨C, hC⟩ : ∃ C, w11.heap.size = C := ⟨_, rfl⟩
  have hb : Below w11.heap.size w11 (w11.alloc (.cells #[.bool g, .string S] 34)) := (Below.refl _ _).alloc (Nat.le_refl _) _
  have hh : (w11.alloc (.cells #[.bool g, .string S] 34)).heap[w11.heap.size]? = some (.cells #[.bool g, .string S] 34) := heap_alloc_at _ _
  rw [hC] at hh ⊢
  generalize w11.alloc (.cells #[.bool g, .string S] 34) = w12 at hb hh ⊢
  have HE12 := Lib.hid (HE11.out.below hb)
  have HB12 := Lib.hid (HB11.out.trans (hb.mono HN11.out))
  have HN12 := Lib.hid (Nat.le_trans HN11.out hb.size)
  have HC12 := Lib.hid hh
  clear hb hh hC HE11 HB11 HN11
  refine (fraction_minus _).mono ?_
  rintro e w' ⟨rfl, rfl⟩
  go_wp2_with fail
  refine (shows_half _ HE12.out).mono ?_
  rintro e w13 ⟨rfl, hb⟩
  have HE13 := Lib.hid (HE12.out.below hb)
  have HB13 := Lib.hid (HB12.out.trans (hb.mono HN12.out))
  have HN13 := Lib.hid (Nat.le_trans HN12.out hb.size)
  have HC13 := Lib.hid (show w13.heap[C]? = some (.cells #[.bool g, .string S] 34) by rw [hb.block _ (Array.getElem?_eq_some_iff.1 HC12.out).1]; exact HC12.out)
  clear hb HE12 HB12 HN12 HC12
  go_wp2_with fail
  refine (read_three _ HE13.out).mono ?_
  rintro e w14 ⟨rfl, hb⟩
  have HE14 := Lib.hid (HE13.out.below hb)
  have HB14 := Lib.hid (HB13.out.trans (hb.mono HN13.out))
  have HN14 := Lib.hid (Nat.le_trans HN13.out hb.size)
  have HC14 := Lib.hid (show w14.heap[C]? = some (.cells #[.bool g, .string S] 34) by rw [hb.block _ (Array.getElem?_eq_some_iff.1 HC13.out).1]; exact HC13.out)
  clear hb HE13 HB13 HN13 HC13
  go_wp2_with fail
  refine (scale_down _).mono ?_
  rintro e w' ⟨rfl, rfl⟩
  go_wp2_with fail
  refine (shows_two _ HE14.out).mono ?_
  rintro e w15 ⟨rfl, hb⟩
  have HE15 := Lib.hid (HE14.out.below hb)
  have HB15 := Lib.hid (HB14.out.trans (hb.mono HN14.out))
  have HN15 := Lib.hid (Nat.le_trans HN14.out hb.size)
  have HC15 := Lib.hid (show w15.heap[C]? = some (.cells #[.bool g, .string S] 34) by rw [hb.block _ (Array.getElem?_eq_some_iff.1 HC14.out).1]; exact HC14.out)
  clear hb HE14 HB14 HN14 HC14
  go_wp2_with fail
  refine (read_most _ HE15.out).mono ?_
  rintro e w16 ⟨rfl, hb⟩
  have HE16 := Lib.hid (HE15.out.below hb)
  have HB16 := Lib.hid (HB15.out.trans (hb.mono HN15.out))
  have HN16 := Lib.hid (Nat.le_trans HN15.out hb.size)
  have HC16 := Lib.hid (show w16.heap[C]? = some (.cells #[.bool g, .string S] 34) by rw [hb.block _ (Array.getElem?_eq_some_iff.1 HC15.out).1]; exact HC15.out)
  clear hb HE15 HB15 HN15 HC15
  go_wp2_with fail
  refine (exponent_most _).mono ?_
  rintro e w' ⟨rfl, rfl⟩
  have hc := HC16.out
  have hCs : C < w16.heap.size := (Array.getElem?_eq_some_iff.1 hc).1
  have c0 : w16.cell? ⟨C, 0, none⟩ = some (.bool g) := by simp [World.cell?, hc]
  have c1 : w16.cell? ⟨C, 1, none⟩ = some (.string S) := by simp [World.cell?, hc]
  clear hc
  have hg := guard_large
  have heq : ∀ w, (binOp .eql 34 (.agg #[.bool g, .string S]) (.agg #[.bool g, .string S])).run Tryz.prog w = .ok (.bool true) w := fun w => by rw [run_large_eq]; simp
  have HO : Hid (∀ w, Calls Tryz.prog 15 #[.int .i64 (-2)] w fun e w' => e = .returned (.agg #[.bool g, .string S]) ∧ Below w.heap.size w w') := Lib.hid (fun w => by
    have h := ofn_any (-2) w (by decide) (by decide)
    rw [ofv_is (by decide) (by decide), HL.out] at h
    exact h)
  go_wp2_with fail
  have HFC := Lib.hid (fun (W : World) (hb : Below w16.heap.size w16 W) => show W.cell? ⟨C, 0, none⟩ = some (.bool g) ∧ W.cell? ⟨C, 1, none⟩ = some (.string S) from ⟨by rw [hb.cell (p := ⟨C, 0, none⟩) hCs]; exact c0, by rw [hb.cell (p := ⟨C, 1, none⟩) hCs]; exact c1⟩)
  go_region_held3 (fun W => W.cell? ⟨C, 0, none⟩ = some (.bool g) ∧ W.cell? ⟨C, 1, none⟩ = some (.string S)) (first | exact ⟨c0, c1⟩ | (refine ⟨?_, ?_⟩ <;> assumption)) (first | (go_at_call 15; refine (HO.out _).mono ?_; rintro e w17 ⟨rfl, hbd⟩; have hb : Below w16.heap.size w16 w17 := (Below.refl _ w16).drew.trans hbd; clear hbd; obtain ⟨d0, d1⟩ := HFC.out w17 hb))
  have HW := Lib.hid (HB16.out.trans (hb.mono HN16.out))
  clear hb
  go_wp2_with fail
  go_ret
  exact ⟨rfl, HW.out⟩
end Go.Proofs.YtpilniljhmkedaaGreatDoor
namespace Go.Proofs.YtpilniljhmkedaaGreatDoor
open Go.RowKit Go.Lib
/-- what a left shift leaves -/
structure Lsh (D : Dm) (N k : Nat) (D' : Dm) (E N' : Nat) : Prop where
  is : Pl.DIs D' N'
  dp : D'.dp = D.dp + E
  lo : 10 ^ (D.nd - 1 + E) ≤ N * 2 ^ k
  hi : N * 2 ^ k < 10 ^ (D.nd + E)
  le : D'.nd ≤ D.nd + E
  val : N' = N * 2 ^ k / 10 ^ (D.nd + E - D'.nd)
  exact : D.nd + E ≤ 800 → N' * 10 ^ (D.nd + E - D'.nd) = N * 2 ^ k ∧ D'.tr = D.tr
  ng : D'.ng = D.ng
theorem lsh_of {D : Dm} {N k E : Nat} {t : Bool} (hn : 0 < D.nd) (hlo : 10 ^ (D.nd - 1 + E) ≤ N * 2 ^ k) (hhi : N * 2 ^ k < 10 ^ (D.nd + E)) (ht : D.nd + E ≤ 800 → t = D.tr) :
    ∃ N', Lsh D N k ({ Pl.Dm.mid D (N * 2 ^ k) (D.nd + E) 0 t with nd := min (D.nd + E) 800, dp := D.dp + E } : Dm).trim E N' := by
  have h1 := Pl.mid_is (D := D) (M := N * 2 ^ k) (T := D.nd + E) (t := t) (p := D.dp + E) (by omega) (by rw [show D.nd + E - 1 = D.nd - 1 + E by omega]; exact hlo) hhi
  obtain ⟨a1, a2, a3, a4⟩ := Pl.trim_is h1
  have hm : min (D.nd + E) 800 ≤ D.nd + E := Nat.min_le_left _ _
  refine ⟨_, a1, a3, hlo, hhi, Nat.le_trans a4 hm, ?_, fun h8 => ⟨?_, ?_⟩, rfl⟩
  · rw [Nat.div_div_eq_div_mul, ← Nat.pow_add]
    congr 2
    simp only at a4 ⊢
    omega
  · have e : min (D.nd + E) 800 = D.nd + E := Nat.min_eq_left h8
    simp only [e, Nat.sub_self, Nat.pow_zero, Nat.div_one] at a2 ⊢
    exact a2
  · exact ht h8
set_option maxRecDepth 100000 in
set_option maxHeartbeats 4000000 in
theorem lsh_any (P k N : Nat) (D : Dm) (w : World) (hD : Pl.DIs D N) (hk1 : 1 ≤ k) (hk : k ≤ 60) (hp1 : -1000000 ≤ D.dp) (hp2 : D.dp ≤ 1000000) (ht : Tbs w P) (h : Has w P D) :
    Calls Tryz.prog 159 #[.pointer (some ⟨P, 0, none⟩), .int .u64 k] w fun e w' => e = .returned (.tuple #[]) ∧ (∃ D' E N', Lsh D N k D' E N' ∧ Has w' P D') ∧ Below P w w' := by
  obtain ⟨a, cap, t1, t2, t3⟩ := ht.lch
  obtain ⟨x, hx, hx2⟩ := Pl.cheats k (by omega)
  obtain ⟨t4, t5⟩ := t3 k x hx
  rw [Nat.mul_comm 2 k] at t4 t5
  have t6 : w.cell? ⟨(a.add (k * 2)).block, (a.add (k * 2)).off + 1, none⟩ = some (.string ⟨x.2.toArray⟩) := by
    rw [← t5]; congr 1
    unfold Addr.add
    split
    · simp_all
    · simp [Nat.add_assoc]
  clear t5
  have hm := Pl.more_is hD hk1 (hx2 hk1)
  have HC := Lib.hid (fun n => prefix_any P D x.2 (w.drewN n) hD.le (h.drewN n))
  have HH := Lib.hid h
  have c1 := h.nd
  have hk0 : (0 : Int) ≤ (k : Int) := by omega
  have hk2 : (k : Int) < 61 := by omega
  have hx1 : x.1 ≤ 61 := by have := (hx2 hk1).2.1; omega
  have hx3 : 1 ≤ x.1 := (hx2 hk1).1
  clear t3 hx2
  have hmore : Pl.more D x = if Pl.preLess D.d D.nd 0 x.2 = true then x.1 - 1 else x.1 := rfl
  have hn1 := hD.le
  have hE : Pl.more D x ≤ 61 := by rw [hmore]; split <;> omega
  generalize Pl.more D x = E at hm hmore hE
  have HMORE := Lib.hid hmore
  generalize Pl.preLess D.d D.nd 0 x.2 = bl at HC HMORE
  have s0 : (0 : Int) ≤ (D.nd : Int) := by omega
  have s1 : (D.nd : Int) ≤ 800 := by omega
  have HM := Lib.hid hm
  have HD := Lib.hid hD
  have HT := Lib.hid ht
  clear hmore hx hm h ht hD
  go_enter Tryz.func159, Tryz.ntmps159
  go_wp2_with fail
  go_quiet ((go_at_call 177; exact Calls.quiet_of (HC.out _)))
  go_upto_if 30 with (fail)
  go_cut [4] from 31 to 32 (fun v wx => v = .int .i64 (E : Nat) ∧ wx = w.drewN nq)
  case first =>
    cases bl with
    | true =>
      have HE : (x.1 : Int) - 1 = (E : Nat) := by have := HMORE.out; rw [if_pos rfl] at this; omega
      have hw : IntKind.i64.wrap ((x.1 : Int) - 1) = (E : Nat) := by rw [HE]; exact IntWalk.i64_in _ (by omega)
      have HEE := Lib.hid HE
      clear HE
      go_wp2_with fail
      go_meet
      case rel => exact ⟨rfl, rfl⟩
    | false =>
      have HE : E = x.1 := by have := HMORE.out; rw [if_neg (by decide)] at this; omega
      go_wp2_with fail
      go_meet
      case rel => exact ⟨by rw [HE], rfl⟩
  case rest =>
  obtain ⟨rfl, rfl⟩ := hcut
  have HH1 := Lib.hid (HH.out.drewN nq)
  have HB1 := Lib.hid (below_drewN (Below.refl P w) nq)
  generalize w.drewN nq = w1 at HH1 HB1 ⊢
  clear t1 t4 t6 c1 HC
  have c1 := HH1.out.nd
  have hw1 : IntKind.i64.wrap ((D.nd : Int) + (E : Nat)) = (D.nd : Int) + (E : Nat) := IntWalk.i64_in _ (by omega)
  have hw2 : IntKind.i64.wrap ((D.nd : Int) - 1) = (D.nd : Int) - 1 := IntWalk.i64_in _ (by omega)
  go_wp2_with fail
  go_loopw [5, 6, 7] (fun r s n wr => ∃ (i : Nat) (t : Bool), i ≤ D.nd ∧ r = .int .i64 ((i : Int) - 1) ∧ s = .int .i64 ((i : Int) + (E : Nat)) ∧ n = .int .u64 (Pl.cy N k (D.nd - i) : Nat) ∧ Hid (Has wr P (Pl.Dm.mid D (N * 2 ^ k) (D.nd + E) (i + E) t)) ∧ Hid (D.nd + E ≤ 800 → t = D.tr) ∧ Hid (Below P w wr)) (fun r _ _ _ => (RowKit.intOf r + 1).toNat)
  case atStart => exact ⟨D.nd, D.tr, by omega, rfl, rfl, by rw [Nat.sub_self, Pl.cy_zero]; rfl, Lib.hid (by rw [Pl.mid_start]; exact HH1.out), Lib.hid (fun _ => rfl), HB1⟩
  case round =>
    obtain ⟨i, t, hi, rfl, rfl, rfl, HX, HTR, HB⟩ := hrel
    by_cases h0 : 0 < i
    · obtain ⟨j, rfl⟩ : ∃ j, i = j + 1 := ⟨i - 1, by omega⟩
      have c5 := HX.out.dig j (by omega)
      rw [Pl.mid_out j (by omega), HD.out.dig j (by omega), show D.nd - 1 - j = D.nd - (j + 1) by omega] at c5
      have hdl : N / 10 ^ (D.nd - (j + 1)) % 10 < 10 := Nat.mod_lt _ (by omega)
      have HCA := Lib.hid (Pl.cy_lt N k (D.nd - (j + 1)))
      have HQ := Lib.hid (Pl.cy_quo N k (D.nd - (j + 1)))
      have HR := Lib.hid (Pl.cy_rem N k (D.nd - (j + 1)))
      rw [show D.nd - (j + 1) + 1 = D.nd - j by omega] at HQ
      generalize N / 10 ^ (D.nd - (j + 1)) % 10 = dj at c5 hdl HQ HR
      generalize Pl.cy N k (D.nd - (j + 1)) = cc at HCA HQ HR ⊢
      obtain ⟨m, hm⟩ : ∃ m, m = j + E := ⟨_, rfl⟩
      have e1 : (((j + 1 : Nat) : Int) - 1) = (j : Int) := by omega
      have e2 : (((j + 1 : Nat) : Int) + (E : Nat)) = (m : Int) + 1 := by omega
      rw [e1, e2]
      have f1 : (0 : Int) ≤ (j : Int) := by omega
      have f2 : (j : Int) < 800 := by omega
      have f3 : decide ((0 : Int) ≤ (j : Int)) = true := decide_eq_true f1
      have f4 : IntKind.i64.wrap ((m : Int) + 1 - 1) = (m : Int) := by rw [Int.add_sub_cancel]; exact IntWalk.i64_in _ (by omega)
      have f5 : IntKind.i64.wrap ((j : Int) - 1) = (j : Int) - 1 := IntWalk.i64_in _ (by omega)
      have f6 : (0 : Int) ≤ (m : Int) := by omega
      have g1 : IntKind.u64.wrap ((dj + 48 : Nat) : Int) = ((dj + 48 : Nat) : Int) := IntWalk.u64_in _ (by omega)
      have g2 : IntKind.u64.wrap (((dj + 48 : Nat) : Int) - 48) = (dj : Int) := by rw [show ((dj + 48 : Nat) : Int) - 48 = dj by omega]; exact IntWalk.u64_in _ (by omega)
      have p60 : 2 ^ k ≤ 1152921504606846976 := Nat.le_trans (Nat.pow_le_pow_right (by omega) hk) (by decide)
      have pdj : dj * 2 ^ k ≤ 9 * 2 ^ k := Nat.mul_le_mul_right _ (by omega)
      have pcc := HCA.out
      have g3 : IntKind.u64.wrap ((dj : Int) * 2 ^ k) = (dj : Int) * 2 ^ k := by
        rw [show (dj : Int) * 2 ^ k = ((dj * 2 ^ k : Nat) : Int) by push_cast; rfl]; exact IntWalk.u64_in _ (by omega)
      obtain ⟨v, hv⟩ : ∃ v, v = cc + dj * 2 ^ k := ⟨_, rfl⟩
      rw [← hv] at HQ HR
      have g4 : IntKind.u64.wrap ((cc : Int) + (dj : Int) * 2 ^ k) = (v : Int) := by
        rw [show (cc : Int) + (dj : Int) * 2 ^ k = (v : Int) by rw [hv]; push_cast; rfl]; exact IntWalk.u64_in _ (by omega)
      have hv2 : v < 18446744073709551616 := by omega
      clear g1 p60 pdj pcc hv e1 e2
      have g1 : IntKind.u64.wrap ((dj + 48 : Nat) : Int) = ((dj + 48 : Nat) : Int) := IntWalk.u64_in _ (by omega)
      have g5a : (v : Int).tdiv 10 = ((v / 10 : Nat) : Int) := rfl
      have g5b : (v : Int) / 10 = ((v / 10 : Nat) : Int) := rfl
      have g5 : IntKind.u64.wrap ((v / 10 : Nat) : Int) = ((v / 10 : Nat) : Int) := IntWalk.u64_in _ (by omega)
      have g6 : IntKind.u64.wrap (10 * ((v / 10 : Nat) : Int)) = 10 * ((v / 10 : Nat) : Int) := IntWalk.u64_in _ (by omega)
      have g7 : IntKind.u64.wrap ((v : Int) - 10 * ((v / 10 : Nat) : Int)) = ((v % 10 : Nat) : Int) := by rw [show (v : Int) - 10 * ((v / 10 : Nat) : Int) = ((v % 10 : Nat) : Int) by omega]; exact IntWalk.u64_in _ (by omega)
      have hr10 : v % 10 < 10 := Nat.mod_lt _ (by omega)
      generalize v % 10 = rr at g7 hr10 HR
      generalize hqq : v / 10 = qq at g5 g5a g5b g6 g7 HQ
      have HQQ := Lib.hid hqq
      clear hqq
      have g8 : IntKind.u64.wrap ((rr : Int) + 48) = (rr : Int) + 48 := IntWalk.u64_in _ (by omega)
      have g9 : ((rr : Int) + 48) % 256 = (rr : Int) + 48 := by omega
      have HDG := Lib.hid (show Pl.dg (N * 2 ^ k) (D.nd + E) m = rr + 48 by unfold Pl.dg; rw [HR.out, show D.nd + E - 1 - m = D.nd - (j + 1) by omega])
      rw [show j + 1 + E = m + 1 by omega] at HX
      have HMT := Lib.hid (show m < D.nd + E by omega)
      have HMJ := Lib.hid hm
      have hmu : m < 900 := by omega
      clear hm
      have c6 := HX.out.free m
      have c7 := HX.out.free 803
      have c8 := HX.out.tr
      by_cases h8 : m < 800
      · have f7 : (m : Int) < 800 := by omega
        have f8 : decide ((m : Int) < 800) = true := decide_eq_true f7
        have c9 := HX.out.dig m h8
        go_wp2_with fail
        go_roundw
        case rel => exact ⟨j, t, by omega, rfl, by rw [HMJ.out]; push_cast; rfl, by rw [HQ.out], Lib.hid (by rw [← HMJ.out, ← Pl.mid_put HMT.out, HDG.out]; exact HX.out.put m (rr + 48) h8), HTR, Lib.hid (HB.out.setCell (Nat.le_refl _) _)⟩
        case measure => simp [RowKit.intOf]
      · have f8 : decide ((m : Int) < 800) = false := decide_eq_false (by omega)
        by_cases h9 : rr = 0
        · subst h9
          rw [Int.natCast_zero] at g7
          go_wp2_with fail
          go_roundw
          case rel => exact ⟨j, t, by omega, rfl, by rw [HMJ.out]; push_cast; rfl, by rw [HQ.out], Lib.hid (by rw [← HMJ.out]; exact Pl.has_mid HX.out (by omega)), HTR, HB⟩
          case measure => simp [RowKit.intOf]
        · have f9 : ((rr : Int) != 0) = true := by simp; omega
          go_wp2_with fail
          go_roundw
          case rel => exact ⟨j, true, by omega, rfl, by rw [HMJ.out]; push_cast; rfl, by rw [HQ.out], Lib.hid (by rw [← HMJ.out]; exact Pl.has_mid (t := true) (HX.out.settr true) (by omega)), Lib.hid (fun h => by have := HMT.out; omega), Lib.hid (HB.out.setCell (Nat.le_refl _) _)⟩
          case measure => simp [RowKit.intOf]
    · obtain rfl : i = 0 := by omega
      rw [Nat.zero_add] at HX
      have hhi := HM.out.2
      have hlo := HM.out.1
      have hbig : N * 2 ^ k / 10 ^ D.nd < 1152921504606846977 := by
        rw [← Pl.cy_full k HD.out.hi]
        have h1 := Pl.cy_lt N k D.nd
        have h2 : 2 ^ k ≤ 1152921504606846976 := Nat.le_trans (Nat.pow_le_pow_right (by omega) hk) (by decide)
        omega
      have hcy : Pl.cy N k (D.nd - 0) = N * 2 ^ k / 10 ^ D.nd := Pl.cy_full k HD.out.hi
      rw [hcy, show ((0 : Nat) : Int) - 1 = -1 from rfl, show ((0 : Nat) : Int) + (E : Nat) = (E : Int) by omega]
      have HLO := Lib.hid hlo
      have HHI := Lib.hid hhi
      have HBIG := Lib.hid hbig
      have hnp := HD.out.pos
      clear hcy hlo hhi hbig HM
      generalize hM : N * 2 ^ k = M at HX HLO HHI HBIG ⊢
      have HMM := Lib.hid hM
      clear hM
      obtain ⟨wo, hwo⟩ : ∃ x, x = wr := ⟨wr, rfl⟩
      subst hwo
      go_wp2_with fail
      go_loopw [6, 7] (fun s n wr => ∃ (i : Nat) (t : Bool), i ≤ E ∧ s = .int .i64 (i : Int) ∧ n = .int .u64 (M / 10 ^ (D.nd + (E - i)) : Nat) ∧ Hid (Has wr P (Pl.Dm.mid D M (D.nd + E) i t)) ∧ Hid (D.nd + E ≤ 800 → t = D.tr) ∧ Hid (Below P w wr)) (fun s _ _ => (RowKit.intOf s).toNat)
      case atStart => exact ⟨E, t, by omega, rfl, by rw [Nat.sub_self, Nat.add_zero], HX, HTR, HB⟩
      case round =>
        obtain ⟨i, t, hi, rfl, rfl, HX, HTR, HB⟩ := hrel
        have hcap : M / 10 ^ (D.nd + (E - i)) < 1152921504606846977 := by
          refine Nat.lt_of_le_of_lt ?_ HBIG.out
          rw [Nat.pow_add, ← Nat.div_div_eq_div_mul]
          exact Nat.div_le_self _ _
        by_cases h0 : 0 < i
        · obtain ⟨j, rfl⟩ : ∃ j, i = j + 1 := ⟨i - 1, by omega⟩
          have hv1 : 0 < M / 10 ^ (D.nd + (E - (j + 1))) := by
            refine Nat.div_pos (Nat.le_trans (Nat.pow_le_pow_right (by omega) (by omega)) HLO.out) (Nat.pow_pos (by omega))
          have HQ := Lib.hid (show M / 10 ^ (D.nd + (E - (j + 1))) / 10 = M / 10 ^ (D.nd + (E - j)) by
            rw [Nat.div_div_eq_div_mul, ← Nat.pow_succ, show (D.nd + (E - (j + 1))).succ = D.nd + (E - j) by omega])
          have HDG := Lib.hid (show Pl.dg M (D.nd + E) j = M / 10 ^ (D.nd + (E - (j + 1))) % 10 + 48 by
            unfold Pl.dg; rw [show D.nd + E - 1 - j = D.nd + (E - (j + 1)) by omega])
          generalize M / 10 ^ (D.nd + (E - (j + 1))) = v at hv1 hcap HQ HDG ⊢
          rw [Int.natCast_add, Int.natCast_one]
          have f3 : decide ((0 : Int) < (v : Int)) = true := decide_eq_true (by omega)
          have f4 : IntKind.i64.wrap ((j : Int) + 1 - 1) = (j : Int) := by rw [Int.add_sub_cancel]; exact IntWalk.i64_in _ (by omega)
          have f6 : (0 : Int) ≤ (j : Int) := by omega
          have f7 : (j : Int) < 800 := by omega
          have f8 : decide ((j : Int) < 800) = true := decide_eq_true f7
          have g5a : (v : Int).tdiv 10 = ((v / 10 : Nat) : Int) := rfl
          have g5b : (v : Int) / 10 = ((v / 10 : Nat) : Int) := rfl
          have g5 : IntKind.u64.wrap ((v / 10 : Nat) : Int) = ((v / 10 : Nat) : Int) := IntWalk.u64_in _ (by omega)
          have g6 : IntKind.u64.wrap (10 * ((v / 10 : Nat) : Int)) = 10 * ((v / 10 : Nat) : Int) := IntWalk.u64_in _ (by omega)
          have g7 : IntKind.u64.wrap ((v : Int) - 10 * ((v / 10 : Nat) : Int)) = ((v % 10 : Nat) : Int) := by rw [show (v : Int) - 10 * ((v / 10 : Nat) : Int) = ((v % 10 : Nat) : Int) by omega]; exact IntWalk.u64_in _ (by omega)
          have hr10 : v % 10 < 10 := Nat.mod_lt _ (by omega)
          generalize v % 10 = rr at g7 hr10 HDG
          generalize hqq : v / 10 = qq at g5 g5a g5b g6 g7 HQ
          have HQQ := Lib.hid hqq
          clear hqq
          have g8 : IntKind.u64.wrap ((rr : Int) + 48) = (rr : Int) + 48 := IntWalk.u64_in _ (by omega)
          have g9 : ((rr : Int) + 48) % 256 = (rr : Int) + 48 := by omega
          have HMT := Lib.hid (show j < D.nd + E by omega)
          have c6 := HX.out.free j
          have c9 := HX.out.dig j (by omega)
          go_wp2_with fail
          go_roundw
          case rel => exact ⟨j, t, by omega, rfl, by rw [HQ.out], Lib.hid (by rw [← Pl.mid_put HMT.out, HDG.out]; exact HX.out.put j (rr + 48) (by omega)), HTR, Lib.hid (HB.out.setCell (Nat.le_refl _) _)⟩
          case measure => simp [RowKit.intOf]
        · obtain rfl : i = 0 := by omega
          have hz : M / 10 ^ (D.nd + (E - 0)) = 0 := Nat.div_eq_of_lt (by rw [Nat.sub_zero]; exact HHI.out)
          rw [hz, show ((0 : Nat) : Int) = 0 from rfl]
          have c1 : wr.cell? ⟨P, 800, none⟩ = some (.int .i64 (D.nd : Nat)) := HX.out.nd
          have c2 : wr.cell? ⟨P, 801, none⟩ = some (.int .i64 D.dp) := HX.out.dp
          have c3 := HX.out.free 800
          have c4 := HX.out.free 801
          have g1 : IntKind.i64.wrap (D.dp + (E : Nat)) = D.dp + (E : Nat) := IntWalk.i64_in _ (by omega)
          obtain ⟨N', hl⟩ := lsh_of (D := D) (N := N) (k := k) (E := E) (t := t) hnp (by rw [HMM.out]; exact HLO.out) (by rw [HMM.out]; exact HHI.out) HTR.out
          rw [HMM.out] at hl
          have HL := Lib.hid hl
          clear hl
          by_cases h8 : 800 ≤ D.nd + E
          · have f8 : decide ((800 : Int) ≤ (D.nd : Int) + (E : Nat)) = true := decide_eq_true (by omega)
            rw [Nat.min_eq_right h8] at HL
            go_wp2_with fail
            refine (dtrim_any P _ _ ?_ (((HX.out.setnd (D.nd + E)).setnd 800).setdp (D.dp + (E : Nat)))).mono ?_
            · exact Nat.le_refl _
            rintro e w' ⟨rfl, hw', hb'⟩
            go_wp2_with fail
            exact ⟨rfl, _, results_none Tryz.results159 _ _ _, rfl, ⟨_, E, N', HL.out, hw'⟩, (((HB.out.setCell (Nat.le_refl _) _).setCell (Nat.le_refl _) _).setCell (Nat.le_refl _) _).trans hb'⟩
          · have f8 : decide ((800 : Int) ≤ (D.nd : Int) + (E : Nat)) = false := decide_eq_false (by omega)
            rw [Nat.min_eq_left (by omega)] at HL
            go_wp2_with fail
            refine (dtrim_any P _ _ ?_ ((HX.out.setnd (D.nd + E)).setdp (D.dp + (E : Nat)))).mono ?_
            · show D.nd + E ≤ 800; omega
            rintro e w' ⟨rfl, hw', hb'⟩
            go_wp2_with fail
            exact ⟨rfl, _, results_none Tryz.results159 _ _ _, rfl, ⟨_, E, N', HL.out, hw'⟩, ((HB.out.setCell (Nat.le_refl _) _).setCell (Nat.le_refl _) _).trans hb'⟩
end Go.Proofs.YtpilniljhmkedaaGreatDoor
namespace Go.Proofs.YtpilniljhmkedaaGreatDoor
open Go.RowKit
namespace Pl
/-- the first q digits, noughts behind the last -/
def ap (N nd q : Nat) : Nat := N * 10 ^ q / 10 ^ nd
theorem ap_low {N nd q : Nat} (h : q ≤ nd) : ap N nd q = N / 10 ^ (nd - q) := by
  unfold ap
  rw [show 10 ^ nd = 10 ^ (nd - q) * 10 ^ q by rw [← Nat.pow_add]; congr 1; omega, Nat.mul_div_mul_right _ _ (Nat.pow_pos (by omega))]
theorem ap_high {N nd q : Nat} (h : nd ≤ q) : ap N nd q = N * 10 ^ (q - nd) := by
  unfold ap
  rw [show 10 ^ q = 10 ^ (q - nd) * 10 ^ nd by rw [← Nat.pow_add]; congr 1; omega, ← Nat.mul_assoc, Nat.mul_div_cancel _ (Nat.pow_pos (by omega))]
theorem ap_zero {N nd : Nat} (h : N < 10 ^ nd) : ap N nd 0 = 0 := by unfold ap; rw [Nat.pow_zero, Nat.mul_one]; exact Nat.div_eq_of_lt h
theorem ap_in {N nd q : Nat} (h : q < nd) : ap N nd (q + 1) = 10 * ap N nd q + N / 10 ^ (nd - 1 - q) % 10 := by
  rw [ap_low (by omega), ap_low (by omega), show nd - (q + 1) = nd - 1 - q by omega, show nd - q = nd - 1 - q + 1 by omega, Nat.pow_succ, ← Nat.div_div_eq_div_mul]
  omega
theorem ap_out {N nd q : Nat} (h : nd ≤ q) : ap N nd (q + 1) = 10 * ap N nd q := by
  rw [ap_high (by omega), ap_high h, show q + 1 - nd = q - nd + 1 by omega, Nat.pow_succ]; ac_rfl
/-- fewer digits -/
theorem ap_div (N nd q j : Nat) : ap N nd (q + j) / 10 ^ j = ap N nd q := by
  unfold ap
  rw [Nat.div_div_eq_div_mul, Nat.pow_add, ← Nat.mul_assoc, Nat.mul_div_mul_right _ _ (Nat.pow_pos (by omega))]
theorem u_next (A c k : Nat) (hc : c < 10) : (10 * A + c) % (10 * 2 ^ k) = 10 * (A % 2 ^ k) + c := by
  have p : 0 < 2 ^ k := Nat.pow_pos (by omega)
  have h := Nat.div_add_mod A (2 ^ k)
  have hl := Nat.mod_lt A p
  generalize A % 2 ^ k = R at *
  generalize A / 2 ^ k = Q at *
  generalize 2 ^ k = b at *
  subst h
  rw [show 10 * (b * Q + R) + c = (10 * R + c) + (10 * b) * Q by rw [Nat.mul_add, ← Nat.mul_assoc]; omega, Nat.add_mul_mod_self_left]
  exact Nat.mod_eq_of_lt (by omega)
theorem u_dig (A k : Nat) : A % (10 * 2 ^ k) / 2 ^ k = A / 2 ^ k % 10 := by
  rw [Nat.mul_comm 10]; exact Nat.mod_mul_right_div_self A (2 ^ k) 10
theorem u_low (A k : Nat) : A % (10 * 2 ^ k) % 2 ^ k = A % 2 ^ k := Nat.mod_mul_left_mod A 10 (2 ^ k)
theorem u_lt (A k : Nat) : A % (10 * 2 ^ k) < 10 * 2 ^ k := Nat.mod_lt _ (Nat.mul_pos (by omega) (Nat.pow_pos (by omega)))
/-- the new digit at place i -/
def rdg (N nd k r i : Nat) : Nat := ap N nd (r + i) / 2 ^ k % 10 + 48
def Dm.cut (D : Dm) (N k r j : Nat) (t : Bool) : Dm := { D with d := fun i => if i < j then rdg N D.nd k r i else D.d i, tr := t }
theorem cut_put {D : Dm} {N k r j : Nat} {t : Bool} : (Dm.cut D N k r j t).put j (rdg N D.nd k r j) = Dm.cut D N k r (j + 1) t := by
  unfold Dm.put Dm.cut
  simp only [Dm.mk.injEq, and_true]
  funext i
  by_cases e : i = j
  · subst e; simp
  · rw [if_neg e]
    by_cases h2 : i < j
    · rw [if_pos h2, if_pos (by omega)]
    · rw [if_neg h2, if_neg (by omega)]
theorem cut_start (D : Dm) (N k r : Nat) : Dm.cut D N k r 0 D.tr = D := by
  unfold Dm.cut
  cases D
  simp only [Dm.mk.injEq, and_true]
  funext i
  rw [if_neg (by omega)]
theorem cut_out {D : Dm} {N k r j : Nat} {t : Bool} (i : Nat) (h : j ≤ i) : (Dm.cut D N k r j t).d i = D.d i := by
  unfold Dm.cut; simp only; rw [if_neg (by omega)]
/-- all is done when k noughts have been read -/
theorem ap_done (N nd k q : Nat) (h : nd + k + 1 ≤ q) : ap N nd q % (10 * 2 ^ k) = 0 := by
  rw [ap_high (by omega), show 10 ^ (q - nd) = 10 ^ (k + 1) * 10 ^ (q - nd - (k + 1)) by rw [← Nat.pow_add]; congr 1; omega]
  rw [show 10 ^ (k + 1) = 10 * 2 ^ k * 5 ^ k by rw [Nat.mul_assoc, ← Nat.mul_pow, Nat.pow_succ, Nat.mul_comm]]
  rw [show N * (10 * 2 ^ k * 5 ^ k * 10 ^ (q - nd - (k + 1))) = 10 * 2 ^ k * (N * 5 ^ k * 10 ^ (q - nd - (k + 1))) by ac_rfl]
  exact Nat.mul_mod_right _ _
theorem cut_is {D : Dm} {N k r m : Nat} {t : Bool} {p : Int} (hm : 0 < m) (hm8 : m ≤ 800) (hr : 1 ≤ r) (h1 : 2 ^ k ≤ ap N D.nd r) (h2 : ap N D.nd (r - 1) < 2 ^ k) :
    DIs { Dm.cut D N k r m t with nd := m, dp := p } (ap N D.nd (r + m - 1) / 2 ^ k) := by
  have p2 : 0 < 2 ^ k := Nat.pow_pos (by omega)
  refine ⟨hm8, hm, fun i hi => ?_, ?_, ?_⟩
  · simp only at hi ⊢
    unfold Dm.cut
    simp only
    rw [if_pos hi, rdg, Nat.div_div_eq_div_mul, Nat.mul_comm, ← Nat.div_div_eq_div_mul, show r + m - 1 = r + i + (m - 1 - i) by omega, ap_div]
  · simp only
    rw [Nat.le_div_iff_mul_le p2]
    have h3 := ap_div N D.nd r (m - 1)
    rw [show r + (m - 1) = r + m - 1 by omega] at h3
    rw [← h3, Nat.le_div_iff_mul_le (Nat.pow_pos (by omega))] at h1
    rw [Nat.mul_comm]; exact h1
  · simp only
    have h3 := ap_div N D.nd (r - 1) m
    rw [show r - 1 + m = r + m - 1 by omega] at h3
    rw [← h3, Nat.div_lt_iff_lt_mul (Nat.pow_pos (by omega))] at h2
    rw [Nat.div_lt_iff_lt_mul p2, Nat.mul_comm]; exact h2
end Pl
/-- what a right shift leaves -/
structure Rsh (D : Dm) (N k : Nat) (D' : Dm) (r N' : Nat) : Prop where
  is : Pl.DIs D' N'
  r1 : 1 ≤ r
  r2 : r ≤ D.nd + 20
  dp : D'.dp = D.dp - ((r : Int) - 1)
  lo : 2 ^ k ≤ Pl.ap N D.nd r
  hi : Pl.ap N D.nd (r - 1) < 2 ^ k
  le : D'.nd ≤ D.nd + k
  val : N' = Pl.ap N D.nd (r + D'.nd - 1) / 2 ^ k
  exact : D.nd + k ≤ 800 → N' * 2 ^ k * 10 ^ D.nd = N * 10 ^ (r + D'.nd - 1) ∧ D'.tr = D.tr
  ng : D'.ng = D.ng
theorem rsh_of {D : Dm} {N k r q : Nat} {t : Bool} (hr1 : 1 ≤ r) (hr2 : r ≤ D.nd + 20) (lo : 2 ^ k ≤ Pl.ap N D.nd r) (hi : Pl.ap N D.nd (r - 1) < 2 ^ k) (hq1 : r < q) (hq2 : D.nd ≤ q) (hq3 : q ≤ max r D.nd + k + 1) (hq4 : q ≤ D.nd + k + 1)
    (hz : Pl.ap N D.nd q % (10 * 2 ^ k) = 0) (ht : q - r ≤ 800 → t = D.tr) : ∃ N', Rsh D N k ({ Pl.Dm.cut D N k r (min (q - r) 800) t with nd := min (q - r) 800, dp := D.dp - ((r : Int) - 1) } : Dm).trim r N' := by
  have hm1 : min (q - r) 800 ≤ q - r := Nat.min_le_left _ _
  have hm2 : min (q - r) 800 ≤ 800 := Nat.min_le_right _ _
  have hm3 : 0 < min (q - r) 800 := by omega
  have h1 := Pl.cut_is (D := D) (N := N) (k := k) (r := r) (m := min (q - r) 800) (t := t) (p := D.dp - ((r : Int) - 1)) hm3 hm2 hr1 lo hi
  obtain ⟨a1, a2, a3, a4⟩ := Pl.trim_is h1
  have a5 := a1.pos
  refine ⟨_, a1, hr1, hr2, a3, lo, hi, ?_, ?_, fun h8 => ⟨?_, ?_⟩, rfl⟩
  · simp only at a4 ⊢; omega
  · simp only at a4 a5 ⊢
    generalize (Dm.trim _).nd = m at *
    rw [Nat.div_div_eq_div_mul, Nat.mul_comm, ← Nat.div_div_eq_div_mul, show r + min (q - r) 800 - 1 = r + m - 1 + (min (q - r) 800 - m) by omega, Pl.ap_div]
  · have e : min (q - r) 800 = q - r := Nat.min_eq_left (by omega)
    have hx : Pl.ap N D.nd (q - 1) % 2 ^ k = 0 ∧ Pl.ap N D.nd (q - 1) * 10 ^ D.nd = N * 10 ^ (q - 1) := by
      by_cases hq : D.nd < q
      · have e1 := Pl.ap_out (N := N) (nd := D.nd) (q := q - 1) (by omega)
        rw [show q - 1 + 1 = q by omega] at e1
        have e2 := Pl.u_next (Pl.ap N D.nd (q - 1)) 0 k (by omega)
        rw [Nat.add_zero, ← e1, hz] at e2
        refine ⟨by omega, ?_⟩
        rw [Pl.ap_high (by omega), Nat.mul_assoc, ← Nat.pow_add]; congr 2; omega
      · have hq' : q = D.nd := by omega
        have e1 := Pl.ap_in (N := N) (nd := D.nd) (q := q - 1) (by omega)
        rw [show q - 1 + 1 = q by omega, show D.nd - 1 - (q - 1) = 0 by omega, Nat.pow_zero, Nat.div_one] at e1
        have e2 := Pl.u_next (Pl.ap N D.nd (q - 1)) (N % 10) k (by omega)
        rw [← e1, hz] at e2
        refine ⟨by omega, ?_⟩
        have e3 : Pl.ap N D.nd (q - 1) = N / 10 := by rw [Pl.ap_low (by omega), show D.nd - (q - 1) = 1 by omega, Nat.pow_one]
        rw [e3, ← hq', show q = q - 1 + 1 by omega, Nat.pow_succ, Nat.add_sub_cancel, Nat.mul_comm (10 ^ _) 10, ← Nat.mul_assoc]
        congr 1
        omega
    obtain ⟨x1, x2⟩ := hx
    have x3 : Pl.ap N D.nd (q - 1) / 2 ^ k * 2 ^ k = Pl.ap N D.nd (q - 1) := Nat.div_mul_cancel (Nat.dvd_of_mod_eq_zero x1)
    have key : ∀ m N2, m ≤ min (q - r) 800 → 0 < m → N2 * 10 ^ (min (q - r) 800 - m) = Pl.ap N D.nd (q - 1) / 2 ^ k → N2 * 2 ^ k * 10 ^ D.nd = N * 10 ^ (r + m - 1) := by
      intro m N2 b1 b2 b3
      rw [e] at b1 b3
      refine Nat.eq_of_mul_eq_mul_right (Nat.pow_pos (n := q - r - m) (show 0 < 10 by omega)) ?_
      rw [show N2 * 2 ^ k * 10 ^ D.nd * 10 ^ (q - r - m) = N2 * 10 ^ (q - r - m) * 2 ^ k * 10 ^ D.nd by ac_rfl, b3, x3, x2, Nat.mul_assoc, ← Nat.pow_add]
      congr 2
      omega
    refine key _ _ a4 a5 ?_
    rw [show r + min (q - r) 800 - 1 = q - 1 by omega] at a2 ⊢
    exact a2
  · exact ht (by omega)
end Go.Proofs.YtpilniljhmkedaaGreatDoor
