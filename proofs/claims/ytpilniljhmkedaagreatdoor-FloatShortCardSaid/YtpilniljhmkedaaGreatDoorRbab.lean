/- FloatShort: the walk, and its plain law. -/
import Derived.Test.YtpilniljhmkedaaGreatDoorRbaa
import Derived.Test.YtpilniljhmkedaaGreatDoorRaar
import Derived.Test.YtpilniljhmkedaaGreatDoorRaat
import Derived.BigQuiet
namespace Go.Proofs.YtpilniljhmkedaaGreatDoor
open Go.RowKit Go.Lib
set_option maxRecDepth 100000 in
set_option maxHeartbeats 2000000 in
theorem atof_edge0 (s : ByteArray) (n d : Nat) (p : Int) (neg tr : Bool) (w : World) (hs : IsSpecial s) (hr : ReadsAs s d p neg tr n) (hd0 : d ≠ 0) (hp : 310 < p ∨ p < -345) (he : Env w) : AtofIn (fun r => FinF r ∧ r % 9223372036854775808 = 0) True s n w := by
  have h1 := he.opt
  have h2 := run_sfb
  have b1 : ((d : Int) == 0) = false := by rw [beq_eq_false_iff_ne]; omega
  clear he
  unfold AtofIn
  have b2 : bits .or .u64 9223372036854775808 0 = 9223372036854775808 := by decide
  have b3 : bits .or .u64 0 0 = 0 := by decide
  have b4 : bits .or .u64 9223372036854775808 9218868437227405312 = 18442240474082181120 := by decide
  have b5 : bits .or .u64 0 9218868437227405312 = 9218868437227405312 := by decide
  rcases hp with hp | hp
  all_goals
    cases neg
    all_goals
      go_enter Tryz.func100, Tryz.ntmps100
      go_wp2_with fail
      refine (hs _).mono ?_
      rintro e w' ⟨rfl, rfl⟩
      go_wp2_with fail
      refine (hr _).mono ?_
      rintro e w' ⟨rfl, rfl⟩
      go_wp2_with fail
      refine (bool2u_any _ _).mono ?_
      rintro e w' ⟨rfl, rfl⟩
      go_wp2_with fail
      go_ret3
      first
        | exact ⟨⟨_, .inr ⟨trivial, rfl⟩⟩, Below.refl _ _⟩
        | exact ⟨⟨_, .inl ⟨⟨⟨by decide, by decide⟩, by decide⟩, rfl⟩⟩, Below.refl _ _⟩
/-- what a number that was read is -/
def RdOf (t : Txt) (r : Nat) : Prop := FinF r ∧ ((Pl.run t.body).tr = true ∨ r % 9223372036854775808 = 0 ∨ ((Pl.run t.body).m ≠ 0 ∧ (Pl.run t.body).tr = false ∧ r % 9223372036854775808 = Pl.rnd Fl.E74 ((Pl.run t.body).m, Pl.expOf (Pl.run t.body) t.exp)))
theorem txt_atof2 {t : Txt} (h : t.Ok) (w : World) (he : Env w) : AtofIn (RdOf t) True (bs t.text) t.text.length w := by
  have r := txt_reads h
  have hs := txt_special h
  have hl := h.len
  have hok := Pl.run_ok t.body (fun c hc => by
    rcases List.mem_append.1 hc with hc | hc
    · exact .inr (h.xd c hc)
    · rcases List.mem_cons.1 hc with hc | hc
      · exact .inl hc
      · exact .inr (h.yd c hc))
  have hm : (Pl.run t.body).m < 10000000000000000000 := Nat.lt_of_lt_of_le hok.m (Nat.pow_le_pow_right (n := 10) (by decide) hok.nm)
  obtain ⟨d, hd⟩ : ∃ d, (Pl.run t.body).m = d := ⟨_, rfl⟩
  obtain ⟨p, hp⟩ : ∃ p, Pl.expOf (Pl.run t.body) t.exp = p := ⟨_, rfl⟩
  rw [hd, hp] at r
  rw [hd] at hm
  have hR : ∀ x, FinF x → ((Pl.run t.body).tr = true ∨ x % 9223372036854775808 = 0 ∨ (d ≠ 0 ∧ (Pl.run t.body).tr = false ∧ x % 9223372036854775808 = Pl.rnd Fl.E74 (d, p))) → RdOf t x := by
    intro x h1 h2
    unfold RdOf
    rw [hd, hp]
    exact ⟨h1, h2⟩
  by_cases h0 : d = 0
  · subst h0
    refine (atof_nought _ _ p t.neg (Pl.run t.body).tr w hs r he).mono ?_ (fun f => f.elim)
    rintro x rfl
    refine hR _ ?_ (.inr (.inl ?_))
    · unfold FinF Pl.sgb
      cases t.neg <;> exact ⟨by decide, by decide⟩
    · unfold Pl.sgb
      cases t.neg <;> decide
  · by_cases he1 : 310 < p ∨ p < -345
    · exact (atof_edge0 _ _ d p t.neg _ w hs r h0 he1 he).mono (fun x hx => hR x hx.1 (.inr (.inl hx.2))) id
    · cases htr : (Pl.run t.body).tr
      · rw [htr] at r
        rw [htr] at hR
        refine (atof_any _ _ d p t.neg w hs r h0 (by omega) (by omega) (by omega) he).mono ?_
        rintro e w' ⟨rfl, hB⟩
        have q1 : Pl.rnd Fl.E74 (d, p) ≤ 9218868437227405312 := Fl.rung_le _ _
        unfold readV
        by_cases h : Pl.rnd Fl.E74 (d, p) = 9218868437227405312
        · rw [if_pos h]
          exact ⟨⟨_, .inr ⟨trivial, rfl⟩⟩, hB⟩
        · rw [if_neg h]
          have hw := Fl.word_mod t.neg (show Pl.rnd Fl.E74 (d, p) < 9223372036854775808 by omega)
          refine ⟨⟨_, .inl ⟨hR _ ⟨hw.2.2, ?_⟩ (.inr (.inr ⟨h0, rfl, hw.1⟩)), rfl⟩⟩, hB⟩
          rw [hw.1]
          omega
      · rw [htr] at r
        exact (atof_cut _ _ d p t.neg w hs r (by rw [bs_size]) (by rw [bs_size]; omega) h0 hm (by omega) (by omega) (slow_txt t h (by rw [hd]; exact h0)) he).mono (fun x hx => hR x hx (.inl htr)) id
theorem read_txt {t : Txt} (h : t.Ok) (w : World) (he : Env w) : Calls Tryz.prog 7 #[.string (bs t.text)] w fun e w' => ((∃ x, RdOf t x ∧ e = .returned (.tuple #[.int .u64 x, .int .i64 0])) ∨ e = .returned (.tuple #[.int .u64 0, .int .i64 101])) ∧ Below w.heap.size w w' := by
  refine (read_in (R := RdOf t) (E := True) t.text w (by have := h.len; omega) (txt_formed h) he (fun w he => txt_atof2 h w he)).mono ?_
  rintro e w' ⟨⟨r, hr, rfl⟩ | ⟨_, rfl⟩, hB⟩
  · refine ⟨.inl ⟨r, hr, ?_⟩, hB⟩
    have : Fl.told r = r := by
      unfold Fl.told
      have hn : Fl.isNan r = false := by unfold Fl.isNan; rw [decide_eq_false_iff_not]; have := hr.1.2; omega
      rw [hn]; rfl
    rw [this]
  · exact ⟨.inr rfl, hB⟩
theorem read_bad (s : ByteArray) (w : World) (h2 : s.size ≤ 140737488355328) (he : Env w) (hb : ¬ ∃ t : Txt, t.Ok ∧ s = bs t.text) : Calls Tryz.prog 7 #[.string s] w fun e w' => e = .returned (.tuple #[.int .u64 0, .int .i64 100]) ∧ Below w.heap.size w w' := by
  rcases Nat.lt_or_ge 400 s.size with hlong | hshort
  · have HF := Lib.hid (formed_long s w hlong h2)
    go_enter Tryz.func7, Tryz.ntmps7
    go_wp2_with fail
    refine HF.out.mono ?_
    rintro e w1 ⟨rfl, rfl⟩
    go_wp2_with fail
    go_ret2
    exact ⟨rfl, Below.refl _ _⟩
  · obtain ⟨l, hl, hll⟩ : ∃ l : List UInt8, s = bs l ∧ l.length ≤ 400 := ⟨s.data.toList, by apply ByteArray.ext; unfold bs; simp, by simpa using hshort⟩
    subst hl
    cases hf : Pl.formed l
    · exact read_no l w (by omega) hf
    · obtain ⟨t, hok, rfl⟩ := formed_txt hf
      exact absurd ⟨t, hok, rfl⟩ hb
theorem digit_ne101 {c : UInt8} (h : Pl.digit c) : c ≠ 101 := by
  rintro rfl; exact absurd h (by unfold Pl.digit; decide)
theorem many_txt (t : Txt) (h : t.Ok) (w : World) : Calls Tryz.prog 9 #[.string (bs t.text)] w fun e w' => e = .returned (.int .i64 (Pl.mrun (t.X ++ t.Y)).res) ∧ w = w' := by
  have hl := h.len
  have hT : t.tail = [] ∨ ∃ r, t.tail = 101 :: r := by
    unfold Txt.tail
    rcases t.ex with _ | ⟨_ | _, D⟩
    · exact .inl rfl
    · exact .inr ⟨_, rfl⟩
    · exact .inr ⟨_, rfl⟩
  have hB : ∀ c ∈ t.body, c ≠ 101 := by
    intro c hc
    rcases List.mem_append.1 hc with hc | hc
    · exact digit_ne101 (h.xd c hc)
    · rcases List.mem_cons.1 hc with hc | hc
      · rw [hc]; decide
      · exact digit_ne101 (h.yd c hc)
  have hb : Pl.mrun t.body = Pl.mrun (t.X ++ t.Y) := Pl.mrun_skip t.X t.Y
  cases hn : t.neg
  · have e : t.text = t.body ++ t.tail := by unfold Txt.text; rw [hn]; rfl
    rw [e] at hl ⊢
    have := many_any t.body t.tail w hB hT (by rw [List.length_append] at hl; omega)
    rw [hb] at this
    exact this
  · have e : t.text = (45 :: t.body) ++ t.tail := by unfold Txt.text; rw [hn]; rfl
    rw [e] at hl ⊢
    have hB2 : ∀ c ∈ 45 :: t.body, c ≠ 101 := by
      intro c hc
      rcases List.mem_cons.1 hc with hc | hc
      · rw [hc]; decide
      · exact hB c hc
    have := many_any (45 :: t.body) t.tail w hB2 hT (by rw [List.length_append] at hl; omega)
    rw [Pl.mrun_sign, hb] at this
    exact this
theorem dec_min {a : Nat} (hf : a / 4503599627370496 % 2048 < 2047) (hz : a % 9223372036854775808 ≠ 0) {n c : Nat} {q : Int} (hn : 1 ≤ n) (hc : c < 10 ^ n) (hv : Pl.rnd Fl.E74 (c, q) = a % 9223372036854775808) : Pl.Sd (Pl.decOf a).1 n := by
  have hm0 : Pl.mant a ≠ 0 := by unfold Pl.mant; split <;> omega
  have hm64 : Pl.mant a < 18446744073709551616 := by unfold Pl.mant; split <;> omega
  obtain ⟨l1, l2⟩ := Pl.left_ok hm64 hm0
  unfold Pl.decOf
  by_cases h0 : a / 4503599627370496 % 2048 = 0
  · obtain ⟨e1, e2, _, _⟩ := Pl.den_left h0 (by omega)
    have := Pl.short_min (M := Pl.mant a) (L := Pl.lft a) (u := 0) (c := c) (q := q) Fl.E74_is (by omega) (by omega) (.inr rfl) (by omega) l1 l2 hn hc (by rw [hv]; omega)
    rw [e2]
    rw [show (((0 : Nat) : Int) - 1074 - (Pl.lft a : Int)) = -1074 - (Pl.lft a : Int) by omega] at this
    exact this
  · obtain ⟨e1, e2, e3⟩ := Pl.nor_left h0
    have := Pl.short_min (M := Pl.mant a) (L := Pl.lft a) (u := a / 4503599627370496 % 2048 - 1) (c := c) (q := q) Fl.E74_is (by omega) (by omega) (.inl (by omega)) (by omega) l1 l2 hn hc (by rw [hv]; omega)
    rw [e2]
    rw [show (((a / 4503599627370496 % 2048 - 1 : Nat) : Int) - 1074 - (Pl.lft a : Int)) = ((a / 4503599627370496 % 2048 : Nat) : Int) - 1075 - (Pl.lft a : Int) by omega] at this
    exact this
theorem dec_18 {a : Nat} (hf : a / 4503599627370496 % 2048 < 2047) (hz : a % 9223372036854775808 ≠ 0) : (Pl.decOf a).1 < 10 ^ 18 := by
  have hm0 : Pl.mant a ≠ 0 := by unfold Pl.mant; split <;> omega
  have hm64 : Pl.mant a < 18446744073709551616 := by unfold Pl.mant; split <;> omega
  obtain ⟨l1, l2⟩ := Pl.left_ok hm64 hm0
  unfold Pl.decOf
  by_cases h0 : a / 4503599627370496 % 2048 = 0
  · obtain ⟨e1, e2, _, _⟩ := Pl.den_left h0 (by omega)
    have := Pl.short_round (M := Pl.mant a) (L := Pl.lft a) (u := 0) Fl.E74_is (by omega) (by omega) (.inr rfl) (by omega) l1 l2
    rw [e2]
    rw [show (((0 : Nat) : Int) - 1074 - (Pl.lft a : Int)) = -1074 - (Pl.lft a : Int) by omega] at this
    exact this.2.1
  · obtain ⟨e1, e2, e3⟩ := Pl.nor_left h0
    have := Pl.short_round (M := Pl.mant a) (L := Pl.lft a) (u := a / 4503599627370496 % 2048 - 1) Fl.E74_is (by omega) (by omega) (.inl (by omega)) (by omega) l1 l2
    rw [e2]
    rw [show (((a / 4503599627370496 % 2048 - 1 : Nat) : Int) - 1074 - (Pl.lft a : Int)) = ((a / 4503599627370496 % 2048 : Nat) : Int) - 1075 - (Pl.lft a : Int) by omega] at this
    exact this.2.1
/-- what is shown has no more digits than what was read -/
theorem short_many {t : Txt} (h : t.Ok) {a : Nat} (hr : RdOf t a) (hz : a % 9223372036854775808 ≠ 0) : ∃ t2 : Txt, t2.Ok ∧ Pl.showN a = t2.text ∧ (Pl.mrun (t2.X ++ t2.Y)).res ≤ (Pl.mrun (t.X ++ t.Y)).res := by
  have hf : a / 4503599627370496 % 2048 < 2047 := by have := hr.1.2; omega
  obtain ⟨t2, hok2, et, _, _, _, _, _, _, x, y, hxy⟩ := show_txt hf hz
  refine ⟨t2, hok2, et, ?_⟩
  have hd : ∀ c ∈ t.X ++ t.Y, Pl.digit c := fun c hc => (List.mem_append.1 hc).elim (h.xd c) (h.yd c)
  have hd2 : ∀ c ∈ t2.X ++ t2.Y, Pl.digit c := fun c hc => (List.mem_append.1 hc).elim (hok2.xd c) (hok2.yd c)
  have hbd : ∀ c ∈ t.body, c = 46 ∨ Pl.digit c := fun c hc => by
    rcases List.mem_append.1 hc with hc | hc
    · exact .inr (h.xd c hc)
    · rcases List.mem_cons.1 hc with hc | hc
      · exact .inl hc
      · exact .inr (h.yd c hc)
  have hrv := Pl.rv_run t.body hbd
  have hrk := Pl.run_ok t.body hbd
  have hdv : Pl.dv t.body = Pl.vl (t.X ++ t.Y) := Pl.dv_body t.X t.Y h.xd h.yd
  rw [hdv] at hrv
  have hxy' : Pl.vl (t2.X ++ t2.Y) * 10 ^ x = (Pl.decOf a).1 * 10 ^ y := hxy
  have h18 := dec_18 hf hz
  have le18 : (Pl.mrun (t2.X ++ t2.Y)).res ≤ 18 := Pl.res_le hd2 hxy' h18
  rcases hr.2 with htr | h0 | ⟨hm0, htr, hv⟩
  · have hne : Pl.vl (t.X ++ t.Y) ≠ 0 := by
      intro e
      obtain ⟨r, h3, _, _, h6⟩ := hrv.v
      have := h6 htr
      rw [e] at h3
      omega
    obtain ⟨n, e1, _, c, tt, e2, e3⟩ := Pl.res_sd hd hne
    have := Pl.rv_cut hrv hrk.nm htr e2 e3
    rw [e1]; omega
  · exact absurd h0 hz
  · obtain ⟨r, h3, _, h5, _⟩ := hrv.v
    rw [h5 htr, Nat.add_zero] at h3
    have hne : Pl.vl (t.X ++ t.Y) ≠ 0 := by
      rw [h3]
      exact Nat.pos_iff_ne_zero.1 (Nat.mul_pos (Nat.pos_iff_ne_zero.2 hm0) (Nat.pow_pos (by decide)))
    obtain ⟨n, e1, e0, c, tt, e2, e3⟩ := Pl.res_sd hd hne
    obtain ⟨k, hk⟩ : ∃ k, (Pl.run t.body).nd - (Pl.run t.body).nm = k := ⟨_, rfl⟩
    rw [hk] at h3
    have s1 := Pl.rnd_shift Fl.E74 (Pl.run t.body).m (Pl.expOf (Pl.run t.body) t.exp) k
    rw [← h3, e2] at s1
    have s2 := Pl.rnd_shift Fl.E74 c (Pl.expOf (Pl.run t.body) t.exp - k + tt) tt
    rw [show Pl.expOf (Pl.run t.body) t.exp - (k : Int) + (tt : Int) - (tt : Int) = Pl.expOf (Pl.run t.body) t.exp - k by omega, s1, ← hv] at s2
    obtain ⟨c2, t3, g1, g2⟩ := dec_min hf hz e0 e3 s2.symm
    rw [g1, Nat.mul_assoc, ← Nat.pow_add] at hxy'
    rw [e1]
    exact Pl.res_le hd2 hxy' g2
theorem zero_many (neg : Bool) : (Pl.mrun ((zeroT neg).X ++ (zeroT neg).Y)).res = 0 := by cases neg <;> rfl
theorem res_nonneg (l : List UInt8) : 0 ≤ (Pl.mrun l).res ∧ (Pl.mrun l).res ≤ l.length := by
  obtain ⟨h1, h2, h3, h4, h5⟩ := Pl.mrun_ok l
  unfold Pl.Ms.res
  split <;> omega
set_option maxRecDepth 100000 in
set_option maxHeartbeats 4000000 in
theorem floatShort_any (s : ByteArray) (w : World) (hs : s.size ≤ 140737488355328) (he : Env w) :
    Calls Tryz.prog 4 #[.string s] w fun e w' => e = .returned (.bool true) ∧ Below w.heap.size w w' := by
  have HE := Lib.hid he
  have HWK := Lib.hid (fun (W : World) (he : Env W) => works_any W he)
  by_cases hb : ∃ t : Txt, t.Ok ∧ s = bs t.text
  · obtain ⟨t, hok, rfl⟩ := hb
    have HR := Lib.hid (fun (W : World) (he : Env W) => read_txt hok W he)
    have HSM := Lib.hid (fun (a : Nat) (hr : RdOf t a) (hz : a % 9223372036854775808 ≠ 0) => short_many hok hr hz)
    have HM := Lib.hid (fun (W : World) => many_txt t hok W)
    have hres := res_nonneg (t.X ++ t.Y)
    generalize (Pl.mrun (t.X ++ t.Y)).res = R at HSM HM hres
    generalize bs t.text = s at HR HM ⊢
    clear he hs
    have HRD := Lib.hid (fun (a : Nat) (hr : RdOf t a) => hr.1)
    go_enter Tryz.func4, Tryz.ntmps4
    go_wp2_with fail
    refine (HWK.out w HE.out).mono ?_
    rintro e w2 ⟨rfl, hb2⟩
    have HB2 := Lib.hid hb2
    have HE2 := Lib.hid (HE.out.below hb2)
    clear hb2
    go_wp2_with fail
    refine (HR.out _ HE2.out).mono ?_
    rintro e w3 ⟨⟨x, hx, rfl⟩ | rfl, hb3⟩
    · have HB3 := Lib.hid (HB2.out.trans (hb3.mono HB2.out.size))
      have HE3 := Lib.hid (HE2.out.below hb3)
      clear hb3
      obtain ⟨t2, hok2, hle, HSH⟩ : ∃ t2 : Txt, t2.Ok ∧ (Pl.mrun (t2.X ++ t2.Y)).res ≤ R ∧ Hid (∀ w, Env w → Calls Tryz.prog 8 #[.int .u64 x] w fun e w' => e = .returned (.string (bs t2.text)) ∧ Below w.heap.size w w') := by
        obtain ⟨h1, h2⟩ := HRD.out x hx
        by_cases hz : x % 9223372036854775808 = 0
        · obtain ⟨neg, rfl⟩ : ∃ neg, x = Pl.sgb neg := by
            by_cases ha : x = 0
            · exact ⟨false, by rw [ha]; rfl⟩
            · exact ⟨true, by show x = 9223372036854775808; omega⟩
          refine ⟨zeroT neg, zero_ok neg, by rw [zero_many]; exact hres.1, Lib.hid (fun w _ => ?_)⟩
          refine (show_zero neg w).mono ?_
          rintro e w' ⟨rfl, rfl⟩
          exact ⟨rfl, Below.refl _ _⟩
        · obtain ⟨t2, g1, g2, g3⟩ := HSM.out x hx hz
          refine ⟨t2, g1, g3, Lib.hid (fun w he => ?_)⟩
          rw [← g2]
          exact show_any x w h1 h2 hz he
      have HM2 := Lib.hid (fun (W : World) => many_txt t2 hok2 W)
      have hcmp : decide ((Pl.mrun (t2.X ++ t2.Y)).res ≤ R) = true := decide_eq_true hle
      generalize (Pl.mrun (t2.X ++ t2.Y)).res = R2 at HM2 hcmp hle
      generalize bs t2.text = s2 at HSH HM2
      go_wp2_with fail
      refine (HSH.out _ HE3.out).mono ?_
      rintro e w4 ⟨rfl, hb4⟩
      have HB4 := Lib.hid (HB3.out.trans (hb4.mono HB3.out.size))
      clear hb4
      go_wp2_with fail
      refine (HM2.out _).mono ?_
      rintro e w' ⟨rfl, rfl⟩
      go_wp2_with fail
      refine (HM.out _).mono ?_
      rintro e w' ⟨rfl, rfl⟩
      go_wp2_with fail
      go_ret
      exact ⟨rfl, HB4.out⟩
    · have HB3 := Lib.hid (HB2.out.trans (hb3.mono HB2.out.size))
      clear hb3
      go_wp2_with fail
      go_ret
      exact ⟨rfl, HB3.out⟩
  · have HR := Lib.hid (fun (W : World) (he : Env W) => read_bad s W hs he hb)
    clear he
    go_enter Tryz.func4, Tryz.ntmps4
    go_wp2_with fail
    refine (HWK.out w HE.out).mono ?_
    rintro e w2 ⟨rfl, hb2⟩
    have HB2 := Lib.hid hb2
    have HE2 := Lib.hid (HE.out.below hb2)
    clear hb2
    go_wp2_with fail
    refine (HR.out _ HE2.out).mono ?_
    rintro e w3 ⟨rfl, hb3⟩
    have HB3 := Lib.hid (HB2.out.trans (hb3.mono HB2.out.size))
    clear hb3
    go_wp2_with fail
    go_ret
    exact ⟨rfl, HB3.out⟩
end Go.Proofs.YtpilniljhmkedaaGreatDoor
