/- The contracts of pack64, bool2[int] and unmin. The contract of pack64. The contract of parseFloat64. The contract of atof64exact. The contract of atof64 at a text whose digits are not cut. The contracts of ParseFloat and Read where reading takes memory: a float as R says, or (where E allows it) an error. Plain: the digits ahead of the point and behind it of the text that a float is written as. -/
import Derived.Test.YtpilniljhmkedaaGreatDoorRaac
import Derived.Test.YtpilniljhmkedaaGreatDoorRaao
import Derived.Test.YtpilniljhmkedaaGreatDoorRaan
import Derived.Test.YtpilniljhmkedaaGreatDoorRaag
import Derived.Laws.BitsAllLaws
import Derived.Test.YtpilniljhmkedaaGreatDoorRaaf
import Derived.Test.YtpilniljhmkedaaGreatDoorRaal
import Derived.Test.YtpilniljhmkedaaGreatDoorRaam
import Derived.Test.YtpilniljhmkedaaGreatDoorRaaj
namespace Go.Proofs.YtpilniljhmkedaaGreatDoor
open Go.RowKit
theorem bool2i_any (b : Bool) (w : World) : Calls Tryz.prog 155 #[.bool b] w fun e w' => e = .returned (.int .i64 (if b then 1 else 0)) ∧ w = w' := by
  cases b
  · go_enter Tryz.func155, Tryz.ntmps155
    go_wp2
    go_ret
    exact ⟨rfl, rfl⟩
  · go_enter Tryz.func155, Tryz.ntmps155
    go_wp2
    go_ret
    exact ⟨rfl, rfl⟩
theorem unmin_any (w : World) : Calls Tryz.prog 156 #[.int .u64 9007199254740992] w fun e w' => e = .returned (.int .u64 36028797018963966) ∧ w = w' := by
  go_enter Tryz.func156, Tryz.ntmps156
  go_wp2
  go_ret
  exact ⟨rfl, rfl⟩
namespace Pl
/-- the sign's bit -/
def sgb (s : Bool) : Nat := if s then 9223372036854775808 else 0
theorem word_sgb {s : Bool} {r : Nat} (hr : r < 9223372036854775808) : Fl.D.word s r = r + sgb s := by
  obtain ⟨a1, a2, a3⟩ := Fl.word_mod s hr
  generalize Fl.D.word s r = x at a1 a2 a3
  unfold sgb
  cases s
  · simp at a2 ⊢; omega
  · simp at a2 ⊢; omega
theorem sgb_cases (s : Bool) : sgb s = 0 ∨ sgb s = 9223372036854775808 := by unfold sgb; cases s <;> simp
theorem and52 (x : Nat) : x &&& 4503599627370496 = x / 4503599627370496 % 2 * 4503599627370496 := by
  have h1 := Nat.and_div_two_pow (a := x) (b := 4503599627370496) (n := 52)
  have h2 := Nat.and_mod_two_pow (a := x) (b := 4503599627370496) (n := 52)
  have e : (2 : Nat) ^ 52 = 4503599627370496 := rfl
  rw [e] at h1 h2
  rw [show 4503599627370496 / 4503599627370496 = 1 from rfl, Nat.and_one_is_mod] at h1
  rw [show 4503599627370496 % 4503599627370496 = 0 from rfl, Nat.and_zero] at h2
  generalize x &&& 4503599627370496 = y at h1 h2 ⊢
  omega
theorem and63 (x : Nat) : x &&& 9223372036854775808 = x / 9223372036854775808 % 2 * 9223372036854775808 := by
  have h1 := Nat.and_div_two_pow (a := x) (b := 9223372036854775808) (n := 63)
  have h2 := Nat.and_mod_two_pow (a := x) (b := 9223372036854775808) (n := 63)
  have e : (2 : Nat) ^ 63 = 9223372036854775808 := rfl
  rw [e] at h1 h2
  rw [show 9223372036854775808 / 9223372036854775808 = 1 from rfl, Nat.and_one_is_mod] at h1
  rw [show 9223372036854775808 % 9223372036854775808 = 0 from rfl, Nat.and_zero] at h2
  generalize x &&& 9223372036854775808 = y at h1 h2 ⊢
  omega
theorem or_high {l h : Nat} (hl : l < 4503599627370496) : l ||| h * 4503599627370496 = h * 4503599627370496 + l := by
  have := Nat.two_pow_add_eq_or_of_lt (i := 52) (b := l) hl h
  have e : (2 : Nat) ^ 52 = 4503599627370496 := rfl
  rw [e] at this
  rw [Nat.or_comm, Nat.mul_comm h, this]
/-- a number's rest, the sign's bit, a power -/
theorem or_parts {l k : Nat} (s : Bool) (hl : l < 4503599627370496) (hk : k < 2048) : (l + sgb s) ||| k * 4503599627370496 = l + k * 4503599627370496 + sgb s := by
  rcases sgb_cases s with h | h
  · rw [h, Nat.add_zero, or_high hl]; omega
  · rw [h]
    have e1 : l + 9223372036854775808 = l ||| 2048 * 4503599627370496 := by rw [or_high hl]; omega
    have e2 : k * 4503599627370496 ||| 2048 * 4503599627370496 = (2048 + k) * 4503599627370496 := by
      have := Nat.two_pow_add_eq_or_of_lt (i := 63) (b := k * 4503599627370496) (by omega) 1
      have e : (2 : Nat) ^ 63 = 9223372036854775808 := rfl
      rw [e, Nat.mul_one] at this
      rw [Nat.or_comm, show 2048 * 4503599627370496 = 9223372036854775808 from rfl, ← this]
      omega
    rw [e1, Nat.or_assoc, Nat.or_comm (2048 * 4503599627370496), e2, or_high hl]
    omega
theorem or_inf (s : Bool) : sgb s ||| 9218868437227405312 = 9218868437227405312 + sgb s := by
  unfold sgb; cases s <;> decide
theorem or_sgb {m : Nat} (s : Bool) (hm : m < 9223372036854775808) : sgb s ||| m = m + sgb s := by
  rcases sgb_cases s with h | h
  · rw [h, Nat.zero_or, Nat.add_zero]
  · rw [h]
    have := Nat.two_pow_add_eq_or_of_lt (i := 63) (b := m) hm 1
    have e : (2 : Nat) ^ 63 = 9223372036854775808 := rfl
    rw [e, Nat.mul_one] at this
    rw [← this]; omega
theorem notb52 {m : Nat} (s : Bool) (h1 : 4503599627370496 ≤ m) (h2 : m < 9007199254740992) : (m + sgb s) &&& (18446744073709551615 - 4503599627370496) = m - 4503599627370496 + sgb s := by
  obtain ⟨l, rfl⟩ : ∃ l, m = l + 4503599627370496 := ⟨m - 4503599627370496, by omega⟩
  have hl : l < 4503599627370496 := by omega
  rw [Nat.add_sub_cancel]
  have e1 := or_parts s hl (k := 1) (by omega)
  rw [Nat.one_mul] at e1
  rw [← e1, Nat.and_or_distrib_right]
  have z1 : 4503599627370496 &&& (18446744073709551615 - 4503599627370496) = 0 := by decide
  rw [z1, Nat.or_zero]
  -- the rest has no such bit
  have e2 : (l + sgb s) &&& 18446744073709551615 = l + sgb s := by
    have := Nat.and_two_pow_sub_one_eq_mod (l + sgb s) 64
    rw [show 2 ^ 64 - 1 = 18446744073709551615 from rfl] at this
    rw [this, Nat.mod_eq_of_lt]
    rcases sgb_cases s with h | h <;> rw [h] <;> omega
  have e3 : (l + sgb s) &&& 4503599627370496 = 0 := by
    rw [and52]
    rcases sgb_cases s with h | h <;> rw [h] <;> omega
  have e4 : (18446744073709551615 : Nat) = (18446744073709551615 - 4503599627370496) ||| 4503599627370496 := by decide
  rw [e4, Nat.and_or_distrib_left, e3, Nat.or_zero] at e2
  exact e2
end Pl
end Go.Proofs.YtpilniljhmkedaaGreatDoor
namespace Go.Proofs.YtpilniljhmkedaaGreatDoor
open Go.RowKit
theorem run_sfb (n : Int) (w : World) : (callFunc 140 #[.int .u64 n]).run Tryz.prog w = .ok (.value (.float .f64 n.toNat)) w := by
  rw [run_callFunc_extern Tryz.func140 (by kernel_rfl) (by kernel_rfl) (by kernel_rfl) (show Extern.find _ = some Extern.MathFloatBits.float64frombits by kernel_rfl)]
  rfl
/-- what pack64 and parseFloat64 answer -/
def floatV (neg : Bool) (x : Nat × Bool) : Value := .tuple #[.float .f64 (Fl.D.word neg x.1), if x.2 then .iface 95 (.int .i64 1) else .nilIface]
theorem ret2f {a b : Nat} {v u : Value} (h1 : a = b) (h2 : v = u) : Ending.returned (.tuple #[.float .f64 a, v]) = .returned (.tuple #[.float .f64 b, u]) := by rw [h1, h2]
set_option maxRecDepth 100000 in
theorem pack_any (neg : Bool) (m : Nat) (e : Int) (w : World) (hm : m < 9007199254740992) (he1 : -1074 ≤ e) (he2 : e ≤ 2000) :
    Calls Tryz.prog 175 #[.int .u64 (m + Pl.sgb neg : Nat), .int .i64 e] w fun en w' => en = .returned (floatV neg (Pl.pPack m e)) ∧ w = w' := by
  have hs := Pl.sgb_cases neg
  have h2 := run_sfb
  obtain ⟨x, hx⟩ : ∃ x, m + Pl.sgb neg = x := ⟨_, rfl⟩
  have hx64 : x < 18446744073709551616 := by omega
  have hand := u64_and_nat x 4503599627370496 hx64 (by decide)
  rw [Pl.and52] at hand
  rw [hx]
  unfold floatV Pl.pPack
  by_cases hb : m / 4503599627370496 % 2 = 0
  · rw [if_pos hb]
    have hz : x / 4503599627370496 % 2 = 0 := by omega
    rw [hz] at hand
    have hand' : bits .and .u64 (x : Int) 4503599627370496 = 0 := by simpa using hand
    have HW := Lib.hid (show x = Fl.D.word neg m by rw [Pl.word_sgb (by omega)]; exact hx.symm)
    clear hand hz hb hs hx
    go_enter Tryz.func175, Tryz.ntmps175
    go_wp2_with fail
    go_ret2
    exact ⟨ret2f ((Int.toNat_natCast _).trans HW.out) rfl, rfl⟩
  · rw [if_neg hb]
    have hm1 : 4503599627370496 ≤ m := by omega
    have hz : x / 4503599627370496 % 2 = 1 := by omega
    rw [hz] at hand
    have hand' : bits .and .u64 (x : Int) 4503599627370496 = 4503599627370496 := by simpa using hand
    by_cases h9 : 972 ≤ e
    · rw [if_pos h9]
      have ha := u64_and_nat x 9223372036854775808 hx64 (by decide)
      rw [Pl.and63] at ha
      have hsv : x / 9223372036854775808 % 2 * 9223372036854775808 = Pl.sgb neg := by omega
      rw [hsv] at ha
      have ha' : bits .and .u64 (x : Int) 9223372036854775808 = (Pl.sgb neg : Int) := by simpa using ha
      have ho := u64_or_nat (Pl.sgb neg) 9218868437227405312 (by omega) (by decide)
      rw [Pl.or_inf] at ho
      have ho' : bits .or .u64 (Pl.sgb neg : Int) 9218868437227405312 = ((9218868437227405312 + Pl.sgb neg : Nat) : Int) := by simpa using ho
      have HW := Lib.hid (show 9218868437227405312 + Pl.sgb neg = Fl.D.word neg 9218868437227405312 from (Pl.word_sgb (by decide)).symm)
      have hs2 : 9218868437227405312 + Pl.sgb neg < 18446744073709551616 := by omega
      generalize 9218868437227405312 + Pl.sgb neg = y at ho' HW hs2
      generalize Pl.sgb neg = sg at ha' ho'
      clear hand ha hz hb hs hx hsv ho
      go_enter Tryz.func175, Tryz.ntmps175
      go_wp2_with fail
      go_ret2
      exact ⟨ret2f ((Int.toNat_natCast _).trans HW.out) rfl, rfl⟩
    · rw [if_neg h9]
      obtain ⟨k, hk⟩ : ∃ k : Nat, 1075 + e = k := ⟨(1075 + e).toNat, by omega⟩
      have ha := u64_andNot_nat x 4503599627370496 hx64 (by decide)
      rw [← hx, Pl.notb52 neg hm1 hm, hx] at ha
      have ha' : bits .andNot .u64 (x : Int) 4503599627370496 = ((m - 4503599627370496 + Pl.sgb neg : Nat) : Int) := by simpa using ha
      have ho := u64_or_nat (m - 4503599627370496 + Pl.sgb neg) (k * 4503599627370496) (by omega) (by omega)
      rw [Pl.or_parts neg (by omega) (by omega)] at ho
      have HW := Lib.hid (show m - 4503599627370496 + k * 4503599627370496 + Pl.sgb neg = Fl.D.word neg (m - 4503599627370496 + k * 4503599627370496) from (Pl.word_sgb (by omega)).symm)
      rw [hk, Int.toNat_natCast]
      obtain ⟨r, hr⟩ : ∃ r, Fl.D.word neg (m - 4503599627370496 + k * 4503599627370496) = r := ⟨_, rfl⟩
      dsimp only
      rw [hr] at HW ⊢
      clear hr
      have hk2 : k < 2047 := by omega
      have hy : m - 4503599627370496 + k * 4503599627370496 + Pl.sgb neg < 18446744073709551616 := by omega
      have hy2 : m - 4503599627370496 + Pl.sgb neg < 18446744073709551616 := by omega
      generalize m - 4503599627370496 + k * 4503599627370496 + Pl.sgb neg = y at ho HW hy
      generalize m - 4503599627370496 + Pl.sgb neg = z at ha' ho hy2
      have ho' : bits .or .u64 (z : Int) ((k : Int) * 4503599627370496) = (y : Int) := by simpa using ho
      clear hand ha hz hb hs hx ho
      go_enter Tryz.func175, Tryz.ntmps175
      go_wp2_with fail
      go_ret2
      exact ⟨ret2f ((Int.toNat_natCast _).trans HW.out) rfl, rfl⟩
end Go.Proofs.YtpilniljhmkedaaGreatDoor
namespace Go.Proofs.YtpilniljhmkedaaGreatDoor
open Go.RowKit
set_option maxRecDepth 100000 in
set_option maxHeartbeats 2000000 in
theorem parsef_any (d : Nat) (p : Int) (neg : Bool) (w : World) (hd0 : d ≠ 0) (hd : d < 18446744073709551616) (hp1 : -345 ≤ p) (hp2 : p ≤ 310) (ht : Tab w) (hsz : 13 < w.heap.size) :
    Calls Tryz.prog 142 #[.int .u64 d, .int .i64 p, .int .u64 (Pl.sgb neg : Nat)] w fun en w' => en = .returned (floatV neg (Pl.pOut d (Lib.bitLen d) p)) ∧ Below w.heap.size w w' := by
  obtain ⟨b1, b2, b3⟩ := Pl.bitLen_bounds hd hd0
  have b4 := Lib.bitLen_le d 64 (Nat.le_refl _) hd
  obtain ⟨X, Y, hsc⟩ := Pl.scaled_of b1 b4 b2 b3 hp1 hp2
  obtain ⟨u1, u2⟩ := Pl.scaled_lt hsc
  obtain ⟨b, hb⟩ : ∃ b, Lib.bitLen d = b := ⟨_, rfl⟩
  rw [hb] at b1 b2 b3 b4 u1 u2 ⊢
  have HB := Lib.hid hb
  clear hsc hb
  obtain ⟨l, hl⟩ : ∃ l, p * 108853 / 32768 = l := ⟨_, rfl⟩
  have HL := Lib.hid hl
  have hl1 : -1200 ≤ l ∧ l ≤ 1100 := by omega
  have hs2 := run_sfb
  go_enter Tryz.func142, Tryz.ntmps142
  go_wp2_with fail
  refine (Tryz.bits_Len64 _ _ (by omega) (by omega)).mono ?_
  rintro e w' ⟨rfl, rfl⟩
  rw [Int.toNat_natCast, HB.out]
  go_wp2_with fail
  refine (log2Pow10_any _ _ (by omega) (by omega)).mono ?_
  rintro en w' ⟨rfl, rfl⟩
  rw [hl]
  clear hl
  go_wp2_with fail
  obtain ⟨e, he⟩ : ∃ e, min 1074 (53 - (b : Int) - l) = e := ⟨_, rfl⟩
  rw [he]
  have he1 : -1200 ≤ e := by omega
  have he2 : e ≤ 1074 := by omega
  have HE := Lib.hid (show Pl.pE b p = e by unfold Pl.pE; rw [HL.out]; exact he)
  obtain ⟨e0, he0⟩ : ∃ e0, e - (64 - (b : Int)) = e0 := ⟨_, rfl⟩
  rw [he0]
  have he3 : -1300 ≤ e0 := by omega
  have he4 : e0 ≤ 1074 := by omega
  have he5 : 8 ≤ -(e0 + l + 3) := by omega
  have HE0 := Lib.hid he0
  clear he he0
  have PRE := Lib.hid (prescale_tab e0 p w'.heap.size (w'.alloc (.cells #[.int .u64 0, .int .u64 0, .int .i64 0] 188)) (v0 := .int .u64 0) (v1 := .int .u64 0) (v2 := .int .i64 0) (T := 188) ⟨by omega, by omega⟩ ⟨by omega, by omega⟩ (ht.below (B := w'.heap.size) ((Below.refl _ _).alloc (Nat.le_refl _) _) hsz) (heap_alloc_at _ _) hsz)
  rw [HL.out] at PRE
  refine PRE.out.mono ?_
  rintro en w1 ⟨rfl, hsc, hb1, hz1⟩
  have HBW := Lib.hid (((Below.refl w'.heap.size w').alloc (Nat.le_refl _) (.cells #[.int .u64 0, .int .u64 0, .int .i64 0] 188)).trans hb1)
  have HSC := Lib.hid hsc
  obtain ⟨c0, c1, c2⟩ := hsc
  rw [HL.out] at c2
  obtain ⟨s, hs⟩ : ∃ s, -(e0 + l + 3) = s := ⟨_, rfl⟩
  rw [hs] at c2 he5
  have HS := Lib.hid (show Pl.pSh b p = s by unfold Pl.pSh; rw [HE.out, HL.out, HE0.out]; exact hs)
  have hs9 : s ≤ 2600 := by omega
  have HS0 := Lib.hid hs
  have hsg := Pl.sgb_cases neg
  clear hb1 hs PRE
  by_cases h64 : 64 ≤ s
  · have ho : bits .or .u64 (Pl.sgb neg : Int) 0 = (Pl.sgb neg : Int) := by
      have := u64_or_nat (Pl.sgb neg) 0 (by omega) (by omega)
      simpa using this
    have HR := Lib.hid (show Pl.sgb neg = Fl.D.word neg 0 by rw [Pl.word_sgb (by decide), Nat.zero_add])
    have HO := Lib.hid (show Pl.pOut d b p = (0, false) by unfold Pl.pOut; rw [HS.out, if_pos h64])
    have hsg2 : Pl.sgb neg < 18446744073709551616 := by omega
    generalize Pl.sgb neg = sg at ho HR hsg2 ⊢
    clear hsg
    go_wp2_with fail
    go_ret2
    rw [HO.out]
    exact ⟨ret2f ((Int.toNat_natCast _).trans HR.out) rfl, HBW.out⟩
  · have hx2 : d * 2 ^ (64 - b) < 18446744073709551616 := by
      have := Nat.mul_lt_mul_of_pos_right b3 (Nat.two_pow_pos (64 - b))
      rw [← Nat.pow_add, show b + (64 - b) = 64 by omega] at this
      exact this
    have hxe : IntKind.u64.wrap ((d : Int) * 2 ^ (64 - b)) = ((d * 2 ^ (64 - b) : Nat) : Int) := by
      rw [← wrap_nat hx2]; simp
    have hs64 : s < 64 := by omega
    obtain ⟨x, hx⟩ : ∃ x, d * 2 ^ (64 - b) = x := ⟨_, rfl⟩
    rw [hx] at hxe hx2
    have HX := Lib.hid hx
    clear hx
    have UP := Lib.hid (uscale_tab x w'.heap.size e0 p w1 hx2 ⟨by omega, by omega⟩ (by rw [HL.out, HS0.out]; omega) (by rw [HL.out, HS0.out]; omega) HSC.out)
    have HU := Lib.hid (show Pl.pU d b p = Pl.scal x e0 p by unfold Pl.pU; rw [HX.out, HE.out, HE0.out])
    rw [HU.out] at u1 u2
    go_wp2_with fail
    refine UP.out.mono ?_
    rintro en w2 ⟨rfl, n2, rfl⟩
    obtain ⟨U, hU⟩ : ∃ U, Pl.scal x e0 p = U := ⟨_, rfl⟩
    rw [hU] at HU u1 u2 ⊢
    clear hU UP
    have hunm := fun (w : World) => unmin_any w
    have hand : bits .and .u64 (U : Int) 1 = ((U % 2 : Nat) : Int) := bits_and1 (show U < 18446744073709551616 by omega)
    by_cases hge : 36028797018963966 ≤ U
    · have hgeI : (36028797018963966 : Int) ≤ (U : Int) := by omega
      obtain ⟨V, hV⟩ : ∃ V, U / 2 ||| U % 2 = V := ⟨_, rfl⟩
      have hV2 : V < 36028797018963968 := by
        rw [← hV]
        have : U / 2 ||| U % 2 < 2 ^ 55 := Nat.or_lt_two_pow (by omega) (by omega)
        exact this
      have hor := u64_or_nat (U / 2) (U % 2) (by omega) (by omega)
      rw [hV] at hor
      have hM : Pl.pMant U = (V + 1 + V / 4 % 2) / 4 := by unfold Pl.pMant; rw [if_pos hge, hV]
      have hEx : Pl.pExp U e = e - 1 := by unfold Pl.pExp; rw [if_pos hge]
      rw [hM] at u2
      have HM := Lib.hid hM
      have HEX := Lib.hid hEx
      clear hM hEx hV
      have hor' : bits .or .u64 ((U : Int) / 2) ((U : Int) % 2) = (V : Int) := by simpa using hor
      clear hor
      go_wp2_with (first | (go_at_call 156; refine (unmin_any _).mono ?_; rintro en w3 ⟨rfl, rfl⟩) | (go_at_call 155; refine (bool2i_any _ _).mono ?_; rintro en w3 ⟨rfl, rfl⟩))
      refine (round_any V _ (by omega)).mono ?_
      rintro en w3 ⟨rfl, rfl⟩
      obtain ⟨m, hm⟩ : ∃ m, (V + 1 + V / 4 % 2) / 4 = m := ⟨_, rfl⟩
      rw [hm] at HM u2 ⊢
      have hos := u64_or_nat (Pl.sgb neg) m (by omega) (by omega)
      rw [Pl.or_sgb neg (by omega)] at hos
      have PK := Lib.hid (fun w => pack_any neg m (-(e - 1)) w (by omega) (by omega) (by omega))
      obtain ⟨y, hy⟩ : ∃ y, m + Pl.sgb neg = y := ⟨_, rfl⟩
      rw [hy] at hos PK
      clear hm hy
      have HO := Lib.hid (show Pl.pOut d b p = Pl.pPack m (-(e - 1)) by unfold Pl.pOut; rw [HS.out, if_neg (by omega), HU.out, HM.out, HE.out, HEX.out])
      go_wp2_with fail
      refine (PK.out _).mono ?_
      rintro en w3 ⟨rfl, rfl⟩
      have HBZ := Lib.hid (below_drewN HBW.out n2)
      obtain ⟨fo, hfo⟩ : ∃ fo, Pl.pPack m (-(e - 1)) = fo := ⟨_, rfl⟩
      rw [hfo] at HO ⊢
      obtain ⟨f, o⟩ := fo
      clear hfo
      unfold floatV
      cases o
      all_goals
        go_wp2_with fail
        go_ret2
        rw [HO.out]
        exact ⟨rfl, HBZ.out⟩
    · have hgeI : (U : Int) < 36028797018963966 := by omega
      have hor : bits .or .u64 (U : Int) ((U : Int) % 2) = (U : Int) := by
        have h := u64_or_nat U (U % 2) (by omega) (by omega)
        have e1 : U ||| U % 2 = U := by
          rw [← Nat.and_one_is_mod]
          apply Nat.eq_of_testBit_eq
          intro i
          rw [Nat.testBit_or, Nat.testBit_and]
          cases U.testBit i <;> simp
        rw [e1] at h
        simpa using h
      have hM : Pl.pMant U = (U + 1 + U / 4 % 2) / 4 := by unfold Pl.pMant; rw [if_neg hge]
      have hEx : Pl.pExp U e = e := by unfold Pl.pExp; rw [if_neg hge]
      rw [hM] at u2
      have HM := Lib.hid hM
      have HEX := Lib.hid hEx
      have HU2 := Lib.hid u2
      clear hM hEx u2 hge
      go_wp2_with fail
      refine (unmin_any _).mono ?_
      rintro en w3 ⟨rfl, rfl⟩
      go_wp2_with fail
      refine (bool2i_any _ _).mono ?_
      rintro en w3 ⟨rfl, rfl⟩
      rw [show decide ((36028797018963966 : Int) ≤ (U : Int)) = false from decide_eq_false (by omega)]
      rw [if_neg (by decide)]
      clear hgeI
      go_wp2_with fail
      refine (round_any U _ (by omega)).mono ?_
      rintro en w3 ⟨rfl, rfl⟩
      have u2 := HU2.out
      obtain ⟨m, hm⟩ : ∃ m, (U + 1 + U / 4 % 2) / 4 = m := ⟨_, rfl⟩
      rw [hm] at HM u2 ⊢
      have hos := u64_or_nat (Pl.sgb neg) m (by omega) (by omega)
      rw [Pl.or_sgb neg (by omega)] at hos
      have PK := Lib.hid (fun w => pack_any neg m (-(e)) w (by omega) (by omega) (by omega))
      obtain ⟨y, hy⟩ : ∃ y, m + Pl.sgb neg = y := ⟨_, rfl⟩
      rw [hy] at hos PK
      clear hm hy
      have HO := Lib.hid (show Pl.pOut d b p = Pl.pPack m (-(e)) by unfold Pl.pOut; rw [HS.out, if_neg (by omega), HU.out, HM.out, HE.out, HEX.out])
      go_wp2_with fail
      refine (PK.out _).mono ?_
      rintro en w3 ⟨rfl, rfl⟩
      have HBZ := Lib.hid (below_drewN HBW.out n2)
      obtain ⟨fo, hfo⟩ : ∃ fo, Pl.pPack m (-(e)) = fo := ⟨_, rfl⟩
      rw [hfo] at HO ⊢
      obtain ⟨f, o⟩ := fo
      clear hfo
      unfold floatV
      cases o
      all_goals
        go_wp2_with fail
        go_ret2
        rw [HO.out]
        exact ⟨rfl, HBZ.out⟩
end Go.Proofs.YtpilniljhmkedaaGreatDoor
namespace Go.Proofs.YtpilniljhmkedaaGreatDoor
open Go.RowKit
open Fl (E74)
/-- how atof64exact ends -/
def ExOut (d : Nat) (p : Int) (neg : Bool) (w : World) (e : Ending) (w' : World) : Prop :=
  ∃ f ok, e = .returned (.tuple #[.float .f64 f, .bool ok]) ∧ (ok = true → f = Fl.D.word neg (Pl.rnd E74 (d, p)) ∧ Pl.rnd E74 (d, p) < 9218868437227405312) ∧ w = w'
theorem rnd_pos (d k : Nat) : Pl.rnd E74 (d, (k : Int)) = Fl.rung (d * 10 ^ k * 2 ^ E74) 1 := by
  unfold Pl.rnd
  simp only
  rw [Int.toNat_natCast, show (-(k : Int)).toNat = 0 by omega, Nat.pow_zero]
theorem rnd_neg (d k : Nat) (hk : 0 < k) : Pl.rnd E74 (d, -(k : Int)) = Fl.rung (d * 2 ^ E74) (10 ^ k) := by
  unfold Pl.rnd
  simp only
  rw [show (-(k : Int)).toNat = 0 by omega, Int.neg_neg, Int.toNat_natCast, Nat.pow_zero, Nat.mul_one]
theorem fint_is (d : Nat) : floatOfInt .f64 (d : Int) = Fl.fint (d : Int) := rfl
set_option maxRecDepth 100000 in
set_option maxHeartbeats 2000000 in
theorem exact_big (d : Nat) (p : Int) (neg : Bool) (w : World) (hd1 : 4503599627370496 ≤ d) (hd : d < 18446744073709551616) (he : Env w) :
    Calls Tryz.prog 141 #[.int .u64 d, .int .i64 p, .bool neg] w (ExOut d p neg w) := by
  have h1 := he.info
  have b1 : ((d : Int) / 4503599627370496 != 0) = true := by simp; omega
  clear he
  go_enter Tryz.func141, Tryz.ntmps141
  go_wp2_with fail
  go_ret2
  exact ⟨_, _, rfl, (fun h => by cases h), rfl⟩
/-- the number with its sign, laid ahead of the walk -/
def Signed (neg : Bool) (d x : Nat) : Prop := (neg = false ∧ floatOfInt .f64 (d : Int) = x) ∨ (neg = true ∧ ∃ y, floatOfInt .f64 (d : Int) = y ∧ ∀ w : World, (Op.unary .neg (.float .f64 y)).run Tryz.prog w = .ok (.float .f64 x) w)
theorem signed_sx (neg : Bool) (d : Nat) : Signed neg d (Fl.sx neg d) := by
  cases neg
  · refine .inl ⟨rfl, (fint_is d).trans ?_⟩
    unfold Fl.sx
    rw [if_neg (by decide)]
  · refine .inr ⟨rfl, _, fint_is d, fun w => ?_⟩
    unfold Fl.sx
    rw [if_pos rfl]
    exact run_neg _ w
set_option maxRecDepth 100000 in
set_option maxHeartbeats 2000000 in
theorem exact_mul (d k : Nat) (neg : Bool) (w : World) (hd : d < 4503599627370496) (hk : k ≤ 22) (hk0 : 0 < k) (he : Env w) :
    Calls Tryz.prog 141 #[.int .u64 d, .int .i64 (k : Int), .bool neg] w (ExOut d k neg w) := by
  have h1 := he.info
  obtain ⟨a, cap, h2, h3, h4⟩ := he.f10
  have h5 := h4 k _ (Fl.f10_fin ⟨k, by omega⟩)
  have hm := Fl.mul_ten neg (d := d) (k := k) (by omega) hk
  rw [← rnd_pos] at hm
  have hsmall : Pl.rnd E74 (d, (k : Int)) < 9218868437227405312 := by
    rw [rnd_pos]
    refine Fl.rung_small (Nat.lt_of_le_of_lt (Nat.mul_le_mul (Nat.le_of_lt hd) (Nat.pow_le_pow_right (by decide) hk)) (by decide))
  have HSM := Lib.hid hsmall
  obtain ⟨x, hx⟩ : ∃ x, Fl.sx neg d = x := ⟨_, rfl⟩
  have hsx := signed_sx neg d
  have hnan : Fl.isNan x = false := by rw [← hx]; exact (Fl.is_sx neg (d := d) (by omega)).nan
  rw [hx] at hm hsx
  obtain ⟨o1, ho1⟩ := Fl.order_some hnan (b := 4831355200913801216) (by decide)
  obtain ⟨o2, ho2⟩ := Fl.order_some hnan (b := 14054727237768577024) (by decide)
  have ho1' : FloatKind.f64.format.order x 4831355200913801216 = some o1 := ho1
  have ho2' : FloatKind.f64.format.order x 14054727237768577024 = some o2 := ho2
  clear ho1 ho2
  obtain ⟨r, hr⟩ : ∃ r, Fl.D.word neg (Pl.rnd E74 (d, (k : Int))) = r := ⟨_, rfl⟩
  rw [hr] at hm
  obtain ⟨q, hq⟩ : ∃ q, Fl.fint ((10 ^ k : Nat) : Int) = q := ⟨_, rfl⟩
  rw [hq] at h5 hm
  have h6 := fun (t : TypeId) (w : World) => run_float_arith (P := Tryz.prog) w .mul t .f64 x q r hm
  have b1 : ((d : Int) / 4503599627370496 != 0) = false := by rw [bne_eq_false_iff_eq]; omega
  have b2 : ((k : Int) == 0) = false := by rw [beq_eq_false_iff_ne]; omega
  have HR := Lib.hid hr
  clear h4 hm he h3 hx hnan hsmall hq hr
  rcases hsx with ⟨rfl, hx⟩ | ⟨rfl, y, hy, hyn⟩
  all_goals
    cases o1 <;> cases o2
    all_goals
      go_enter Tryz.func141, Tryz.ntmps141
      go_wp2_with fail
      go_ret2
      first | exact ⟨_, _, rfl, (fun _ => ⟨HR.out.symm, HSM.out⟩), rfl⟩ | exact ⟨_, _, rfl, (fun h => by cases h), rfl⟩
set_option maxRecDepth 100000 in
set_option maxHeartbeats 2000000 in
theorem exact_quo (d k : Nat) (neg : Bool) (w : World) (hd : d < 4503599627370496) (hk : k ≤ 22) (hk0 : 0 < k) (he : Env w) :
    Calls Tryz.prog 141 #[.int .u64 d, .int .i64 (-(k : Int)), .bool neg] w (ExOut d (-(k : Int)) neg w) := by
  have h1 := he.info
  obtain ⟨a, cap, h2, h3, h4⟩ := he.f10
  have h5 := h4 k _ (Fl.f10_fin ⟨k, by omega⟩)
  have hm := Fl.div_ten neg (d := d) (k := k) (by omega) hk
  rw [← rnd_neg d k hk0] at hm
  have hsmall : Pl.rnd E74 (d, -(k : Int)) < 9218868437227405312 := by
    rw [rnd_neg d k hk0]
    exact Fl.rung_small_quo (Nat.lt_of_lt_of_le hd (by decide)) (Nat.pow_pos (by decide))
  have HSM := Lib.hid hsmall
  obtain ⟨x, hx⟩ : ∃ x, Fl.sx neg d = x := ⟨_, rfl⟩
  have hsx := signed_sx neg d
  rw [hx] at hm hsx
  obtain ⟨r, hr⟩ : ∃ r, Fl.D.word neg (Pl.rnd E74 (d, -(k : Int))) = r := ⟨_, rfl⟩
  rw [hr] at hm
  obtain ⟨q, hq⟩ : ∃ q, Fl.fint ((10 ^ k : Nat) : Int) = q := ⟨_, rfl⟩
  rw [hq] at h5 hm
  have h6 := fun (t : TypeId) (w : World) => run_float_arith (P := Tryz.prog) w .quo t .f64 x q r hm
  have b1 : ((d : Int) / 4503599627370496 != 0) = false := by rw [bne_eq_false_iff_eq]; omega
  have b2 : (-(k : Int) == 0) = false := by rw [beq_eq_false_iff_ne]; omega
  have HR := Lib.hid hr
  clear h4 hm he h3 hx hsmall hq hr
  rcases hsx with ⟨rfl, hx⟩ | ⟨rfl, y, hy, hyn⟩
  all_goals
    go_enter Tryz.func141, Tryz.ntmps141
    go_wp2_with fail
    go_ret2
    exact ⟨_, _, rfl, (fun _ => ⟨HR.out.symm, HSM.out⟩), rfl⟩
set_option maxRecDepth 100000 in
set_option maxHeartbeats 2000000 in
theorem exact_zero (d : Nat) (neg : Bool) (w : World) (hd : d < 4503599627370496) (he : Env w) :
    Calls Tryz.prog 141 #[.int .u64 d, .int .i64 0, .bool neg] w (ExOut d 0 neg w) := by
  have h1 := he.info
  have hr : Fl.D.word neg (Pl.rnd E74 (d, 0)) = Fl.sx neg d := by
    rw [Fl.sx_word, show (0 : Int) = ((0 : Nat) : Int) from rfl, rnd_pos, Nat.pow_zero, Nat.mul_one]
  have hsmall : Pl.rnd E74 (d, 0) < 9218868437227405312 := by
    rw [show (0 : Int) = ((0 : Nat) : Int) from rfl, rnd_pos, Nat.pow_zero, Nat.mul_one]
    exact Fl.rung_small (Nat.lt_of_lt_of_le hd (by decide))
  have HSM := Lib.hid hsmall
  obtain ⟨x, hx⟩ : ∃ x, Fl.sx neg d = x := ⟨_, rfl⟩
  have hsx := signed_sx neg d
  rw [hx] at hr hsx
  have b1 : ((d : Int) / 4503599627370496 != 0) = false := by rw [bne_eq_false_iff_eq]; omega
  have HR := Lib.hid hr
  clear he hx hsmall hr
  rcases hsx with ⟨rfl, hx⟩ | ⟨rfl, y, hy, hyn⟩
  all_goals
    go_enter Tryz.func141, Tryz.ntmps141
    go_wp2_with fail
    go_ret2
    exact ⟨_, _, rfl, (fun _ => ⟨HR.out.symm, HSM.out⟩), rfl⟩
set_option maxRecDepth 100000 in
set_option maxHeartbeats 2000000 in
theorem exact_none (d : Nat) (p : Int) (neg : Bool) (w : World) (hd : d < 4503599627370496) (hp : p < -22 ∨ 37 < p) (he : Env w) :
    Calls Tryz.prog 141 #[.int .u64 d, .int .i64 p, .bool neg] w (ExOut d p neg w) := by
  have h1 := he.info
  obtain ⟨x, hx⟩ : ∃ x, Fl.sx neg d = x := ⟨_, rfl⟩
  have hsx := signed_sx neg d
  rw [hx] at hsx
  have b1 : ((d : Int) / 4503599627370496 != 0) = false := by rw [bne_eq_false_iff_eq]; omega
  have b2 : (p == 0) = false := by rw [beq_eq_false_iff_ne]; omega
  clear he hx
  rcases hp with hp | hp
  all_goals
    rcases hsx with ⟨rfl, hx⟩ | ⟨rfl, y, hy, hyn⟩
    all_goals
      go_enter Tryz.func141, Tryz.ntmps141
      go_wp2_with fail
      go_ret2
      exact ⟨_, _, rfl, (fun h => by cases h), rfl⟩
set_option maxRecDepth 100000 in
set_option maxHeartbeats 2000000 in
theorem exact_mul2 (d j : Nat) (neg : Bool) (w : World) (hd : d < 4503599627370496) (hj : j ≤ 15) (hj0 : 0 < j) (he : Env w) :
    Calls Tryz.prog 141 #[.int .u64 d, .int .i64 (j + 22 : Nat), .bool neg] w (ExOut d (j + 22 : Nat) neg w) := by
  have h1 := he.info
  obtain ⟨a, cap, h2, h3, h4⟩ := he.f10
  have h5 := h4 j _ (Fl.f10_fin ⟨j, by omega⟩)
  have h52 := h4 22 _ (Fl.f10_fin ⟨22, by omega⟩)
  obtain ⟨y, hm1⟩ : ∃ y, Fl.D.mul (Fl.sx neg d) (Fl.fint ((10 ^ j : Nat) : Int)) = some y := ⟨_, Fl.mul_ten neg (d := d) (k := j) (by omega) (by omega)⟩
  have hnan : Fl.isNan y = false := Fl.mul_not_nan hm1
  obtain ⟨o1, ho1⟩ := Fl.order_some hnan (b := 4831355200913801216) (by decide)
  obtain ⟨o2, ho2⟩ := Fl.order_some hnan (b := 14054727237768577024) (by decide)
  have HSO := Lib.hid (fun (g1 : o1 ≠ .gt) (g2 : o2 ≠ .lt) => Fl.small_of_order neg hd hj hm1 (by rw [ho1]; intro e; exact g1 (Option.some.inj e)) (by rw [ho2]; intro e; exact g2 (Option.some.inj e)))
  have HM1 := Lib.hid hm1
  have ho1' : FloatKind.f64.format.order y 4831355200913801216 = some o1 := ho1
  have ho2' : FloatKind.f64.format.order y 14054727237768577024 = some o2 := ho2
  clear ho1 ho2
  have hsmall : d * 10 ^ j < 9007199254740992 → Fl.D.mul y (Fl.fint ((10 ^ 22 : Nat) : Int)) = some (Fl.D.word neg (Pl.rnd E74 (d, (j + 22 : Nat)))) := by
    intro h
    have := HM1.out
    rw [Fl.mul_exact neg (by omega) (by omega) h] at this
    have hy := Option.some.inj this
    rw [← hy, Fl.mul_ten neg h (by omega), rnd_pos, Nat.pow_add, Nat.mul_assoc d]
  have hlow : Pl.rnd E74 (d, ((j + 22 : Nat) : Int)) < 9218868437227405312 := by
    rw [rnd_pos]
    refine Fl.rung_small (Nat.lt_of_le_of_lt (Nat.mul_le_mul (Nat.le_of_lt hd) (Nat.pow_le_pow_right (by decide) (show j + 22 ≤ 37 by omega))) (by decide))
  have HLW := Lib.hid hlow
  obtain ⟨x, hx⟩ : ∃ x, Fl.sx neg d = x := ⟨_, rfl⟩
  have hsx := signed_sx neg d
  rw [hx] at hm1 hsx
  obtain ⟨r, hr⟩ : ∃ r, Fl.D.word neg (Pl.rnd E74 (d, ((j + 22 : Nat) : Int))) = r := ⟨_, rfl⟩
  rw [hr] at hsmall
  obtain ⟨q, hq⟩ : ∃ q, Fl.fint ((10 ^ j : Nat) : Int) = q := ⟨_, rfl⟩
  obtain ⟨q2, hq2⟩ : ∃ q2, Fl.fint ((10 ^ 22 : Nat) : Int) = q2 := ⟨_, rfl⟩
  rw [hq] at h5 hm1
  rw [hq2] at h52 hsmall
  have h52' : w.cell? ⟨a.block, a.off + 22, none⟩ = some (.float .f64 q2) := by simpa [Addr.add] using h52
  clear h52
  have h6 := fun (t : TypeId) (w : World) => run_float_arith (P := Tryz.prog) w .mul t .f64 x q y hm1
  have H7 := Lib.hid (fun (g1 : o1 ≠ .gt) (g2 : o2 ≠ .lt) (t : TypeId) (w : World) => run_float_arith (P := Tryz.prog) w .mul t .f64 y q2 r (hsmall (HSO.out g1 g2)))
  have b1 : ((d : Int) / 4503599627370496 != 0) = false := by rw [bne_eq_false_iff_eq]; omega
  obtain ⟨k, hk⟩ : ∃ k : Nat, j + 22 = k := ⟨_, rfl⟩
  have HK := Lib.hid (show (k : Int) - 22 = j by omega)
  rw [hk] at hr HLW ⊢
  have hk22 : 22 < k := by omega
  have hk37 : k ≤ 37 := by omega
  have hkj : (k : Int) - 22 = (j : Int) := by omega
  have b2 : ((k : Int) == 0) = false := by rw [beq_eq_false_iff_ne]; omega
  have HR := Lib.hid hr
  clear h4 hm1 he h3 hx hnan hsmall hlow hq hq2 hr HM1 HSO hk
  rcases hsx with ⟨rfl, hx⟩ | ⟨rfl, z, hy, hyn⟩
  all_goals
    cases o1 <;> cases o2
    all_goals
      first
        | (have h7 := H7.out (by decide) (by decide)
           clear H7)
        | clear H7
      go_enter Tryz.func141, Tryz.ntmps141
      go_wp2_with fail
      go_ret2
      first | exact ⟨_, _, rfl, (fun _ => ⟨HR.out.symm, HLW.out⟩), rfl⟩ | exact ⟨_, _, rfl, (fun h => by cases h), rfl⟩
end Go.Proofs.YtpilniljhmkedaaGreatDoor
namespace Go.Proofs.YtpilniljhmkedaaGreatDoor
open Go.RowKit
open Fl (E74)
theorem exact_any (d : Nat) (p : Int) (neg : Bool) (w : World) (hd : d < 18446744073709551616) (he : Env w) :
    Calls Tryz.prog 141 #[.int .u64 d, .int .i64 p, .bool neg] w (ExOut d p neg w) := by
  rcases Nat.lt_or_ge d 4503599627370496 with h | h
  · by_cases h0 : p = 0
    · subst h0; exact exact_zero d neg w h he
    · by_cases h1 : p < -22 ∨ 37 < p
      · exact exact_none d p neg w h h1 he
      · rcases Int.lt_or_le p 0 with h2 | h2
        · obtain ⟨k, rfl⟩ : ∃ k : Nat, p = -(k : Int) := ⟨(-p).toNat, by omega⟩
          exact exact_quo d k neg w h (by omega) (by omega) he
        · obtain ⟨k, rfl⟩ : ∃ k : Nat, p = (k : Int) := ⟨p.toNat, by omega⟩
          rcases Nat.lt_or_ge 22 k with h3 | h3
          · obtain ⟨j, rfl⟩ : ∃ j, k = j + 22 := ⟨k - 22, by omega⟩
            exact exact_mul2 d j neg w h (by omega) (by omega) he
          · exact exact_mul d k neg w h h3 (by omega) he
  · exact exact_big d p neg w h hd he
/-- what reading answers at a rung -/
def readV (neg : Bool) (r n : Nat) : Value := .tuple #[.float .f64 (Fl.D.word neg r), .int .i64 n, if r = 9218868437227405312 then .iface 95 (.int .i64 1) else .nilIface]
theorem floatV_is (neg : Bool) {d : Nat} {p : Int} (hd0 : d ≠ 0) (hd : d < 18446744073709551616) (hp1 : -345 ≤ p) (hp2 : p ≤ 310) :
    floatV neg (Pl.pOut d (Lib.bitLen d) p) = .tuple #[.float .f64 (Fl.D.word neg (Pl.rnd E74 (d, p))), if Pl.rnd E74 (d, p) = 9218868437227405312 then .iface 95 (.int .i64 1) else .nilIface] := by
  obtain ⟨b1, b2, b3⟩ := Pl.bitLen_bounds hd hd0
  have b4 := Lib.bitLen_le d 64 (Nat.le_refl _) hd
  rw [Pl.parse_is Fl.E74_is b1 b4 b2 b3 hp1 hp2]
  unfold floatV
  simp only [decide_eq_true_eq]
theorem sgb_shl (neg : Bool) : (if neg = true then (1 : Int) else 0) * 9223372036854775808 = (Pl.sgb neg : Int) := by cases neg <;> rfl
set_option maxRecDepth 100000 in
set_option maxHeartbeats 2000000 in
theorem atof_any (s : ByteArray) (n d : Nat) (p : Int) (neg : Bool) (w : World) (hs : IsSpecial s) (hr : ReadsAs s d p neg false n) (hd0 : d ≠ 0) (hd : d < 18446744073709551616) (hp1 : -345 ≤ p) (hp2 : p ≤ 310) (he : Env w) :
    Calls Tryz.prog 100 #[.string s] w fun e w' => e = .returned (readV neg (Pl.rnd E74 (d, p)) n) ∧ Below w.heap.size w w' := by
  have h1 := he.opt
  have HX := Lib.hid (exact_any d p neg w hd he)
  have HP := Lib.hid (parsef_any d p neg w hd0 hd hp1 hp2 he.tab (by have := he.size; omega))
  rw [floatV_is neg hd0 hd hp1 hp2] at HP
  have b1 : ((d : Int) == 0) = false := by rw [beq_eq_false_iff_ne]; omega
  obtain ⟨r, hr'⟩ : ∃ r, Pl.rnd E74 (d, p) = r := ⟨_, rfl⟩
  unfold ExOut at HX
  rw [hr'] at HX HP ⊢
  clear he hr'
  go_enter Tryz.func100, Tryz.ntmps100
  go_wp2_with fail
  refine (hs _).mono ?_
  rintro e w' ⟨rfl, rfl⟩
  go_wp2_with fail
  refine (hr _).mono ?_
  rintro e w' ⟨rfl, rfl⟩
  go_wp2_with fail
  refine (bool2u_any _ _).mono ?_
  rintro e w' ⟨rfl, rfl⟩
  obtain ⟨sg, hsg, hsgv⟩ : ∃ sg : Int, (Pl.sgb neg : Int) = sg ∧ (neg = false ∧ sg = 0 ∨ neg = true ∧ sg = 9223372036854775808) := ⟨_, rfl, by cases neg <;> simp [Pl.sgb]⟩
  rw [hsg] at HP
  clear hsg
  rcases hsgv with ⟨rfl, rfl⟩ | ⟨rfl, rfl⟩
  all_goals
    go_wp2_with fail
    refine HX.out.mono ?_
    rintro e w'' ⟨f, ok, rfl, hok, rfl⟩
    cases ok
    rotate_left 1
    · obtain ⟨rfl, hlt⟩ := hok rfl
      have HL := Lib.hid hlt
      clear hok hlt
      go_wp2_with fail
      go_ret3
      refine ⟨?_, Below.refl _ _⟩
      unfold readV
      rw [if_neg (by have := HL.out; omega)]
      rfl
    · clear hok
      by_cases hinf : r = 9218868437227405312
      · rw [if_pos hinf] at HP
        have HI := Lib.hid hinf
        clear hinf
        go_wp2_with fail
        refine HP.out.mono ?_
        rintro e w2 ⟨rfl, hb⟩
        have HB := Lib.hid hb
        clear hb
        go_wp2_with fail
        go_ret3
        refine ⟨?_, HB.out⟩
        unfold readV
        rw [if_pos HI.out]
        rfl
      · rw [if_neg hinf] at HP
        have HI := Lib.hid hinf
        clear hinf
        go_wp2_with fail
        refine HP.out.mono ?_
        rintro e w2 ⟨rfl, hb⟩
        have HB := Lib.hid hb
        clear hb
        go_wp2_with fail
        go_ret3
        refine ⟨?_, HB.out⟩
        unfold readV
        rw [if_neg HI.out]
        rfl
end Go.Proofs.YtpilniljhmkedaaGreatDoor
namespace Go.Proofs.YtpilniljhmkedaaGreatDoor
open Go.RowKit Go.Lib
/-- what atof64 answers of a text: a float as R says, or an error, if E -/
def AtofIn (R : Nat → Prop) (E : Prop) (s : ByteArray) (n : Nat) (w : World) : Prop :=
  Calls Tryz.prog 100 #[.string s] w fun e w' => (∃ r, R r ∧ e = .returned (.tuple #[.float .f64 r, .int .i64 n, .nilIface]) ∨ E ∧ e = .returned (.tuple #[.float .f64 r, .int .i64 n, .iface 95 (.int .i64 1)])) ∧ Below w.heap.size w w'
theorem pre_in {R : Nat → Prop} {E : Prop} (s : ByteArray) (w : World) (n : Nat) (h : AtofIn R E s n w) :
    Calls Tryz.prog 70 #[.string s, .int .i64 64] w fun e w' => (∃ r, R r ∧ e = .returned (.tuple #[.float .f64 r, .int .i64 n, .nilIface]) ∨ E ∧ e = .returned (.tuple #[.float .f64 r, .int .i64 n, .iface 95 (.int .i64 1)])) ∧ Below w.heap.size w w' := by
  go_enter Tryz.func70, Tryz.ntmps70
  go_wp2_with fail
  refine h.mono ?_
  rintro e w' ⟨⟨r, ⟨hR, rfl⟩ | ⟨hE, rfl⟩⟩, hB⟩
  · go_wp2_with fail
    go_ret3
    exact ⟨⟨r, .inl ⟨hR, rfl⟩⟩, hB⟩
  · go_wp2_with fail
    go_ret3
    exact ⟨⟨r, .inr ⟨hE, rfl⟩⟩, hB⟩
theorem iparse_in {R : Nat → Prop} {E : Prop} (s : ByteArray) (w : World) (n : Nat) (h : AtofIn R E s n w) (hn : Hid (s.size = n)) :
    Calls Tryz.prog 37 #[.string s, .int .i64 64] w fun e w' => (∃ r, R r ∧ e = .returned (.tuple #[.float .f64 r, .nilIface]) ∨ E ∧ e = .returned (.tuple #[.float .f64 r, .iface 95 (.int .i64 1)])) ∧ Below w.heap.size w w' := by
  have hn' := hn.out
  have b1 : ((n : Int) != (n : Int)) = false := by simp
  go_enter Tryz.func37, Tryz.ntmps37
  go_wp2_with fail
  refine (pre_in s _ n h).mono ?_
  rintro e w' ⟨⟨r, ⟨hR, rfl⟩ | ⟨hE, rfl⟩⟩, hB⟩
  · go_wp2_with fail
    go_ret2
    exact ⟨⟨r, .inl ⟨hR, rfl⟩⟩, hB⟩
  · go_wp2_with fail
    go_ret2
    exact ⟨⟨r, .inr ⟨hE, rfl⟩⟩, hB⟩
set_option maxHeartbeats 1000000 in
theorem parse_in {R : Nat → Prop} {E : Prop} (s : ByteArray) (w : World) (n : Nat) (h : AtofIn R E s n w) (hn : Hid (s.size = n)) (hs : s.size ≤ 100000) (he : Env w) :
    Calls Tryz.prog 17 #[.string s, .int .i64 64] w fun e w' => (∃ r, R r ∧ e = .returned (.tuple #[.float .f64 r, .nilIface]) ∨ E ∧ ∃ a, e = .returned (.tuple #[.float .f64 r, .iface 96 (.pointer (some a))])) ∧ Below w.heap.size w w' := by
  go_enter Tryz.func17, Tryz.ntmps17
  go_wp2_with fail
  refine (iparse_in s _ n h hn).mono ?_
  rintro e w' ⟨⟨r, ⟨hR, rfl⟩ | ⟨hE, rfl⟩⟩, hB⟩
  · go_wp2_with fail
    go_ret2
    exact ⟨⟨r, .inl ⟨hR, rfl⟩⟩, hB⟩
  · have HB := Lib.hid hB
    have he' := he.below hB
    clear hB
    go_wp2_with fail
    refine (toError_range _ s _ hs he').mono ?_
    rintro e w1 ⟨a, rfl, hB1⟩
    have HBZ := Lib.hid (HB.out.trans (hB1.mono HB.out.size))
    clear hB1
    go_wp2_with fail
    go_ret2
    exact ⟨⟨r, .inr ⟨hE, a, rfl⟩⟩, HBZ.out⟩
theorem read_in {R : Nat → Prop} {E : Prop} (l : List UInt8) (w : World) (hl : l.length ≤ 1000) (hf : Pl.formed l = true) (he : Env w) (h : ∀ w, Env w → AtofIn R E (bs l) l.length w) :
    Calls Tryz.prog 7 #[.string (bs l)] w fun e w' => ((∃ r, R r ∧ e = .returned (.tuple #[.int .u64 (Fl.told r), .int .i64 0])) ∨ E ∧ e = .returned (.tuple #[.int .u64 0, .int .i64 101])) ∧ Below w.heap.size w w' := by
  have HF := Lib.hid (formed_any l w (by omega))
  have HP := Lib.hid (fun w he => parse_in (bs l) w l.length (h w he) (Lib.hid rfl) (by rw [bs_size]; omega) he)
  rw [hf] at HF
  clear h
  generalize bs l = s at *
  go_enter Tryz.func7, Tryz.ntmps7
  go_wp2_with fail
  refine HF.out.mono ?_
  rintro e w1 ⟨rfl, hB⟩
  go_wp2_with fail
  refine (HP.out _ (he.below hB)).mono ?_
  rintro e w2 ⟨⟨r, ⟨hR, rfl⟩ | ⟨hE, a, rfl⟩⟩, hB2⟩
  · have HBZ := Lib.hid (hB.trans (hB2.mono hB.size))
    clear hB hB2
    go_wp2_with fail
    refine (told_any _ _).mono ?_
    rintro e w3 ⟨rfl, rfl⟩
    go_wp2_with fail
    go_ret2
    exact ⟨.inl ⟨r, hR, rfl⟩, HBZ.out⟩
  · have HBZ := Lib.hid (hB.trans (hB2.mono hB.size))
    clear hB hB2
    go_wp2_with fail
    go_ret2
    exact ⟨.inr ⟨hE, rfl⟩, HBZ.out⟩
/-- a text whose digits are not cut -/
theorem atof_in (s : ByteArray) (n d : Nat) (p : Int) (neg : Bool) (w : World) (hs : IsSpecial s) (hr : ReadsAs s d p neg false n) (hd0 : d ≠ 0) (hd : d < 18446744073709551616) (hp1 : -345 ≤ p) (hp2 : p ≤ 310) (hlt : Pl.rnd Fl.E74 (d, p) < 9218868437227405312) (he : Env w) :
    AtofIn (fun r => r = Fl.D.word neg (Pl.rnd Fl.E74 (d, p))) False s n w := by
  refine (atof_any s n d p neg w hs hr hd0 hd hp1 hp2 he).mono ?_
  rintro e w' ⟨rfl, hB⟩
  refine ⟨⟨_, .inl ⟨rfl, ?_⟩⟩, hB⟩
  unfold readV
  rw [if_neg (by omega)]
end Go.Proofs.YtpilniljhmkedaaGreatDoor
namespace Go.Proofs.YtpilniljhmkedaaGreatDoor
open Go Go.Lib
namespace Pl
theorem rnd_shift (E d : Nat) (k : Int) (j : Nat) : rnd E (d * 10 ^ j, k - j) = rnd E (d, k) := by
  induction j with
  | zero => simp
  | succ j ih =>
    rw [← ih]
    have h := rnd_ten E (d * 10 ^ j) (-(k - (j : Int)) + 1)
    rw [show -(-(k - (j : Int)) + 1 - 1) = k - j by omega, show -(-(k - (j : Int)) + 1) = k - ((j + 1 : Nat) : Int) by omega] at h
    rw [h, Nat.pow_succ]
    congr 2
    rw [Nat.mul_comm 10, Nat.mul_assoc]
theorem repeat_zeros (k : Nat) : Lib.repeatL [48] k = List.replicate k 48 := by
  induction k with
  | zero => rfl
  | succ k ih => rw [Lib.repeatL, ih]; rfl
theorem vl_one : vl [48] = 0 := vl_zeros 1
/-- a text's digits ahead of the point and behind it -/
structure Parts (L : List UInt8) (p : Int) (e : Int) (X Y : List UInt8) (j : Nat) : Prop where
  x0 : X ≠ []
  y0 : Y ≠ []
  xd : ∀ c ∈ X, digit c
  yd : ∀ c ∈ Y, digit c
  v : vl (X ++ Y) = vl L * 10 ^ j
  q : e - Y.length = p + 1 - L.length - j
  j17 : j ≤ 17
  len : X.length + Y.length ≤ L.length + 20
theorem pointed_parts {L : List UInt8} (hL : ∀ c ∈ L, digit c) {n : Nat} (hn : 1 ≤ n) (hn2 : n ≤ L.length) (hl : L.length ≤ 1000) : ∃ (X Y : List UInt8) (j : Nat), j ≤ 1 ∧ pointed L n = X ++ 46 :: Y ∧ X ≠ [] ∧ Y ≠ [] ∧ (∀ c ∈ X, digit c) ∧ (∀ c ∈ Y, digit c) ∧ vl (X ++ Y) = vl L * 10 ^ j ∧ (Y.length : Int) = L.length + j - n ∧ X.length + Y.length ≤ L.length + 1 := by
  unfold pointed
  by_cases h : n = L.length
  · rw [if_pos h]
    refine ⟨L, [48], 1, by omega, rfl, List.ne_nil_of_length_pos (by omega), by simp, hL, ?_, ?_, ?_, by simp⟩
    · intro c hc; simp at hc; subst hc; exact ⟨by decide, by decide⟩
    · rw [vl_append, vl_one]; rfl
    · simp; omega
  · rw [if_neg h]
    refine ⟨L.take n, L.drop n, 0, by omega, by simp, List.ne_nil_of_length_pos (by rw [List.length_take]; omega), List.ne_nil_of_length_pos (by rw [List.length_drop]; omega), fun c hc => hL c (List.mem_of_mem_take hc), fun c hc => hL c (List.mem_of_mem_drop hc), ?_, ?_, ?_⟩
    · rw [List.take_append_drop]; simp
    · rw [List.length_drop]; omega
    · rw [List.length_take, List.length_drop]; omega
theorem written_parts {L : List UInt8} (hL : ∀ c ∈ L, digit c) (h1 : 1 ≤ L.length) (hl : L.length ≤ 20) (p : Int) (hp : -400 ≤ p ∧ p ≤ 400) :
    ((p < -4 ∨ 15 < p) ∧ ∃ (X Y : List UInt8) (j : Nat), Parts L p p X Y j ∧ j ≤ 1 ∧ written L p = X ++ 46 :: Y ++ 101 :: Lib.itoa p) ∨
      (¬ (p < -4 ∨ 15 < p) ∧ ∃ (X Y : List UInt8) (j : Nat), Parts L p 0 X Y j ∧ (j ≤ 1 ∨ (Y.length = 1 ∧ L.length + j ≤ 17)) ∧ written L p = X ++ 46 :: Y) := by
  unfold written
  by_cases c1 : p < -4 ∨ 15 < p
  · left
    rw [if_pos c1]
    obtain ⟨X, Y, j, hj, e, x0, y0, xd, yd, v, q, le⟩ := pointed_parts hL (n := 1) (by omega) h1 (by omega)
    exact ⟨c1, X, Y, j, ⟨x0, y0, xd, yd, v, by omega, by omega, by omega⟩, hj, by rw [e]; simp⟩
  · right
    refine ⟨c1, ?_⟩
    rw [if_neg c1]
    by_cases c2 : p + 1 ≤ 0
    · rw [if_pos c2, repeat_zeros]
      refine ⟨[48], List.replicate (-(p + 1)).toNat 48 ++ L, 0, ⟨by simp, List.ne_nil_of_length_pos (by rw [List.length_append]; omega), ?_, ?_, ?_, ?_, by omega, ?_⟩, .inl (by omega), by simp⟩
      · intro c hc; simp at hc; subst hc; exact ⟨by decide, by decide⟩
      · intro c hc
        rcases List.mem_append.1 hc with hc | hc
        · obtain ⟨_, rfl⟩ := List.mem_replicate.1 hc; exact ⟨by decide, by decide⟩
        · exact hL c hc
      · rw [← List.append_assoc, vl_append]
        have : [48] ++ List.replicate (-(p + 1)).toNat 48 = List.replicate ((-(p + 1)).toNat + 1) (48 : UInt8) := by rw [List.replicate_succ]; rfl
        rw [this, vl_zeros]; simp
      · simp; omega
      · simp; omega
    · rw [if_neg c2]
      by_cases c3 : (L.length : Int) < p + 1
      · rw [if_pos c3, repeat_zeros]
        have hlen : (L ++ List.replicate (p + 1 - L.length).toNat (48 : UInt8)).length = (p + 1).toNat := by simp; omega
        unfold pointed
        rw [if_pos hlen.symm]
        refine ⟨L ++ List.replicate (p + 1 - L.length).toNat 48, [48], (p + 1 - L.length).toNat + 1, ⟨List.ne_nil_of_length_pos (by rw [List.length_append]; omega), by simp, ?_, ?_, ?_, ?_, by omega, ?_⟩, .inr ⟨rfl, by omega⟩, by simp⟩
        · intro c hc
          rcases List.mem_append.1 hc with hc | hc
          · exact hL c hc
          · obtain ⟨_, rfl⟩ := List.mem_replicate.1 hc; exact ⟨by decide, by decide⟩
        · intro c hc; simp at hc; subst hc; exact ⟨by decide, by decide⟩
        · rw [vl_append, vl_append, vl_zeros, vl_one, List.length_replicate, Nat.pow_succ, Nat.add_zero, Nat.add_zero, Nat.mul_assoc]; rfl
        · simp; omega
        · rw [hlen]; simp; omega
      · rw [if_neg c3]
        obtain ⟨X, Y, j, hj, e, x0, y0, xd, yd, v, q, le⟩ := pointed_parts hL (n := (p + 1).toNat) (by omega) (by omega) (by omega)
        exact ⟨X, Y, j, ⟨x0, y0, xd, yd, v, by omega, by omega, by omega⟩, .inl hj, e⟩
end Pl
end Go.Proofs.YtpilniljhmkedaaGreatDoor
