/- The contract of atof64exact. -/
import Derived.Test.YtlodbibagmblkaaGreatDoorTabb
import Derived.Test.YtlodbibagmblkaaGreatDoorTabe
namespace Go.Proofs.YtlodbibagmblkaaGreatDoor
open Go.RowKit
open Fl (E74)
/-- how atof64exact ends -/
def ExOut (d : Nat) (p : Int) (neg : Bool) (w : World) (e : Ending) (w' : World) : Prop :=
  ∃ f ok, e = .returned (.tuple #[.float .f64 f, .bool ok]) ∧ (ok = true → f = Fl.D.word neg (Pl.rnd E74 (d, p)) ∧ Pl.rnd E74 (d, p) < 9218868437227405312) ∧ w = w'
theorem rnd_pos (d k : Nat) : Pl.rnd E74 (d, (k : Int)) = Fl.rung (d * 10 ^ k * 2 ^ E74) 1 := by
  unfold Pl.rnd
  simp only
  rw [Int.toNat_natCast, show (-(k : Int)).toNat = 0 by omega, Nat.pow_zero]
theorem rnd_neg (d k : Nat) (hk : 0 < k) : Pl.rnd E74 (d, -(k : Int)) = Fl.rung (d * 2 ^ E74) (10 ^ k) := by
  unfold Pl.rnd
  simp only
  rw [show (-(k : Int)).toNat = 0 by omega, Int.neg_neg, Int.toNat_natCast, Nat.pow_zero, Nat.mul_one]
theorem fint_is (d : Nat) : floatOfInt .f64 (d : Int) = Fl.fint (d : Int) := rfl
set_option maxRecDepth 100000 in
set_option maxHeartbeats 2000000 in
theorem exact_big (d : Nat) (p : Int) (neg : Bool) (w : World) (hd1 : 4503599627370496 ≤ d) (hd : d < 18446744073709551616) (he : Env w) :
    Calls Tryz.prog 291 #[.int .u64 d, .int .i64 p, .bool neg] w (ExOut d p neg w) := by
  have h1 := he.info
  have b1 : ((d : Int) / 4503599627370496 != 0) = true := by simp; omega
  clear he
  go_enter Tryz.func291, Tryz.ntmps291
  go_wp2_with fail
  go_ret2
  exact ⟨_, _, rfl, (fun h => by cases h), rfl⟩
/-- the number with its sign, laid ahead of the walk -/
def Signed (neg : Bool) (d x : Nat) : Prop := (neg = false ∧ floatOfInt .f64 (d : Int) = x) ∨ (neg = true ∧ ∃ y, floatOfInt .f64 (d : Int) = y ∧ ∀ w : World, (Op.unary .neg (.float .f64 y)).run Tryz.prog w = .ok (.float .f64 x) w)
theorem signed_sx (neg : Bool) (d : Nat) : Signed neg d (Fl.sx neg d) := by
  cases neg
  · refine .inl ⟨rfl, (fint_is d).trans ?_⟩
    unfold Fl.sx
    rw [if_neg (by decide)]
  · refine .inr ⟨rfl, _, fint_is d, fun w => ?_⟩
    unfold Fl.sx
    rw [if_pos rfl]
    exact run_neg _ w
set_option maxRecDepth 100000 in
set_option maxHeartbeats 2000000 in
theorem exact_mul (d k : Nat) (neg : Bool) (w : World) (hd : d < 4503599627370496) (hk : k ≤ 22) (hk0 : 0 < k) (he : Env w) :
    Calls Tryz.prog 291 #[.int .u64 d, .int .i64 (k : Int), .bool neg] w (ExOut d k neg w) := by
  have h1 := he.info
  obtain ⟨a, cap, h2, h3, h4⟩ := he.f10
  have h5 := h4 k _ (Fl.f10_fin ⟨k, by omega⟩)
  have hm := Fl.mul_ten neg (d := d) (k := k) (by omega) hk
  rw [← rnd_pos] at hm
  have hsmall : Pl.rnd E74 (d, (k : Int)) < 9218868437227405312 := by
    rw [rnd_pos]
    refine Fl.rung_small (Nat.lt_of_le_of_lt (Nat.mul_le_mul (Nat.le_of_lt hd) (Nat.pow_le_pow_right (by decide) hk)) (by decide))
  have HSM := Lib.hid hsmall
  obtain ⟨x, hx⟩ : ∃ x, Fl.sx neg d = x := ⟨_, rfl⟩
  have hsx := signed_sx neg d
  have hnan : Fl.isNan x = false := by rw [← hx]; exact (Fl.is_sx neg (d := d) (by omega)).nan
  rw [hx] at hm hsx
  obtain ⟨o1, ho1⟩ := Fl.order_some hnan (b := 4831355200913801216) (by decide)
  obtain ⟨o2, ho2⟩ := Fl.order_some hnan (b := 14054727237768577024) (by decide)
  have ho1' : FloatKind.f64.format.order x 4831355200913801216 = some o1 := ho1
  have ho2' : FloatKind.f64.format.order x 14054727237768577024 = some o2 := ho2
  clear ho1 ho2
  obtain ⟨r, hr⟩ : ∃ r, Fl.D.word neg (Pl.rnd E74 (d, (k : Int))) = r := ⟨_, rfl⟩
  rw [hr] at hm
  obtain ⟨q, hq⟩ : ∃ q, Fl.fint ((10 ^ k : Nat) : Int) = q := ⟨_, rfl⟩
  rw [hq] at h5 hm
  have h6 := fun (t : TypeId) (w : World) => run_float_arith (P := Tryz.prog) w .mul t .f64 x q r hm
  have b1 : ((d : Int) / 4503599627370496 != 0) = false := by rw [bne_eq_false_iff_eq]; omega
  have b2 : ((k : Int) == 0) = false := by rw [beq_eq_false_iff_ne]; omega
  have HR := Lib.hid hr
  clear h4 hm he h3 hx hnan hsmall hq hr
  rcases hsx with ⟨rfl, hx⟩ | ⟨rfl, y, hy, hyn⟩
  all_goals
    cases o1 <;> cases o2
    all_goals
      go_enter Tryz.func291, Tryz.ntmps291
      go_wp2_with fail
      go_ret2
      first | exact ⟨_, _, rfl, (fun _ => ⟨HR.out.symm, HSM.out⟩), rfl⟩ | exact ⟨_, _, rfl, (fun h => by cases h), rfl⟩
set_option maxRecDepth 100000 in
set_option maxHeartbeats 2000000 in
theorem exact_quo (d k : Nat) (neg : Bool) (w : World) (hd : d < 4503599627370496) (hk : k ≤ 22) (hk0 : 0 < k) (he : Env w) :
    Calls Tryz.prog 291 #[.int .u64 d, .int .i64 (-(k : Int)), .bool neg] w (ExOut d (-(k : Int)) neg w) := by
  have h1 := he.info
  obtain ⟨a, cap, h2, h3, h4⟩ := he.f10
  have h5 := h4 k _ (Fl.f10_fin ⟨k, by omega⟩)
  have hm := Fl.div_ten neg (d := d) (k := k) (by omega) hk
  rw [← rnd_neg d k hk0] at hm
  have hsmall : Pl.rnd E74 (d, -(k : Int)) < 9218868437227405312 := by
    rw [rnd_neg d k hk0]
    exact Fl.rung_small_quo (Nat.lt_of_lt_of_le hd (by decide)) (Nat.pow_pos (by decide))
  have HSM := Lib.hid hsmall
  obtain ⟨x, hx⟩ : ∃ x, Fl.sx neg d = x := ⟨_, rfl⟩
  have hsx := signed_sx neg d
  rw [hx] at hm hsx
  obtain ⟨r, hr⟩ : ∃ r, Fl.D.word neg (Pl.rnd E74 (d, -(k : Int))) = r := ⟨_, rfl⟩
  rw [hr] at hm
  obtain ⟨q, hq⟩ : ∃ q, Fl.fint ((10 ^ k : Nat) : Int) = q := ⟨_, rfl⟩
  rw [hq] at h5 hm
  have h6 := fun (t : TypeId) (w : World) => run_float_arith (P := Tryz.prog) w .quo t .f64 x q r hm
  have b1 : ((d : Int) / 4503599627370496 != 0) = false := by rw [bne_eq_false_iff_eq]; omega
  have b2 : (-(k : Int) == 0) = false := by rw [beq_eq_false_iff_ne]; omega
  have HR := Lib.hid hr
  clear h4 hm he h3 hx hsmall hq hr
  rcases hsx with ⟨rfl, hx⟩ | ⟨rfl, y, hy, hyn⟩
  all_goals
    go_enter Tryz.func291, Tryz.ntmps291
    go_wp2_with fail
    go_ret2
    exact ⟨_, _, rfl, (fun _ => ⟨HR.out.symm, HSM.out⟩), rfl⟩
set_option maxRecDepth 100000 in
set_option maxHeartbeats 2000000 in
theorem exact_zero (d : Nat) (neg : Bool) (w : World) (hd : d < 4503599627370496) (he : Env w) :
    Calls Tryz.prog 291 #[.int .u64 d, .int .i64 0, .bool neg] w (ExOut d 0 neg w) := by
  have h1 := he.info
  have hr : Fl.D.word neg (Pl.rnd E74 (d, 0)) = Fl.sx neg d := by
    rw [Fl.sx_word, show (0 : Int) = ((0 : Nat) : Int) from rfl, rnd_pos, Nat.pow_zero, Nat.mul_one]
  have hsmall : Pl.rnd E74 (d, 0) < 9218868437227405312 := by
    rw [show (0 : Int) = ((0 : Nat) : Int) from rfl, rnd_pos, Nat.pow_zero, Nat.mul_one]
    exact Fl.rung_small (Nat.lt_of_lt_of_le hd (by decide))
  have HSM := Lib.hid hsmall
  obtain ⟨x, hx⟩ : ∃ x, Fl.sx neg d = x := ⟨_, rfl⟩
  have hsx := signed_sx neg d
  rw [hx] at hr hsx
  have b1 : ((d : Int) / 4503599627370496 != 0) = false := by rw [bne_eq_false_iff_eq]; omega
  have HR := Lib.hid hr
  clear he hx hsmall hr
  rcases hsx with ⟨rfl, hx⟩ | ⟨rfl, y, hy, hyn⟩
  all_goals
    go_enter Tryz.func291, Tryz.ntmps291
    go_wp2_with fail
    go_ret2
    exact ⟨_, _, rfl, (fun _ => ⟨HR.out.symm, HSM.out⟩), rfl⟩
set_option maxRecDepth 100000 in
set_option maxHeartbeats 2000000 in
theorem exact_none (d : Nat) (p : Int) (neg : Bool) (w : World) (hd : d < 4503599627370496) (hp : p < -22 ∨ 37 < p) (he : Env w) :
    Calls Tryz.prog 291 #[.int .u64 d, .int .i64 p, .bool neg] w (ExOut d p neg w) := by
  have h1 := he.info
  obtain ⟨x, hx⟩ : ∃ x, Fl.sx neg d = x := ⟨_, rfl⟩
  have hsx := signed_sx neg d
  rw [hx] at hsx
  have b1 : ((d : Int) / 4503599627370496 != 0) = false := by rw [bne_eq_false_iff_eq]; omega
  have b2 : (p == 0) = false := by rw [beq_eq_false_iff_ne]; omega
  clear he hx
  rcases hp with hp | hp
  all_goals
    rcases hsx with ⟨rfl, hx⟩ | ⟨rfl, y, hy, hyn⟩
    all_goals
      go_enter Tryz.func291, Tryz.ntmps291
      go_wp2_with fail
      go_ret2
      exact ⟨_, _, rfl, (fun h => by cases h), rfl⟩
set_option maxRecDepth 100000 in
set_option maxHeartbeats 2000000 in
theorem exact_mul2 (d j : Nat) (neg : Bool) (w : World) (hd : d < 4503599627370496) (hj : j ≤ 15) (hj0 : 0 < j) (he : Env w) :
    Calls Tryz.prog 291 #[.int .u64 d, .int .i64 (j + 22 : Nat), .bool neg] w (ExOut d (j + 22 : Nat) neg w) := by
  have h1 := he.info
  obtain ⟨a, cap, h2, h3, h4⟩ := he.f10
  have h5 := h4 j _ (Fl.f10_fin ⟨j, by omega⟩)
  have h52 := h4 22 _ (Fl.f10_fin ⟨22, by omega⟩)
  obtain ⟨y, hm1⟩ : ∃ y, Fl.D.mul (Fl.sx neg d) (Fl.fint ((10 ^ j : Nat) : Int)) = some y := ⟨_, Fl.mul_ten neg (d := d) (k := j) (by omega) (by omega)⟩
  have hnan : Fl.isNan y = false := Fl.mul_not_nan hm1
  obtain ⟨o1, ho1⟩ := Fl.order_some hnan (b := 4831355200913801216) (by decide)
  obtain ⟨o2, ho2⟩ := Fl.order_some hnan (b := 14054727237768577024) (by decide)
  have HSO := Lib.hid (fun (g1 : o1 ≠ .gt) (g2 : o2 ≠ .lt) => Fl.small_of_order neg hd hj hm1 (by rw [ho1]; intro e; exact g1 (Option.some.inj e)) (by rw [ho2]; intro e; exact g2 (Option.some.inj e)))
  have HM1 := Lib.hid hm1
  have ho1' : FloatKind.f64.format.order y 4831355200913801216 = some o1 := ho1
  have ho2' : FloatKind.f64.format.order y 14054727237768577024 = some o2 := ho2
  clear ho1 ho2
  have hsmall : d * 10 ^ j < 9007199254740992 → Fl.D.mul y (Fl.fint ((10 ^ 22 : Nat) : Int)) = some (Fl.D.word neg (Pl.rnd E74 (d, (j + 22 : Nat)))) := by
    intro h
    have := HM1.out
    rw [Fl.mul_exact neg (by omega) (by omega) h] at this
    have hy := Option.some.inj this
    rw [← hy, Fl.mul_ten neg h (by omega), rnd_pos, Nat.pow_add, Nat.mul_assoc d]
  have hlow : Pl.rnd E74 (d, ((j + 22 : Nat) : Int)) < 9218868437227405312 := by
    rw [rnd_pos]
    refine Fl.rung_small (Nat.lt_of_le_of_lt (Nat.mul_le_mul (Nat.le_of_lt hd) (Nat.pow_le_pow_right (by decide) (show j + 22 ≤ 37 by omega))) (by decide))
  have HLW := Lib.hid hlow
  obtain ⟨x, hx⟩ : ∃ x, Fl.sx neg d = x := ⟨_, rfl⟩
  have hsx := signed_sx neg d
  rw [hx] at hm1 hsx
  obtain ⟨r, hr⟩ : ∃ r, Fl.D.word neg (Pl.rnd E74 (d, ((j + 22 : Nat) : Int))) = r := ⟨_, rfl⟩
  rw [hr] at hsmall
  obtain ⟨q, hq⟩ : ∃ q, Fl.fint ((10 ^ j : Nat) : Int) = q := ⟨_, rfl⟩
  obtain ⟨q2, hq2⟩ : ∃ q2, Fl.fint ((10 ^ 22 : Nat) : Int) = q2 := ⟨_, rfl⟩
  rw [hq] at h5 hm1
  rw [hq2] at h52 hsmall
  have h52' : w.cell? ⟨a.block, a.off + 22, none⟩ = some (.float .f64 q2) := by simpa [Addr.add] using h52
  clear h52
  have h6 := fun (t : TypeId) (w : World) => run_float_arith (P := Tryz.prog) w .mul t .f64 x q y hm1
  have H7 := Lib.hid (fun (g1 : o1 ≠ .gt) (g2 : o2 ≠ .lt) (t : TypeId) (w : World) => run_float_arith (P := Tryz.prog) w .mul t .f64 y q2 r (hsmall (HSO.out g1 g2)))
  have b1 : ((d : Int) / 4503599627370496 != 0) = false := by rw [bne_eq_false_iff_eq]; omega
  obtain ⟨k, hk⟩ : ∃ k : Nat, j + 22 = k := ⟨_, rfl⟩
  have HK := Lib.hid (show (k : Int) - 22 = j by omega)
  rw [hk] at hr HLW ⊢
  have hk22 : 22 < k := by omega
  have hk37 : k ≤ 37 := by omega
  have hkj : (k : Int) - 22 = (j : Int) := by omega
  have b2 : ((k : Int) == 0) = false := by rw [beq_eq_false_iff_ne]; omega
  have HR := Lib.hid hr
  clear h4 hm1 he h3 hx hnan hsmall hlow hq hq2 hr HM1 HSO hk
  rcases hsx with ⟨rfl, hx⟩ | ⟨rfl, z, hy, hyn⟩
  all_goals
    cases o1 <;> cases o2
    all_goals
      first
        | (have h7 := H7.out (by decide) (by decide)
           clear H7)
        | clear H7
      go_enter Tryz.func291, Tryz.ntmps291
      go_wp2_with fail
      go_ret2
      first | exact ⟨_, _, rfl, (fun _ => ⟨HR.out.symm, HLW.out⟩), rfl⟩ | exact ⟨_, _, rfl, (fun h => by cases h), rfl⟩
end Go.Proofs.YtlodbibagmblkaaGreatDoor
