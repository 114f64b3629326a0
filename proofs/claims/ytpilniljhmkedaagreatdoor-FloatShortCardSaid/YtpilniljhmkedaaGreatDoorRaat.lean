/- What tells that the slow road's loops end: plain. A scope with labels that are jumped to: what holds at each, and a measure. RoundedInteger, walked. floatBits, walked: the shape alone. (Printed by gen_fbt.py.) The slow road of each text: a float, or too great a number. FloatRead: the walk, given the slow road. -/
import Derived.Test.YtpilniljhmkedaaGreatDoorRaas
import Derived.ScopeJumps
import Derived.WalkKit
import Derived.Test.YtpilniljhmkedaaGreatDoorRaap
import Derived.Deep.CutRange
import Derived.BigQuiet
import Derived.Test.YtpilniljhmkedaaGreatDoorRaar
namespace Go.Proofs.YtpilniljhmkedaaGreatDoor
open Go.RowKit Go.Lib
namespace Pl
theorem DIs.d0 {D : Dm} {N : Nat} (h : DIs D N) : D.d 0 = N / 10 ^ (D.nd - 1) + 48 ∧ 1 ≤ N / 10 ^ (D.nd - 1) ∧ N / 10 ^ (D.nd - 1) ≤ 9 := by
  have hp := h.pos
  have p0 : 0 < 10 ^ (D.nd - 1) := Nat.pow_pos (by decide)
  have h1 : 1 ≤ N / 10 ^ (D.nd - 1) := (Nat.le_div_iff_mul_le p0).2 (by rw [Nat.one_mul]; exact h.lo)
  have h2 : N / 10 ^ (D.nd - 1) < 10 := by
    rw [Nat.div_lt_iff_lt_mul p0, Nat.mul_comm, ← Nat.pow_succ, show (D.nd - 1).succ = D.nd by omega]; exact h.hi
  refine ⟨?_, h1, by omega⟩
  rw [h.dig 0 hp, Nat.sub_zero, Nat.mod_eq_of_lt h2]
/-- ten times the place and the first digit -/
def mz (D : Dm) : Int := 10 * D.dp + D.d 0 - 48
theorem mz_is {D : Dm} {N : Nat} (h : DIs D N) : 10 * D.dp + 1 ≤ mz D ∧ mz D ≤ 10 * D.dp + 9 := by
  obtain ⟨h1, h2, h3⟩ := h.d0
  unfold mz; rw [h1]; omega
end Pl
theorem Rsh.falls {D D' : Dm} {N k r N' : Nat} (h : Rsh D N k D' r N') (hD : Pl.DIs D N) (hk : 1 ≤ k) : Pl.mz D' + 1 ≤ Pl.mz D := by
  obtain ⟨a1, a2, a3⟩ := hD.d0
  obtain ⟨b1, b2, b3⟩ := h.is.d0
  have hr := h.r1
  have hdp := h.dp
  have hp := h.is.pos
  have hp1 := hD.pos
  rcases Nat.lt_or_ge 1 r with h1 | h1
  · unfold Pl.mz; rw [a1, b1]; omega
  · obtain rfl : r = 1 := by omega
    have e1 : Pl.ap N D.nd 1 = N / 10 ^ (D.nd - 1) := Pl.ap_low hp1
    have hv := h.val
    have e2 : N' / 10 ^ (D'.nd - 1) = N / 10 ^ (D.nd - 1) / 2 ^ k := by
      rw [hv, Nat.div_div_eq_div_mul, Nat.mul_comm, ← Nat.div_div_eq_div_mul, show 1 + D'.nd - 1 = 1 + (D'.nd - 1) by omega, Pl.ap_div, e1]
    have e3 : N / 10 ^ (D.nd - 1) / 2 ^ k < N / 10 ^ (D.nd - 1) := Nat.div_lt_self (by omega) (Nat.one_lt_two_pow (by omega))
    unfold Pl.mz; rw [a1, b1, e2]; omega
theorem Lsh.e19 {D D' : Dm} {N k E N' : Nat} (h : Lsh D N k D' E N') (hD : Pl.DIs D N) (hk : k ≤ 60) : E ≤ 19 := by
  rcases Nat.lt_or_ge 19 E with hE | hE
  · exfalso
    have hp1 := hD.pos
    have h1 := h.lo
    have h2 := hD.hi
    have e1 : 10 ^ (D.nd - 1 + E) = 10 ^ D.nd * 10 ^ (E - 1) := by rw [← Nat.pow_add]; congr 1; omega
    rw [e1] at h1
    have h3 : 10 ^ 19 ≤ 10 ^ (E - 1) := Nat.pow_le_pow_right (by decide) (by omega)
    have h4 : 2 ^ k ≤ 2 ^ 60 := Nat.pow_le_pow_right (by decide) hk
    have h5 : (2 : Nat) ^ 60 < 10 ^ 19 := by decide
    have h6 : N * 2 ^ k < 10 ^ D.nd * 10 ^ (E - 1) := Nat.lt_of_lt_of_le (Nat.mul_lt_mul_of_pos_right h2 (Nat.two_pow_pos k)) (Nat.mul_le_mul_left _ (by omega))
    omega
  · exact hE
theorem Lsh.rises {D D' : Dm} {N k E N' : Nat} (h : Lsh D N k D' E N') (hD : Pl.DIs D N) (hk : 1 ≤ k) : Pl.mz D + 1 ≤ Pl.mz D' := by
  obtain ⟨a1, a2, a3⟩ := hD.d0
  obtain ⟨b1, b2, b3⟩ := h.is.d0
  have hdp := h.dp
  have hp := h.is.pos
  have hp1 := hD.pos
  rcases Nat.eq_zero_or_pos E with h0 | h0
  · subst h0
    have hv := h.val
    have hle := h.le
    have e2 : N' / 10 ^ (D'.nd - 1) = N * 2 ^ k / 10 ^ (D.nd - 1) := by
      rw [hv, Nat.div_div_eq_div_mul, ← Nat.pow_add]; congr 2; omega
    have e3 : N / 10 ^ (D.nd - 1) * 2 ≤ N * 2 ^ k / 10 ^ (D.nd - 1) := by
      rw [Nat.le_div_iff_mul_le (Nat.pow_pos (by decide))]
      have h1 : 2 ^ 1 ≤ 2 ^ k := Nat.pow_le_pow_right (by decide) hk
      calc N / 10 ^ (D.nd - 1) * 2 * 10 ^ (D.nd - 1) = N / 10 ^ (D.nd - 1) * 10 ^ (D.nd - 1) * 2 := by ac_rfl
        _ ≤ N * 2 ^ k := Nat.mul_le_mul (Nat.div_mul_le_self _ _) h1
    unfold Pl.mz; rw [a1, b1, e2]; omega
  · unfold Pl.mz; rw [a1, b1]; omega
theorem ptab_in : ∀ i : Fin 9, ∃ x, Pl.ptab[i.val]? = some x ∧ 1 ≤ x ∧ x ≤ 27 := by decide
def mzOf (w : World) (P : Nat) : Int := match w.cell? ⟨P, 801, none⟩, w.cell? ⟨P, 0, none⟩ with | some (.int _ a), some (.int _ b) => 10 * a + b - 48 | _, _ => 0
theorem Has.mzOf {w : World} {P : Nat} {D : Dm} (h : Has w P D) : mzOf w P = Pl.mz D := by unfold Go.Proofs.YtpilniljhmkedaaGreatDoor.mzOf Pl.mz; rw [h.dp, h.dig 0 (by decide)]
end Go.Proofs.YtpilniljhmkedaaGreatDoor
namespace Go.Proofs.YtpilniljhmkedaaGreatDoor
open Go
/-- by a goto to label l: J l; else as Q -/
def jumps (J : Nat → Act → World → Prop) (Q : Exit → Act → World → Prop) : Exit → Act → World → Prop
  | .goto l, a, w => J l a w
  | e, a, w => Q e a w
theorem wp_scope_all {P : Program} {a : Act} {w : World} {Q : Exit → Act → World → Prop} {c : Code} (J : Nat → Act → World → Prop) (μ : Nat → Nat) (first : c.wp P (jumps J Q) a w)
    (pass : ∀ l a w, J l a w → ∃ rest, findLabel c l = some rest ∧ rest.wp P (jumps (fun l' a' w' => J l' a' w' ∧ μ l' < μ l) Q) a w) : (Code.scope c).wp P Q a w := by
  intro b k cs
  have key : ∀ n l a w, μ l = n → J l a w → ∃ rest, gotoIn l (.inScope c :: k) = some (.code rest :: .inScope c :: k) ∧ ∃ e a' w', Q e a' w' ∧ Arrives P (lone (b.at a (.code rest :: .inScope c :: k)) cs w) b k cs e a' w' := by
    intro n
    induction n using Nat.strongRecOn with
    | _ n ih =>
      intro l a w hn hJ
      obtain ⟨rest, hf, hp⟩ := pass l a w hJ
      refine ⟨rest, by simp [gotoIn, hf], ?_⟩
      obtain ⟨e, a₁, w₁, hq, harr⟩ := hp b (.inScope c :: k) cs
      cases e with
      | normal => exact ⟨.normal, a₁, w₁, hq, Steps.trans harr (.one step_inScope)⟩
      | exit id => exact ⟨.exit id, a₁, w₁, hq, fun k' hk => harr k' (by simp [exitTo, hk])⟩
      | goto l' =>
        obtain ⟨hJ', hlt⟩ := hq
        obtain ⟨rest', hg, e₂, a₂, w₂, hq₂, harr₂⟩ := ih _ (by omega) l' a₁ w₁ rfl hJ'
        exact ⟨e₂, a₂, w₂, hq₂, .of_steps (harr _ hg) harr₂⟩
      | ret => exact ⟨_, a₁, w₁, hq, harr⟩
      | panic ch => exact ⟨_, a₁, w₁, hq, harr⟩
      | outgrown => exact ⟨_, a₁, w₁, hq, harr⟩
  obtain ⟨e, a₁, w₁, hq, harr⟩ := first b (.inScope c :: k) cs
  cases e with
  | normal => exact ⟨.normal, a₁, w₁, hq, .head step_scope (Steps.trans harr (.one step_inScope))⟩
  | exit id => exact ⟨.exit id, a₁, w₁, hq, fun k' hk => .head step_scope (harr k' (by simp [exitTo, hk]))⟩
  | goto l' =>
    obtain ⟨rest, hg, e₂, a₂, w₂, hq₂, harr₂⟩ := key _ l' a₁ w₁ rfl hq
    exact ⟨e₂, a₂, w₂, hq₂, .of_steps (.head step_scope (harr _ hg)) harr₂⟩
  | ret => exact ⟨_, a₁, w₁, hq, .of_steps (.one step_scope) harr⟩
  | panic ch => exact ⟨_, a₁, w₁, hq, .of_steps (.one step_scope) harr⟩
  | outgrown => exact ⟨_, a₁, w₁, hq, .of_steps (.one step_scope) harr⟩
end Go.Proofs.YtpilniljhmkedaaGreatDoor
namespace Go.Proofs.YtpilniljhmkedaaGreatDoor
open Go.RowKit Go.Lib
theorem rin_big (P : Nat) (D : Dm) (w : World) (hp : 20 < D.dp) (h : Has w P D) : Calls Tryz.prog 174 #[.pointer (some ⟨P, 0, none⟩)] w fun e w' => e = .returned (.int .u64 18446744073709551615) ∧ w' = w := by
  have c1 := h.dp
  have f1 : decide ((20 : Int) < D.dp) = true := decide_eq_true hp
  clear h
  go_enter Tryz.func174, Tryz.ntmps174
  go_wp2_with fail
  go_ret
  exact ⟨rfl, rfl⟩
set_option maxRecDepth 100000 in
set_option maxHeartbeats 4000000 in
theorem rin_low (P : Nat) (D : Dm) (w : World) (hp : D.dp < 0) (h : Has w P D) : Calls Tryz.prog 174 #[.pointer (some ⟨P, 0, none⟩)] w fun e w' => e = .returned (.int .u64 0) ∧ w' = w := by
  have c1 := h.dp
  have f1 : decide ((20 : Int) < D.dp) = false := decide_eq_false (by omega)
  have f2 : decide ((0 : Int) < D.dp) = false := decide_eq_false (by omega)
  have HC := Lib.hid (sru_low P D D.dp w hp h)
  clear h
  go_enter Tryz.func174, Tryz.ntmps174
  go_wp2_with fail
  go_loopw [3, 4] (fun a b wr => a = .int .i64 0 ∧ b = .int .u64 0 ∧ wr = w) (fun _ _ _ => 0)
  case atStart => exact ⟨rfl, rfl, rfl⟩
  case round =>
    obtain ⟨rfl, rfl, rfl⟩ := hrel
    go_wp2_with fail
    go_loopw [3, 4] (fun a b wr2 => a = .int .i64 0 ∧ b = .int .u64 0 ∧ wr2 = wr) (fun _ _ _ => 0)
    case atStart => exact ⟨rfl, rfl, rfl⟩
    case round =>
      obtain ⟨rfl, rfl, rfl⟩ := hrel
      go_wp2_with fail
      refine HC.out.mono ?_
      rintro e w' ⟨rfl, rfl⟩
      go_wp2_with fail
      go_ret
      exact ⟨rfl, rfl⟩
theorem w64 (n : Nat) : IntKind.u64.wrap (n : Int) = ((n % 18446744073709551616 : Nat) : Int) := by
  unfold IntKind.wrap; simp [IntKind.bits, IntKind.signed]
/-- one more where the rest says so -/
def Dm.one (D : Dm) (p : Nat) : Bool := if p < D.nd then D.up p else false
set_option maxRecDepth 100000 in
set_option maxHeartbeats 4000000 in
theorem rin_in (P N p : Nat) (D : Dm) (w : World) (hD : Pl.DIs D N) (hp : D.dp = p) (hp2 : p ≤ 20) (h : Has w P D) : Calls Tryz.prog 174 #[.pointer (some ⟨P, 0, none⟩)] w fun e w' => e = .returned (.int .u64 ((Pl.ap N D.nd p + (if D.one p = true then 1 else 0)) % 18446744073709551616 : Nat)) ∧ w' = w := by
  have hle := hD.le
  have hA0 : Pl.ap N D.nd 0 = 0 := Pl.ap_zero hD.hi
  have c1 := h.dp
  have c2 := h.nd
  rw [hp] at c1
  have f1 : decide ((20 : Int) < (p : Int)) = false := decide_eq_false (by omega)
  have HC := Lib.hid (show Calls Tryz.prog 161 #[.pointer (some ⟨P, 0, none⟩), .int .i64 (p : Int)] w fun e w' => e = .returned (.bool (D.one p)) ∧ w' = w from by
    unfold Dm.one
    split
    · exact sru_in P D N p w hD (by assumption) h
    · exact sru_out P D p w (by omega) h)
  have HH := Lib.hid h
  have HD := Lib.hid hD
  generalize D.one p = up at HC ⊢
  obtain ⟨R, hR⟩ : ∃ R, R = (Pl.ap N D.nd p + (if up = true then 1 else 0)) % 18446744073709551616 := ⟨_, rfl⟩
  rw [← hR]
  have HR := Lib.hid hR
  clear hR
  clear h hD hp
  go_enter Tryz.func174, Tryz.ntmps174
  go_wp2_with fail
  go_loopw [3, 4] (fun a b wr => ∃ i : Nat, i ≤ p ∧ i ≤ D.nd ∧ a = .int .i64 (i : Int) ∧ b = .int .u64 (Pl.ap N D.nd i % 18446744073709551616 : Nat) ∧ wr = w) (fun a _ _ => p - (RowKit.intOf a).toNat)
  case atStart => exact ⟨0, by omega, by omega, rfl, by rw [hA0]; rfl, rfl⟩
  case round =>
    obtain ⟨i, hi1, hi2, rfl, rfl, rfl⟩ := hrel
    by_cases h1 : i < p
    · have f2 : decide ((i : Int) < (p : Int)) = true := decide_eq_true (by omega)
      by_cases h2 : i < D.nd
      · have f3 : decide ((i : Int) < (D.nd : Int)) = true := decide_eq_true (by omega)
        have f4 : (0 : Int) ≤ (i : Int) := by omega
        have f5 : (i : Int) < 800 := by omega
        have c3 := HH.out.dig i (by omega)
        rw [HD.out.dig i h2] at c3
        have hdl : N / 10 ^ (D.nd - 1 - i) % 10 < 10 := Nat.mod_lt _ (by omega)
        have HN := Lib.hid (Pl.ap_in (N := N) (nd := D.nd) (q := i) h2)
        generalize N / 10 ^ (D.nd - 1 - i) % 10 = dj at c3 hdl HN
        generalize Pl.ap N D.nd i = A at HN ⊢
        obtain ⟨v, hv⟩ : ∃ v, v = A % 18446744073709551616 := ⟨_, rfl⟩
        rw [← hv]
        obtain ⟨x, hx⟩ : ∃ x, x = v * 10 % 18446744073709551616 := ⟨_, rfl⟩
        obtain ⟨y, hy⟩ : ∃ y, y = (x + dj) % 18446744073709551616 := ⟨_, rfl⟩
        have g1 : IntKind.u64.wrap ((v : Int) * 10) = (x : Int) := by rw [hx, ← w64]; push_cast; rfl
        have g2 : IntKind.u64.wrap ((x : Int) + (dj : Int)) = (y : Int) := by rw [hy, ← w64]; push_cast; rfl
        have HY := Lib.hid (show y = Pl.ap N D.nd (i + 1) % 18446744073709551616 by rw [HN.out]; omega)
        clear hv hx hy
        go_wp2_with fail
        go_roundw
        case rel => exact ⟨i + 1, by omega, by omega, by go_num, by rw [HY.out], by first | rfl | trivial⟩
        case measure => simp [RowKit.intOf]; omega
      · have f3 : decide ((i : Int) < (D.nd : Int)) = false := decide_eq_false (by omega)
        go_wp2_with fail
        obtain ⟨wo, hwo⟩ : ∃ x, x = wr := ⟨wr, rfl⟩
        subst hwo
        go_loopw [3, 4] (fun a b wr => ∃ i : Nat, i ≤ p ∧ (i = p ∨ D.nd ≤ i) ∧ a = .int .i64 (i : Int) ∧ b = .int .u64 (Pl.ap N D.nd i % 18446744073709551616 : Nat) ∧ wr = wo) (fun a _ _ => p - (RowKit.intOf a).toNat)
        case atStart => exact ⟨i, by omega, by omega, rfl, rfl, rfl⟩
        case round =>
          obtain ⟨i, hi1, hi2, rfl, rfl, rfl⟩ := hrel
          by_cases h1 : i < p
          · have f2 : decide ((i : Int) < (p : Int)) = true := decide_eq_true (by omega)
            have HN := Lib.hid (Pl.ap_out (N := N) (nd := D.nd) (q := i) (by omega))
            generalize Pl.ap N D.nd i = A at HN ⊢
            obtain ⟨v, hv⟩ : ∃ v, v = A % 18446744073709551616 := ⟨_, rfl⟩
            rw [← hv]
            obtain ⟨x, hx⟩ : ∃ x, x = v * 10 % 18446744073709551616 := ⟨_, rfl⟩
            have g1 : IntKind.u64.wrap ((v : Int) * 10) = (x : Int) := by rw [hx, ← w64]; push_cast; rfl
            have HY := Lib.hid (show x = Pl.ap N D.nd (i + 1) % 18446744073709551616 by rw [HN.out]; omega)
            clear hv hx
            go_wp2_with fail
            go_roundw
            case rel => exact ⟨i + 1, by omega, by omega, by go_num, by rw [HY.out], by first | rfl | trivial⟩
            case measure => simp [RowKit.intOf]; omega
          · obtain rfl : i = p := by omega
            have f2 : decide ((i : Int) < (i : Int)) = false := decide_eq_false (by omega)
            generalize Pl.ap N D.nd i = A at HR ⊢
            cases up with
            | true =>
              obtain ⟨v, hv⟩ : ∃ v, v = A % 18446744073709551616 := ⟨_, rfl⟩
              rw [← hv]
              obtain ⟨x, hx⟩ : ∃ x, x = (v + 1) % 18446744073709551616 := ⟨_, rfl⟩
              have g1 : IntKind.u64.wrap ((v : Int) + 1) = (x : Int) := by rw [hx, ← w64]; push_cast; rfl
              have HY := Lib.hid (show R = x by rw [HR.out, if_pos rfl]; omega)
              clear hv hx
              go_wp2_with fail
              refine HC.out.mono ?_
              rintro e w' ⟨rfl, rfl⟩
              go_wp2_with fail
              go_ret
              exact ⟨by rw [HY.out]; rfl, rfl⟩
            | false =>
              have HY := Lib.hid (show R = A % 18446744073709551616 by rw [HR.out, if_neg (by decide), Nat.add_zero])
              generalize A % 18446744073709551616 = v at HY ⊢
              go_wp2_with fail
              refine HC.out.mono ?_
              rintro e w' ⟨rfl, rfl⟩
              go_wp2_with fail
              go_ret
              exact ⟨by rw [HY.out]; rfl, rfl⟩
    · obtain rfl : i = p := by omega
      have f2 : decide ((i : Int) < (i : Int)) = false := decide_eq_false (by omega)
      clear h1
      go_wp2_with fail
      obtain ⟨wo, hwo⟩ : ∃ x, x = wr := ⟨wr, rfl⟩
      subst hwo
      go_loopw [3, 4] (fun a b wr => a = .int .i64 (i : Int) ∧ b = .int .u64 (Pl.ap N D.nd i % 18446744073709551616 : Nat) ∧ wr = wo) (fun _ _ _ => 0)
      case atStart => exact ⟨rfl, rfl, rfl⟩
      case round =>
        obtain ⟨rfl, rfl, rfl⟩ := hrel
        generalize Pl.ap N D.nd i = A at HR ⊢
        cases up with
        | true =>
          obtain ⟨v, hv⟩ : ∃ v, v = A % 18446744073709551616 := ⟨_, rfl⟩
          rw [← hv]
          obtain ⟨x, hx⟩ : ∃ x, x = (v + 1) % 18446744073709551616 := ⟨_, rfl⟩
          have g1 : IntKind.u64.wrap ((v : Int) + 1) = (x : Int) := by rw [hx, ← w64]; push_cast; rfl
          have HY := Lib.hid (show R = x by rw [HR.out, if_pos rfl]; omega)
          clear hv hx
          go_wp2_with fail
          refine HC.out.mono ?_
          rintro e w' ⟨rfl, rfl⟩
          go_wp2_with fail
          go_ret
          exact ⟨by rw [HY.out]; rfl, rfl⟩
        | false =>
          have HY := Lib.hid (show R = A % 18446744073709551616 by rw [HR.out, if_neg (by decide), Nat.add_zero])
          generalize A % 18446744073709551616 = v at HY ⊢
          go_wp2_with fail
          refine HC.out.mono ?_
          rintro e w' ⟨rfl, rfl⟩
          go_wp2_with fail
          go_ret
          exact ⟨by rw [HY.out]; rfl, rfl⟩
end Go.Proofs.YtpilniljhmkedaaGreatDoor
namespace Go.Proofs.YtpilniljhmkedaaGreatDoor
open Go Go.RowKit Go.Lib
set_option maxRecDepth 100000 in
theorem frame243 (t : Array Value) (h : t.size = 243) : ∃ f : Nat → Value, t = #[f 0, f 1, f 2, f 3, f 4, f 5, f 6, f 7, f 8, f 9, f 10, f 11, f 12, f 13, f 14, f 15, f 16, f 17, f 18, f 19, f 20, f 21, f 22, f 23, f 24, f 25, f 26, f 27, f 28, f 29, f 30, f 31, f 32, f 33, f 34, f 35, f 36, f 37, f 38, f 39, f 40, f 41, f 42, f 43, f 44, f 45, f 46, f 47, f 48, f 49, f 50, f 51, f 52, f 53, f 54, f 55, f 56, f 57, f 58, f 59, f 60, f 61, f 62, f 63, f 64, f 65, f 66, f 67, f 68, f 69, f 70, f 71, f 72, f 73, f 74, f 75, f 76, f 77, f 78, f 79, f 80, f 81, f 82, f 83, f 84, f 85, f 86, f 87, f 88, f 89, f 90, f 91, f 92, f 93, f 94, f 95, f 96, f 97, f 98, f 99, f 100, f 101, f 102, f 103, f 104, f 105, f 106, f 107, f 108, f 109, f 110, f 111, f 112, f 113, f 114, f 115, f 116, f 117, f 118, f 119, f 120, f 121, f 122, f 123, f 124, f 125, f 126, f 127, f 128, f 129, f 130, f 131, f 132, f 133, f 134, f 135, f 136, f 137, f 138, f 139, f 140, f 141, f 142, f 143, f 144, f 145, f 146, f 147, f 148, f 149, f 150, f 151, f 152, f 153, f 154, f 155, f 156, f 157, f 158, f 159, f 160, f 161, f 162, f 163, f 164, f 165, f 166, f 167, f 168, f 169, f 170, f 171, f 172, f 173, f 174, f 175, f 176, f 177, f 178, f 179, f 180, f 181, f 182, f 183, f 184, f 185, f 186, f 187, f 188, f 189, f 190, f 191, f 192, f 193, f 194, f 195, f 196, f 197, f 198, f 199, f 200, f 201, f 202, f 203, f 204, f 205, f 206, f 207, f 208, f 209, f 210, f 211, f 212, f 213, f 214, f 215, f 216, f 217, f 218, f 219, f 220, f 221, f 222, f 223, f 224, f 225, f 226, f 227, f 228, f 229, f 230, f 231, f 232, f 233, f 234, f 235, f 236, f 237, f 238, f 239, f 240, f 241, f 242] := by
  refine ⟨fun i => t.toList.getD i undef, ?_⟩
  have h1 : t.toList = (List.range t.toList.length).map fun i => t.toList.getD i undef := by
    apply List.ext_getElem
    · simp
    · intro i h1 h2
      simp [List.getD_eq_getElem?_getD]
      rw [Array.getElem?_eq_getElem (by simpa using h1)]; rfl
  have hl : t.toList.length = 243 := by simpa using h
  rw [hl] at h1
  have h2 : ∀ f : Nat → Value, (List.range 243).map f = [f 0, f 1, f 2, f 3, f 4, f 5, f 6, f 7, f 8, f 9, f 10, f 11, f 12, f 13, f 14, f 15, f 16, f 17, f 18, f 19, f 20, f 21, f 22, f 23, f 24, f 25, f 26, f 27, f 28, f 29, f 30, f 31, f 32, f 33, f 34, f 35, f 36, f 37, f 38, f 39, f 40, f 41, f 42, f 43, f 44, f 45, f 46, f 47, f 48, f 49, f 50, f 51, f 52, f 53, f 54, f 55, f 56, f 57, f 58, f 59, f 60, f 61, f 62, f 63, f 64, f 65, f 66, f 67, f 68, f 69, f 70, f 71, f 72, f 73, f 74, f 75, f 76, f 77, f 78, f 79, f 80, f 81, f 82, f 83, f 84, f 85, f 86, f 87, f 88, f 89, f 90, f 91, f 92, f 93, f 94, f 95, f 96, f 97, f 98, f 99, f 100, f 101, f 102, f 103, f 104, f 105, f 106, f 107, f 108, f 109, f 110, f 111, f 112, f 113, f 114, f 115, f 116, f 117, f 118, f 119, f 120, f 121, f 122, f 123, f 124, f 125, f 126, f 127, f 128, f 129, f 130, f 131, f 132, f 133, f 134, f 135, f 136, f 137, f 138, f 139, f 140, f 141, f 142, f 143, f 144, f 145, f 146, f 147, f 148, f 149, f 150, f 151, f 152, f 153, f 154, f 155, f 156, f 157, f 158, f 159, f 160, f 161, f 162, f 163, f 164, f 165, f 166, f 167, f 168, f 169, f 170, f 171, f 172, f 173, f 174, f 175, f 176, f 177, f 178, f 179, f 180, f 181, f 182, f 183, f 184, f 185, f 186, f 187, f 188, f 189, f 190, f 191, f 192, f 193, f 194, f 195, f 196, f 197, f 198, f 199, f 200, f 201, f 202, f 203, f 204, f 205, f 206, f 207, f 208, f 209, f 210, f 211, f 212, f 213, f 214, f 215, f 216, f 217, f 218, f 219, f 220, f 221, f 222, f 223, f 224, f 225, f 226, f 227, f 228, f 229, f 230, f 231, f 232, f 233, f 234, f 235, f 236, f 237, f 238, f 239, f 240, f 241, f 242] := fun _ => rfl
  rw [h2] at h1
  apply Array.toList_inj.1
  exact h1
theorem addr0 (a : Addr) : a.add 0 = a := by cases a; unfold Addr.add; split <;> simp_all
theorem rin_any (P N : Nat) (D : Dm) (w : World) (hD : Pl.DIs D N) (h : Has w P D) : Calls Tryz.prog 174 #[.pointer (some ⟨P, 0, none⟩)] w fun e w' => (∃ M : Nat, e = .returned (.int .u64 (M : Nat)) ∧ M < 18446744073709551616) ∧ w' = w := by
  by_cases h1 : 20 < D.dp
  · exact (rin_big P D w h1 h).mono fun e w' ⟨a, b⟩ => ⟨⟨18446744073709551615, a, by decide⟩, b⟩
  · by_cases h2 : D.dp < 0
    · exact (rin_low P D w h2 h).mono fun e w' ⟨a, b⟩ => ⟨⟨0, a, by decide⟩, b⟩
    · exact (rin_in P N D.dp.toNat D w hD (by omega) (by omega) h).mono fun e w' ⟨a, b⟩ => ⟨⟨_, a, Nat.mod_lt _ (by decide)⟩, b⟩
/-- at the labels: 1 is too great, 0 is the end -/
def FbJ (P : Nat) (w : World) (l : Nat) (a : Act) (w' : World) : Prop :=
  a.defers = [] ∧ a.tmps.size = 243 ∧ a.tmps[0]? = some (.pointer (some ⟨P, 0, none⟩)) ∧ a.tmps[1]? = some (.pointer (some ⟨8, 0, none⟩)) ∧ Below P w w' ∧ (∃ ng, w'.cell? ⟨P, 802, none⟩ = some (.bool ng)) ∧
    (l = 1 ∨ (l = 0 ∧ ∃ (o : Bool) (E : Int) (M : Nat), a.tmps[5]? = some (.bool o) ∧ a.tmps[6]? = some (.int .i64 E) ∧ a.tmps[7]? = some (.int .u64 (M : Nat)) ∧ M < 18446744073709551616 ∧ ((o = false ∧ -1023 ≤ E ∧ E ≤ 1023) ∨ (o = true ∧ E = 1024))))
def FbOut (P : Nat) (w1 : World) (e : Ending) (w2 : World) : Prop := ∃ (b : Nat) (o : Bool), e = .returned (.tuple #[.int .u64 b, .bool o]) ∧ b < 18446744073709551616 ∧ (o = false → b % 9223372036854775808 < 9218868437227405312) ∧ Below P w1 w2
set_option maxRecDepth 100000 in
set_option maxHeartbeats 4000000 in
theorem floatBits_any (P N : Nat) (D : Dm) (w : World) (hD : Pl.DIs D N) (hp1 : -200000 ≤ D.dp) (hp2 : D.dp ≤ 200000) (ht : Tbs w P) (h : Has w P D) :
    Calls Tryz.prog 138 #[.pointer (some ⟨P, 0, none⟩), .pointer (some ⟨8, 0, none⟩)] w (FbOut P w) := by
  have HT := Lib.hid ht
  have HH := Lib.hid h
  have HD := Lib.hid hD
  have c1 := h.nd
  have c2 := h.dp
  have hnp := hD.pos
  have f1 : ((D.nd : Int) == 0) = false := by rw [beq_eq_false_iff_ne]; omega
  have j0 := ht.info
  have j1 := ht.info1
  have j2 := ht.info2
  clear ht h
  go_enter Tryz.func138, Tryz.ntmps138
  refine wp_seq_k (fun K hK => ?_)
  have HK := Lib.hid hK
  clear hK
  go_wp2_with fail
  refine HK.out _ _ ?_
  clear HK
  refine wp_scope_all (FbJ P w) id ?first ?pass
  case pass =>
    rintro l ⟨tm, df⟩ w' ⟨hdf, hts, ht0, ht1, hB, ⟨ng, hng⟩, hl⟩
    obtain ⟨f, rfl⟩ := frame243 tm hts
    obtain rfl : df = [] := hdf
    have e0 : f 0 = _ := Option.some.inj ht0
    have e1 : f 1 = _ := Option.some.inj ht1
    have i0 := (HT.out.below hB).info
    have i1 := (HT.out.below hB).info1
    have i2 := (HT.out.below hB).info2
    have HB := Lib.hid hB
    clear ht0 ht1 hts c1 c2 hB f1 j0 j1 j2
    rcases hl with rfl | ⟨rfl, o, E, M, h5, h6, h7, hM, hE⟩
    · refine ⟨_, rfl, ?_⟩
      rw [e0, e1]
      clear e0 e1
      go_wp2_with fail
      have g1 : bits .and .u64 0 4503599627370495 = 0 := by decide
      have g2 : bits .and .i64 2047 2047 = 2047 := by decide
      have g3 : bits .or .u64 0 9218868437227405312 = 9218868437227405312 := by decide
      have g4 : bits .or .u64 9218868437227405312 9223372036854775808 = 18442240474082181120 := by decide
      go_quiet (fail)
      go_wp2_with fail
      go_step3
      have HB2 := Lib.hid (below_drewN HB.out nq)
      have i0' : (w'.drewN nq).cell? ⟨8, 0, none⟩ = some (.int .u64 52) := i0
      have i1' : (w'.drewN nq).cell? ⟨8, 1, none⟩ = some (.int .u64 11) := i1
      have i2' : (w'.drewN nq).cell? ⟨8, 2, none⟩ = some (.int .i64 (-1023)) := i2
      have hng' : (w'.drewN nq).cell? ⟨P, 802, none⟩ = some (.bool ng) := hng
      generalize w'.drewN nq = w2 at HB2 i0' i1' i2' hng' ⊢
      clear i0 i1 i2 hng HB
      cases ng
      · go_wp2_with fail
        go_quiet (fail)
        go_wp2_with fail
        change bodyPost _ _ _ Exit.ret _ _
        go_ret2
        exact ⟨9218868437227405312, true, rfl, by decide, (fun h => absurd h (by decide)), below_drewN HB2.out _⟩
      · go_wp2_with fail
        go_quiet (fail)
        go_wp2_with fail
        go_quiet (fail)
        go_wp2_with fail
        change bodyPost _ _ _ Exit.ret _ _
        go_ret2
        exact ⟨18442240474082181120, true, rfl, by decide, (fun h => absurd h (by decide)), below_drewN (below_drewN HB2.out _) _⟩
    · have e5 : f 5 = _ := Option.some.inj h5
      have e6 : f 6 = _ := Option.some.inj h6
      have e7 : f 7 = _ := Option.some.inj h7
      refine ⟨_, rfl, ?_⟩
      rw [e0, e1, e5, e6, e7]
      clear e0 e1 e5 e6 e7 h5 h6 h7
      obtain ⟨F, hF⟩ : ∃ F : Nat, E + 1023 = (F : Int) := ⟨(E + 1023).toNat, by rcases hE with h | h <;> omega⟩
      have hF2 : F ≤ 2047 := by rcases hE with h | h <;> omega
      have hE1 : -1023 ≤ E := by rcases hE with h | h <;> omega
      have hE2 : E ≤ 1024 := by rcases hE with h | h <;> omega
      have HF := Lib.hid (show o = false → F ≤ 2046 by intro ho; rcases hE with h | h <;> first | omega | (rw [ho] at h; exact absurd h.1 (by decide)))
      have g1 : bits .and .u64 (M : Int) 4503599627370495 = ((M % 4503599627370496 : Nat) : Int) := bits_low (k := 52) hM (by decide)
      have g2 : bits .and .i64 (E + 1023) 2047 = (F : Int) := by
        rw [hF]
        have := bits_lowi (a := F) (k := 11) (by omega) (by decide)
        rw [show F % 2 ^ 11 = F from Nat.mod_eq_of_lt (by omega)] at this
        exact this
      have hm : M % 4503599627370496 < 4503599627370496 := Nat.mod_lt _ (by decide)
      generalize M % 4503599627370496 = m at g1 hm
      have g3 : IntKind.u64.wrap (F : Int) = (F : Int) := IntWalk.u64_in _ (by omega)
      have g4 : IntKind.u64.wrap ((F : Int) * 4503599627370496) = ((F * 4503599627370496 : Nat) : Int) := by rw [show (F : Int) * 4503599627370496 = ((F * 4503599627370496 : Nat) : Int) by rw [Int.natCast_mul]; rfl]; exact IntWalk.u64_in _ (by omega)
      obtain ⟨b, hb⟩ : ∃ b, F * 4503599627370496 + m = b := ⟨_, rfl⟩
      have g5 : bits .or .u64 (m : Int) ((F * 4503599627370496 : Nat) : Int) = (b : Int) := by
        rw [Go.u64_or_nat _ _ (by omega) (by omega), Nat.or_comm, ← hb]
        have := Nat.two_pow_add_eq_or_of_lt (i := 52) (b := m) hm F
        rw [show F * 4503599627370496 = 2 ^ 52 * F by rw [Nat.mul_comm]]
        rw [this]
      have HB63 := Lib.hid (show (o = false → b < 9218868437227405312) ∧ b < 9223372036854775808 by
        refine ⟨fun ho => ?_, by omega⟩
        have := HF.out ho
        omega)
      have g6 : bits .or .u64 (b : Int) 9223372036854775808 = ((9223372036854775808 + b : Nat) : Int) := by
        have h1 := HB63.out.2
        have h2 := Go.u64_or_nat b 9223372036854775808 (by omega) (by decide)
        have h3 := Nat.two_pow_add_eq_or_of_lt (i := 63) (b := b) h1 1
        rw [Nat.mul_one, show (2 : Nat) ^ 63 = 9223372036854775808 from rfl] at h3
        rw [h3, Nat.or_comm]
        exact h2
      generalize F * 4503599627370496 = fs at g4 g5 hb
      clear hb hF hE hm
      go_wp2_with fail
      go_quiet (fail)
      cases ng
      · go_wp2_with fail
        change bodyPost _ _ _ Exit.ret _ _
        go_ret2
        exact ⟨b, o, rfl, by have := HB63.out.2; omega, fun ho => by have := HB63.out.1 ho; omega, below_drewN HB.out _⟩
      · go_wp2_with fail
        go_quiet (fail)
        go_wp2_with fail
        change bodyPost _ _ _ Exit.ret _ _
        go_ret2
        exact ⟨9223372036854775808 + b, o, rfl, by have := HB63.out.2; omega, fun ho => by have := HB63.out.1 ho; omega, below_drewN (below_drewN HB.out _) _⟩
  case first =>
    have hng : w.cell? ⟨P, 802, none⟩ = some (.bool D.ng) := HH.out.ng
    have hmz := Pl.mz_is HD.out
    by_cases hbig : 310 < D.dp
    · have f2 : decide (310 < D.dp) = true := decide_eq_true hbig
      go_wp2_with fail
      go_step3
      exact ⟨rfl, rfl, rfl, rfl, Below.refl _ _, ⟨_, hng⟩, .inl rfl⟩
    have f2 : decide (310 < D.dp) = false := decide_eq_false hbig
    by_cases hlow : D.dp < -330
    · have f3 : decide (D.dp < -330) = true := decide_eq_true hlow
      go_wp2_with fail
      go_step3
      exact ⟨rfl, rfl, rfl, rfl, Below.refl _ _, ⟨_, hng⟩, .inr ⟨rfl, false, -1023, 0, rfl, rfl, rfl, by decide, .inl ⟨rfl, by decide, by decide⟩⟩⟩
    have f3 : decide (D.dp < -330) = false := decide_eq_false hlow
    refine wp_seq_k (fun K hK => ?_)
    have HK := Lib.hid hK
    clear hK
    go_wp2_with fail
    refine HK.out _ _ ?_
    clear HK
    refine wp_seq_k (fun K hK => ?_)
    have HK := Lib.hid hK
    clear hK
    go_wp2_with fail
    refine HK.out _ _ ?_
    clear HK
    refine wp_seq_k (fun K hK => ?_)
    have HK := Lib.hid hK
    clear hK
    go_wp2_with fail
    refine HK.out _ _ ?_
    clear HK
    refine wp_seq_k (fun K hK => ?_)
    have HK := Lib.hid hK
    clear hK
    go_wp2_with fail
    refine HK.out _ _ ?_
    clear HK
    refine wp_seq_k (fun K hK => ?_)
    have HK := Lib.hid hK
    clear hK
    go_wp2_with fail
    refine HK.out _ _ ?_
    clear HK
    refine wp_seq_k (fun K hK => ?_)
    have HK := Lib.hid hK
    clear hK
    go_wp2_with fail
    refine HK.out _ _ ?_
    clear HK
    clear f1 f2 f3 c1 c2 hng
    refine wp_seq_k (fun K hK => ?_)
    go_cut [6, 8] from 35 to 60 (fun v _ wx => ∃ (D2 : Dm) (N2 : Nat) (E : Int), v = .int .i64 E ∧ 0 ≤ E ∧ E ≤ 173043 ∧ -330 ≤ D2.dp ∧ D2.dp ≤ 0 ∧ Hid (Pl.DIs D2 N2) ∧ Hid (Has wx P D2) ∧ Hid (Below P w wx))
    case first =>
      go_wp2_with fail
      go_loopw [6] (fun v wr => ∃ (D2 : Dm) (N2 : Nat) (E : Int), v = .int .i64 E ∧ 0 ≤ E ∧ E ≤ 27 * (3109 - Pl.mz D2) ∧ -330 ≤ D2.dp ∧ D2.dp ≤ 310 ∧ Hid (Pl.DIs D2 N2) ∧ Hid (Has wr P D2) ∧ Hid (Below P w wr)) (fun _ wr => (mzOf wr P + 4000).toNat)
      case atStart => exact ⟨D, N, 0, rfl, by omega, by omega, by omega, by omega, HD, HH, Lib.hid (Below.refl _ _)⟩
      case round =>
        obtain ⟨D2, N2, E, rfl, hE0, hE1, hd1, hd2, HD2, HX, HB⟩ := hrel
        have HM := Lib.hid HX.out.mzOf
        have hmz2 := Pl.mz_is HD2.out
        have c2 := HX.out.dp
        have HTW := Lib.hid (HT.out.below HB.out)
        obtain ⟨pa, pcap, t1, t2, t3⟩ := HTW.out.ptab
        by_cases hpos : 0 < D2.dp
        · have g0 : decide (0 < D2.dp) = true := decide_eq_true hpos
          by_cases h9 : 9 ≤ D2.dp
          · have g1 : decide (9 ≤ D2.dp) = true := decide_eq_true h9
            clear t3
            go_wp2_with fail
            go_quiet (fail)
            go_wp2_with fail
            have HX1 := Lib.hid (HX.out.drewN nq)
            have HB1 := Lib.hid (below_drewN HB.out nq)
            generalize wr.drewN nq = w1 at HX1 HB1 ⊢
            have HC := Lib.hid (shift_right P 27 N2 D2 w1 HD2.out (by decide) (by decide) (by omega) (by omega) HX1.out)
            refine HC.out.mono ?_
            rintro e w2 ⟨rfl, ⟨D3, r, N3, hr, hh⟩, hb⟩
            have hf := hr.falls HD2.out (by decide)
            have hr20 := hr.r20 HD2.out (by decide)
            have hr1 := hr.r1
            have hdp := hr.dp
            have hmz3 := Pl.mz_is hr.is
            have HR := Lib.hid hr.is
            have HX3 := Lib.hid hh
            have HB3 := Lib.hid (HB1.out.trans hb)
            have gw2 : IntKind.i64.wrap (E + 27) = E + 27 := IntWalk.i64_in _ (by omega)
            clear hr hh hb
            go_wp2_with fail
            go_roundw
            case rel => exact ⟨D3, N3, E + 27, by rfl, by omega, by omega, by omega, by omega, HR, HX3, HB3⟩
            case measure => rw [HX3.out.mzOf, HM.out]; omega
          · have g1 : decide (9 ≤ D2.dp) = false := decide_eq_false h9
            obtain ⟨k, hk⟩ : ∃ k : Nat, D2.dp = k := ⟨D2.dp.toNat, by omega⟩
            obtain ⟨x, hx, hx1, hx2⟩ := ptab_in ⟨k, by omega⟩
            have t4 := t3 k x hx
            have hk9 : k < 9 := by omega
            rw [hk] at c2 g0 g1
            have hk0 : (0 : Int) ≤ (k : Int) := by omega
            have hk8 : (k : Int) < 9 := by omega
            have gw : IntKind.i64.wrap (-(x : Int)) = -(x : Int) := IntWalk.i64_in _ (by omega)
            clear t3
            go_wp2_with fail
            go_quiet (fail)
            go_wp2_with fail
            go_quiet (fail)
            go_wp2_with fail
            have HC := Lib.hid (fun n => shift_right P x N2 D2 (wr.drewN n) HD2.out hx1 (by omega) (by omega) (by omega) (HX.out.drewN n))
            refine (HC.out _).mono ?_
            rintro e w2 ⟨rfl, ⟨D3, r, N3, hr, hh⟩, hb⟩
            have hf := hr.falls HD2.out hx1
            have hr20 := hr.r20 HD2.out (by omega)
            have hr1 := hr.r1
            have hdp := hr.dp
            have hmz3 := Pl.mz_is hr.is
            have HR := Lib.hid hr.is
            have HX3 := Lib.hid hh
            have HB3 := Lib.hid ((below_drewN HB.out _).trans hb)
            have gw2 : IntKind.i64.wrap (E + (x : Int)) = E + (x : Int) := IntWalk.i64_in _ (by omega)
            clear hr hh hb
            go_wp2_with fail
            go_roundw
            case rel => exact ⟨D3, N3, E + (x : Int), by rfl, by omega, by omega, by omega, by omega, HR, HX3, HB3⟩
            case measure => rw [HX3.out.mzOf, HM.out]; omega
        · have g0 : decide (0 < D2.dp) = false := decide_eq_false hpos
          clear t3
          go_wp2_with fail
          go_meet
          case rel => exact ⟨D2, N2, E, rfl, hE0, by omega, by omega, by omega, HD2, HX, HB⟩
    case rest =>
    obtain ⟨D0, N0, E0, rfl, hE0, hE00, hd01, hd02, HD0, HX0, HB0⟩ := hcut
    have hmz0 := Pl.mz_is HD0.out
    have HK := Lib.hid hK
    clear hK
    refine HK.out _ _ ?_
    clear HK
    refine wp_seq_k (fun K hK => ?_)
    go_cut [6, 9] from 61 to 102 (fun v _ wx => ∃ (D2 : Dm) (N2 : Nat) (E : Int), v = .int .i64 E ∧ -110000 ≤ E ∧ E ≤ 173043 ∧ 0 ≤ D2.dp ∧ D2.dp ≤ 19 ∧ Hid (Pl.DIs D2 N2) ∧ Hid (Has wx P D2) ∧ Hid (Below P w wx))
    case first =>
      go_wp2_with fail
      go_loopw [6] (fun v wr => ∃ (D2 : Dm) (N2 : Nat) (E : Int), v = .int .i64 E ∧ -27 * (Pl.mz D2 + 3300) ≤ E ∧ E ≤ 173043 ∧ -330 ≤ D2.dp ∧ D2.dp ≤ 19 ∧ Hid (Pl.DIs D2 N2) ∧ Hid (Has wr P D2) ∧ Hid (Below P w wr)) (fun _ wr => (1000 - mzOf wr P).toNat)
      case atStart => exact ⟨D0, N0, E0, rfl, by omega, by omega, by omega, by omega, HD0, HX0, HB0⟩
      case round =>
        obtain ⟨D2, N2, E, rfl, hE1, hE2, hd1, hd2, HD2, HX, HB⟩ := hrel
        have HM := Lib.hid HX.out.mzOf
        have hmz2 := Pl.mz_is HD2.out
        have c2 := HX.out.dp
        have c3 := HX.out.dig 0 (by decide)
        have HTW := Lib.hid (HT.out.below HB.out)
        obtain ⟨pa, pcap, t1, t2, t3⟩ := HTW.out.ptab
        by_cases hneg : D2.dp < 0 ∨ (D2.dp = 0 ∧ D2.d 0 < 53)
        · obtain ⟨k, hk⟩ : ∃ k : Nat, D2.dp = -(k : Int) := ⟨(-D2.dp).toNat, by omega⟩
          have hk330 : k ≤ 330 := by omega
          rw [hk] at c2
          have hk0 : (0 : Int) ≤ (k : Int) := by omega
          have gn : IntKind.i64.wrap (-(-(k : Int))) = (k : Int) := by rw [Int.neg_neg]; exact IntWalk.i64_in _ (by omega)
          have gz : IntKind.i64.wrap (k : Int) = (k : Int) := IntWalk.i64_in _ (by omega)
          have HDO := Lib.hid hneg
          clear hneg
          by_cases h9 : 9 ≤ k
          · have g1 : decide ((9 : Int) ≤ (k : Int)) = true := decide_eq_true (by omega)
            have g0 : decide (-(k : Int) < 0) = true := decide_eq_true (by omega)
            have HC := Lib.hid (fun n => shift_left P 27 N2 D2 (wr.drewN n) HD2.out (by decide) (by decide) (by omega) (by omega) (HTW.out.below (below_drewN (Below.refl P wr) n)) (HX.out.drewN n))
            clear t3
            go_wp2_with fail
            go_quiet (fail)
            go_wp2_with fail
            refine (HC.out _).mono ?_
            rintro e w2 ⟨rfl, ⟨D3, r, N3, hr, hh⟩, hb⟩
            have hf := hr.rises HD2.out (by decide)
            have hr19 := hr.e19 HD2.out (by omega)
            have hdp := hr.dp
            have hmz3 := Pl.mz_is hr.is
            have HR := Lib.hid hr.is
            have HX3 := Lib.hid hh
            have HB3 := Lib.hid ((below_drewN HB.out _).trans hb)
            have gw2 : IntKind.i64.wrap (E - 27) = E - 27 := IntWalk.i64_in _ (by omega)
            clear hr hh hb
            go_wp2_with fail
            go_roundw
            case rel => exact ⟨D3, N3, E - 27, by rfl, by omega, by omega, by omega, by omega, HR, HX3, HB3⟩
            case measure => rw [HX3.out.mzOf, HM.out]; omega
          by_cases h00 : k = 0
          · subst h00
            have hdp0 : D2.dp = 0 := hk
            have g1 : decide ((D2.d 0 : Int) < 53) = true := decide_eq_true (by have := HDO.out; omega)
            rw [show -(((0 : Nat)) : Int) = 0 from rfl] at c2
            have t4 := t3 0 1 rfl
            have t5 : wr.cell? pa = some (.int .i64 1) := by have := t3 0 1 rfl; rwa [addr0] at this
            have hx1 : 1 ≤ 1 := Nat.le_refl _
            have HC := Lib.hid (fun n => shift_left P 1 N2 D2 (wr.drewN n) HD2.out hx1 (by omega) (by omega) (by omega) (HTW.out.below (below_drewN (Below.refl P wr) n)) (HX.out.drewN n))
            clear t3 gz gn
            go_wp2_with fail
            go_quiet (fail)
            go_wp2_with fail
            go_quiet (fail)
            go_wp2_with fail
            refine (HC.out _).mono ?_
            rintro e w2 ⟨rfl, ⟨D3, r, N3, hr, hh⟩, hb⟩
            have hf := hr.rises HD2.out hx1
            have hr19 := hr.e19 HD2.out (by omega)
            have hdp := hr.dp
            have hmz3 := Pl.mz_is hr.is
            have HR := Lib.hid hr.is
            have HX3 := Lib.hid hh
            have HB3 := Lib.hid ((below_drewN HB.out _).trans hb)
            have gw2 : IntKind.i64.wrap (E - 1) = E - 1 := IntWalk.i64_in _ (by omega)
            clear hr hh hb
            go_wp2_with fail
            go_roundw
            case rel => exact ⟨D3, N3, E - 1, by rfl, by omega, by omega, by omega, by omega, HR, HX3, HB3⟩
            case measure => rw [HX3.out.mzOf, HM.out]; omega
          · have g1 : decide ((9 : Int) ≤ (k : Int)) = false := decide_eq_false (by omega)
            have g0 : decide (-(k : Int) < 0) = true := decide_eq_true (by omega)
            obtain ⟨x, hx, hx1, hx2⟩ := ptab_in ⟨k, by omega⟩
            have t4 := t3 k x hx
            have hk8 : (k : Int) < 9 := by omega
            have HC := Lib.hid (fun n => shift_left P x N2 D2 (wr.drewN n) HD2.out hx1 (by omega) (by omega) (by omega) (HTW.out.below (below_drewN (Below.refl P wr) n)) (HX.out.drewN n))
            clear t3
            go_wp2_with fail
            go_quiet (fail)
            go_wp2_with fail
            go_quiet (fail)
            go_wp2_with fail
            refine (HC.out _).mono ?_
            rintro e w2 ⟨rfl, ⟨D3, r, N3, hr, hh⟩, hb⟩
            have hf := hr.rises HD2.out hx1
            have hr19 := hr.e19 HD2.out (by omega)
            have hdp := hr.dp
            have hmz3 := Pl.mz_is hr.is
            have HR := Lib.hid hr.is
            have HX3 := Lib.hid hh
            have HB3 := Lib.hid ((below_drewN HB.out _).trans hb)
            have gw2 : IntKind.i64.wrap (E - (x : Int)) = E - (x : Int) := IntWalk.i64_in _ (by omega)
            clear hr hh hb
            go_wp2_with fail
            go_roundw
            case rel => exact ⟨D3, N3, E - (x : Int), by rfl, by omega, by omega, by omega, by omega, HR, HX3, HB3⟩
            case measure => rw [HX3.out.mzOf, HM.out]; omega
        · have hpos2 : 0 ≤ D2.dp := by omega
          have g0 : decide (D2.dp < 0) = false := decide_eq_false (by omega)
          clear t3
          by_cases hz : D2.dp = 0
          · have g1 : decide ((D2.d 0 : Int) < 53) = false := decide_eq_false (by omega)
            rw [hz] at c2
            go_wp2_with fail
            go_meet
            case rel => exact ⟨D2, N2, E, rfl, by omega, by omega, by omega, by omega, HD2, HX, HB⟩
          · have g1 : (D2.dp == 0) = false := by rw [beq_eq_false_iff_ne]; exact hz
            go_wp2_with fail
            go_meet
            case rel => exact ⟨D2, N2, E, rfl, by omega, by omega, by omega, by omega, HD2, HX, HB⟩
    case rest =>
    obtain ⟨D2, N2, E, rfl, hE1, hE2, hd1, hd2, HD2, HX, HB⟩ := hcut
    have HK := Lib.hid hK
    clear hK
    refine HK.out _ _ ?_
    clear HK HX0 HB0 HD0 hmz0 hmz hd01 hd02 hE0 hE00
    obtain ⟨e1, he1⟩ : ∃ e1, E - 1 = e1 := ⟨_, rfl⟩
    have gw1 : IntKind.i64.wrap (E - 1) = e1 := by rw [he1]; exact IntWalk.i64_in _ (by omega)
    refine wp_seq_k (fun K hK => ?_)
    have HK := Lib.hid hK
    clear hK
    go_wp2_with fail
    refine HK.out _ _ ?_
    clear HK
    have i2 := (HT.out.below HB.out).info2
    clear gw1
    refine wp_seq_k (fun K hK => ?_)
    go_cut [6, 10] from 105 to 125 (fun v _ wx => ∃ (D2 : Dm) (N2 : Nat) (E : Int), v = .int .i64 E ∧ -1022 ≤ E ∧ E ≤ 173043 ∧ -150000 ≤ D2.dp ∧ D2.dp ≤ 19 ∧ Hid (Pl.DIs D2 N2) ∧ Hid (Has wx P D2) ∧ Hid (Below P w wx))
    case first =>
      by_cases hlo : e1 < -1022
      · have g1 : decide (e1 < -1022) = true := decide_eq_true hlo
        obtain ⟨n, hn⟩ : ∃ n : Nat, -1022 - e1 = (n : Int) := ⟨(-1022 - e1).toNat, by omega⟩
        have gw1 : IntKind.i64.wrap (-1022 - e1) = (n : Int) := by rw [hn]; exact IntWalk.i64_in _ (by omega)
        have gw2 : IntKind.i64.wrap (-(n : Int)) = -(n : Int) := IntWalk.i64_in _ (by omega)
        have gw3 : IntKind.i64.wrap (e1 + (n : Int)) = -1022 := by rw [show e1 + (n : Int) = -1022 by omega]; exact IntWalk.i64_in _ (by decide)
        have HC := Lib.hid (shift_right_any P n N2 D2 _ HD2.out (by omega) (by omega) (by omega) (by omega) HX.out)
        go_wp2_with fail
        refine HC.out.mono ?_
        rintro e w2 ⟨rfl, ⟨D3, N3, h3, hh3, hdp3, hdp4, _⟩, hb⟩
        have HD3 := Lib.hid h3
        have HX3 := Lib.hid hh3
        have HB3 := Lib.hid (HB.out.trans hb)
        clear h3 hh3 hb
        go_wp2_with fail
        go_meet
        case rel => exact ⟨D3, N3, -1022, rfl, by omega, by omega, by omega, by omega, HD3, HX3, HB3⟩
      · have g1 : decide (e1 < -1022) = false := decide_eq_false hlo
        go_wp2_with fail
        go_meet
        case rel => exact ⟨D2, N2, e1, rfl, by omega, by omega, by omega, by omega, HD2, HX, HB⟩
    case rest =>
    clear i2 he1 hE1 hE2 hd1 hd2 HD2 HX HB
    obtain ⟨D2, N2, E, rfl, hE1, hE2, hd1, hd2, HD2, HX, HB⟩ := hcut
    have HK := Lib.hid hK
    clear hK
    refine HK.out _ _ ?_
    clear HK
    have i0 := (HT.out.below HB.out).info
    have i1 := (HT.out.below HB.out).info1
    have i2 := (HT.out.below HB.out).info2
    by_cases hov : 2047 ≤ E + 1023
    · have g1 : decide (2047 ≤ E + 1023) = true := decide_eq_true hov
      go_wp2_with fail
      go_quiet (fail)
      go_wp2_with fail
      go_step3
      exact ⟨rfl, rfl, rfl, rfl, below_drewN HB.out _, ⟨_, (HX.out.drewN _).ng⟩, .inl rfl⟩
    have g1 : decide (2047 ≤ E + 1023) = false := decide_eq_false hov
    refine wp_seq_k (fun K hK => ?_)
    have HK := Lib.hid hK
    clear hK
    go_wp2_with fail
    go_quiet (fail)
    go_wp2_with fail
    refine HK.out _ _ ?_
    clear HK g1
    have HC := Lib.hid (fun n => shift_left P 53 N2 D2 _ HD2.out (by decide) (by decide) (by omega) (by omega) (HT.out.below (below_drewN HB.out n)) (HX.out.drewN n))
    go_wp2_with fail
    refine (HC.out _).mono ?_
    rintro e w5 ⟨rfl, ⟨D3, EE, N3, hr, hh⟩, hb⟩
    have h3 := hr.is
    have HX3 := Lib.hid hh
    have HB3 := Lib.hid ((below_drewN HB.out _).trans hb)
    have HR := Lib.hid (rin_any P N3 D3 w5 h3 hh)
    clear i0 i1 i2 hr hh hb h3 HC HX HB
    have i0 := (HT.out.below HB3.out).info
    have i1 := (HT.out.below HB3.out).info1
    have i2 := (HT.out.below HB3.out).info2
    go_wp2_with fail
    refine HR.out.mono ?_
    rintro e w6 ⟨⟨M, rfl, hM⟩, rfl⟩
    clear HR
    by_cases hM2 : M = 9007199254740992
    · subst hM2
      have gw : IntKind.i64.wrap (E + 1) = E + 1 := IntWalk.i64_in _ (by omega)
      have g5 : bits .and .u64 4503599627370496 4503599627370496 = 4503599627370496 := by decide
      obtain ⟨e2, he2⟩ : ∃ e2, E + 1 = e2 := ⟨_, rfl⟩
      rw [he2] at gw
      by_cases hov2 : 2047 ≤ e2 + 1023
      · have g1 : decide (2047 ≤ e2 + 1023) = true := decide_eq_true hov2
        go_wp2_with fail
        go_quiet (fail)
        go_wp2_with fail
        go_step3
        exact ⟨rfl, rfl, rfl, rfl, below_drewN HB3.out _, ⟨_, (HX3.out.drewN _).ng⟩, .inl rfl⟩
      · have g1 : decide (2047 ≤ e2 + 1023) = false := decide_eq_false hov2
        go_wp2_with fail
        go_quiet (fail)
        go_wp2_with fail
        go_step3
        exact ⟨rfl, rfl, rfl, rfl, below_drewN HB3.out _, ⟨_, (HX3.out.drewN _).ng⟩, .inr ⟨rfl, false, e2, 4503599627370496, rfl, rfl, rfl, by decide, .inl ⟨rfl, by omega, by omega⟩⟩⟩
    · have g1 : ((M : Int) == 9007199254740992) = false := by rw [beq_eq_false_iff_ne]; omega
      have ga := Go.u64_and_nat M 4503599627370496 hM (by decide)
      have ga2 : bits .and .u64 (M : Int) 4503599627370496 = ((M &&& 4503599627370496 : Nat) : Int) := ga
      generalize M &&& 4503599627370496 = y at ga2
      clear ga
      by_cases hy : y = 0
      · subst hy
        rw [Int.natCast_zero] at ga2
        go_wp2_with fail
        go_step3
        exact ⟨rfl, rfl, rfl, rfl, HB3.out, ⟨_, HX3.out.ng⟩, .inr ⟨rfl, false, -1023, M, rfl, rfl, rfl, hM, .inl ⟨rfl, by decide, by decide⟩⟩⟩
      · have g2 : ((y : Int) == 0) = false := by rw [beq_eq_false_iff_ne]; omega
        go_wp2_with fail
        go_step3
        exact ⟨rfl, rfl, rfl, rfl, HB3.out, ⟨_, HX3.out.ng⟩, .inr ⟨rfl, false, E, M, rfl, rfl, rfl, hM, .inl ⟨rfl, by omega, by omega⟩⟩⟩
end Go.Proofs.YtpilniljhmkedaaGreatDoor
namespace Go.Proofs.YtpilniljhmkedaaGreatDoor
open Go.RowKit Go.Lib
theorem at_two (A : List UInt8) (c d : UInt8) (C : List UInt8) : At (bs (A ++ (c :: d :: C))) A.length [c, d] := at_mid A [c, d] C
theorem tail_at (p : List UInt8) (B : List UInt8) (t : Txt) (he : ∀ s D, t.ex = some (s, D) → D ≠ [] ∧ ∀ c ∈ D, Pl.digit c) : TailAt (bs (p ++ (B ++ t.tail))) (p.length + B.length) t.ex := by
  obtain ⟨neg, X, Y, ex⟩ := t
  simp only at he
  rcases ex with _ | ⟨_ | _, D⟩
  · show (bs (p ++ (B ++ []))).size = _
    rw [bs_size]; simp
  · obtain ⟨h0, h1⟩ := he false D rfl
    change TailAt (bs (p ++ (B ++ 101 :: D))) _ (some (false, D))
    refine ⟨by rw [bs_size]; simp; omega, ?_, ?_, List.length_pos_iff.2 h0, h1⟩
    · have := at_mid (p ++ B) [101] D
      simpa using this
    · have := at_mid (p ++ B ++ [101]) D []
      simpa [Nat.add_assoc] using this
  · obtain ⟨h0, h1⟩ := he true D rfl
    change TailAt (bs (p ++ (B ++ 101 :: 45 :: D))) _ (some (true, D))
    refine ⟨by rw [bs_size]; simp; omega, ?_, ?_, List.length_pos_iff.2 h0, h1⟩
    · have := at_mid (p ++ B) [101, 45] D
      simpa using this
    · have := at_mid (p ++ B ++ [101, 45]) D []
      simpa [Nat.add_assoc] using this
theorem texp_is (t : Txt) : texp t.ex = t.exp := by obtain ⟨_, _, _, _ | ⟨_ | _, D⟩⟩ := t <;> rfl
theorem slow_txt (t : Txt) (h : t.Ok) (hm : (Pl.run t.body).m ≠ 0) : SlowC (bs t.text) := by
  intro w P ht hz
  have hM := mant_ok h.xd h.yd
  have h3 : 3 ≤ (t.X ++ 46 :: t.Y).length := by
    have h1 := List.length_pos_iff.2 h.x0
    have h2 := List.length_pos_iff.2 h.y0
    simp
    omega
  have hd0 := mant_head (Y := t.Y) h.xd h.x0
  obtain ⟨f1, f2⟩ := run_flags2 t.X t.Y h.xd h.x0 h.yd
  have hl := h.len
  have hok := Pl.run_ok t.body hM.1
  have hbl : t.body.length ≤ 400 := by
    unfold Txt.text at hl
    rw [List.length_append, List.length_append] at hl
    omega
  have hel : -100000 ≤ t.exp ∧ t.exp ≤ 100000 := by
    unfold Txt.exp
    rcases hx : t.ex with _ | ⟨_ | _, D⟩
    · simp only; omega
    · have := Pl.erun_le D (h.ed _ _ hx).2
      simp only; omega
    · have := Pl.erun_le D (h.ed _ _ hx).2
      simp only; omega
  have key : ∀ i0 : Nat, ((t.neg = false ∧ i0 = 0) ∨ (t.neg = true ∧ i0 = 1 ∧ At (bs t.text) 0 [45])) → At (bs t.text) i0 t.body → TailAt (bs t.text) (i0 + t.body.length) t.ex →
      Calls Tryz.prog 137 #[.pointer (some ⟨P, 0, none⟩), .string (bs t.text)] w fun e w1 => e = .returned (.bool true) ∧ Below P w w1 ∧
        Calls Tryz.prog 138 #[.pointer (some ⟨P, 0, none⟩), .pointer (some ⟨8, 0, none⟩)] w1 fun e w2 => ∃ (b : Nat) (o : Bool), e = .returned (.tuple #[.int .u64 b, .bool o]) ∧ b < 18446744073709551616 ∧ (o = false → b % 9223372036854775808 < 9218868437227405312) ∧ Below P w1 w2 := by
    intro i0 h1 h2 h4
    refine (set_core (bs t.text) i0 P t.body t.ex t.neg w hM h3 (by rw [bs_size]; exact hl) h2 f2 f1 h1 (hd0 (by omega)) h4 (has_zero hz)).mono ?_
    rintro e w1 ⟨rfl, ⟨D, hh, hs⟩, hb⟩
    refine ⟨rfl, hb, ?_⟩
    have hnd : D.nd ≠ 0 := fun e => hm (Pl.run_nd0 t.body hM.1 (by rw [← hs.nd]; exact e))
    have hdp := hs.dp
    rw [texp_is] at hdp
    have k1 := hok.nd
    have k2 := hok.lo
    have k3 := hok.up
    have hnd2 := hs.nd
    exact floatBits_any P _ D w1 (hs.dz.is (by omega) (by omega)) (by omega) (by omega) (ht.below hb) hh
  cases hn : t.neg
  · have e : t.text = [] ++ (t.body ++ t.tail) := by unfold Txt.text; rw [hn]; rfl
    refine key 0 (.inl ⟨hn, rfl⟩) ?_ ?_
    · rw [e]; exact at_mid [] t.body t.tail
    · rw [e]; exact tail_at [] t.body t h.ed
  · have e : t.text = [45] ++ (t.body ++ t.tail) := by unfold Txt.text; rw [hn]; rfl
    refine key 1 (.inr ⟨hn, rfl, ?_⟩) ?_ ?_
    · rw [e]; exact at_mid [] [45] _
    · rw [e]; exact at_mid [45] t.body t.tail
    · rw [e]; exact tail_at [45] t.body t h.ed
end Go.Proofs.YtpilniljhmkedaaGreatDoor
namespace Go.Proofs.YtpilniljhmkedaaGreatDoor
open Go.RowKit Go.Lib
theorem read_zero (neg : Bool) (w : World) (he : Env w) : Calls Tryz.prog 7 #[.string (bs (zeroT neg).text)] w fun e w' => e = .returned (.tuple #[.int .u64 (Pl.sgb neg : Nat), .int .i64 0]) ∧ Below w.heap.size w w' := by
  have hok := zero_ok neg
  have hr := txt_reads hok
  have e1 : Pl.run (zeroT neg).body = ⟨0, 0, 0, -1, true, true, false⟩ := by show Pl.run [48, 46, 48] = _; rfl
  rw [e1] at hr
  refine (read_in (R := fun r => r = Pl.sgb neg) (E := False) (zeroT neg).text w (by have := hok.len; omega) (txt_formed hok) he (fun w he => atof_nought _ _ _ neg _ w (txt_special hok) hr he)).mono ?_
  rintro e w' ⟨⟨r, rfl, rfl⟩ | ⟨hE, _⟩, hB⟩
  · refine ⟨?_, hB⟩
    have : Fl.told (Pl.sgb neg) = Pl.sgb neg := by unfold Pl.sgb; cases neg <;> decide
    rw [this]
  · exact hE.elim
/-- what Show writes, Read reads -/
theorem show_read {a : Nat} (h : FinF a) : ∃ s : ByteArray, (∀ w, Env w → Calls Tryz.prog 8 #[.int .u64 a] w fun e w' => e = .returned (.string s) ∧ Below w.heap.size w w') ∧
    ∀ w, Env w → Calls Tryz.prog 7 #[.string s] w fun e w' => e = .returned (.tuple #[.int .u64 a, .int .i64 0]) ∧ Below w.heap.size w w' := by
  obtain ⟨h1, h2⟩ := h
  by_cases hz : a % 9223372036854775808 = 0
  · obtain ⟨neg, rfl⟩ : ∃ neg, a = Pl.sgb neg := by
      by_cases ha : a = 0
      · exact ⟨false, by rw [ha]; rfl⟩
      · exact ⟨true, by show a = 9223372036854775808; omega⟩
    refine ⟨_, fun w _ => ?_, fun w he => read_zero neg w he⟩
    refine (show_zero neg w).mono ?_
    rintro e w' ⟨rfl, rfl⟩
    exact ⟨rfl, Below.refl _ _⟩
  · exact ⟨_, fun w he => show_any a w h1 h2 hz he, fun w he => read_show a w h1 h2 hz he⟩
theorem number_any (a : Nat) (ha : a < 18446744073709551616) (w : World) : Calls Tryz.prog 6 #[.int .u64 a] w fun e w' => e = .returned (.bool (decide (a % 9223372036854775808 < 9218868437227405312))) ∧ w = w' := by
  have h : decide ((a : Int) % 9223372036854775808 < 9218868437227405312) = decide (a % 9223372036854775808 < 9218868437227405312) := by
    rw [Bool.eq_iff_iff, decide_eq_true_iff, decide_eq_true_iff]; omega
  rw [← h]
  clear h
  go_enter Tryz.func6, Tryz.ntmps6
  go_wp2_with fail
  go_ret
  exact ⟨rfl, rfl⟩
set_option maxRecDepth 100000 in
set_option maxHeartbeats 4000000 in
theorem floatRead_of (hS : ∀ t : Txt, t.Ok → (Pl.run t.body).m ≠ 0 → SlowC (bs t.text)) (a : Nat) (s : ByteArray) (w : World) (ha : a < 18446744073709551616) (hs : s.size ≤ 140737488355328) (he : Env w) :
    Calls Tryz.prog 3 #[.int .u64 a, .string s] w fun e w' => e = .returned (.bool true) ∧ Below w.heap.size w w' := by
  have HE := Lib.hid he
  have HR := Lib.hid (fun (W : World) (he : Env W) => read_any hS s W hs he)
  have HSR := Lib.hid (fun (a : Nat) (h : FinF a) => show_read h)
  have HN := Lib.hid (fun (W : World) => number_any a ha W)
  have HWK := Lib.hid (fun (W : World) (he : Env W) => works_any W he)
  clear he hS
  -- the second half: any text
  have HX := Lib.hid (fun (x : Nat) (hx : FinF x) => HSR.out x hx)
  by_cases hf : a % 9223372036854775808 < 9218868437227405312
  · rw [decide_eq_true hf] at HN
    obtain ⟨s1, hs1, hr1⟩ := HSR.out a ⟨ha, hf⟩
    have HS1 := Lib.hid hs1
    have HR1 := Lib.hid hr1
    clear hs1 hr1 hf
    go_enter Tryz.func3, Tryz.ntmps3
    go_wp2_with fail
    refine (HWK.out w HE.out).mono ?_
    rintro e w2 ⟨rfl, hb2⟩
    have HB2 := Lib.hid hb2
    have HE2 := Lib.hid (HE.out.below hb2)
    clear hb2
    go_wp2_with fail
    refine (HN.out _).mono ?_
    rintro e w' ⟨rfl, rfl⟩
    go_wp2_with fail
    refine (HS1.out _ HE2.out).mono ?_
    rintro e w3 ⟨rfl, hb3⟩
    have HB3 := Lib.hid (HB2.out.trans (hb3.mono HB2.out.size))
    have HE3 := Lib.hid (HE2.out.below hb3)
    clear hb3
    go_wp2_with fail
    refine (HR1.out _ HE3.out).mono ?_
    rintro e w4 ⟨rfl, hb4⟩
    have HB4 := Lib.hid (HB3.out.trans (hb4.mono HB3.out.size))
    have HE4 := Lib.hid (HE3.out.below hb4)
    clear hb4
    go_wp2_with fail
    refine (HR.out _ HE4.out).mono ?_
    rintro e w5 ⟨⟨x, hx, rfl⟩ | ⟨c, hc, rfl⟩, hb5⟩
    · obtain ⟨s2, hs2, hr2⟩ := HX.out x hx
      have HS2 := Lib.hid hs2
      have HR2 := Lib.hid hr2
      have HB5 := Lib.hid (HB4.out.trans (hb5.mono HB4.out.size))
      have HE5 := Lib.hid (HE4.out.below hb5)
      clear hb5 hs2 hr2 hx
      go_wp2_with fail
      refine (HS2.out _ HE5.out).mono ?_
      rintro e w6 ⟨rfl, hb6⟩
      have HB6 := Lib.hid (HB5.out.trans (hb6.mono HB5.out.size))
      have HE6 := Lib.hid (HE5.out.below hb6)
      clear hb6
      go_wp2_with fail
      refine (HR2.out _ HE6.out).mono ?_
      rintro e w7 ⟨rfl, hb7⟩
      have HB7 := Lib.hid (HB6.out.trans (hb7.mono HB6.out.size))
      clear hb7
      go_wp2_with fail
      go_ret
      exact ⟨rfl, HB7.out⟩
    · have HB5 := Lib.hid (HB4.out.trans (hb5.mono HB4.out.size))
      clear hb5
      rcases hc with rfl | rfl
      · go_wp2_with fail
        go_ret
        exact ⟨rfl, HB5.out⟩
      · go_wp2_with fail
        go_ret
        exact ⟨rfl, HB5.out⟩
  · rw [decide_eq_false hf] at HN
    clear hf
    go_enter Tryz.func3, Tryz.ntmps3
    go_wp2_with fail
    refine (HWK.out w HE.out).mono ?_
    rintro e w2 ⟨rfl, hb2⟩
    have HB4 := Lib.hid hb2
    have HE4 := Lib.hid (HE.out.below hb2)
    clear hb2
    go_wp2_with fail
    refine (HN.out _).mono ?_
    rintro e w' ⟨rfl, rfl⟩
    go_wp2_with fail
    refine (HR.out _ HE4.out).mono ?_
    rintro e w5 ⟨⟨x, hx, rfl⟩ | ⟨c, hc, rfl⟩, hb5⟩
    · obtain ⟨s2, hs2, hr2⟩ := HX.out x hx
      have HS2 := Lib.hid hs2
      have HR2 := Lib.hid hr2
      have HB5 := Lib.hid (HB4.out.trans (hb5.mono HB4.out.size))
      have HE5 := Lib.hid (HE4.out.below hb5)
      clear hb5 hs2 hr2 hx
      go_wp2_with fail
      refine (HS2.out _ HE5.out).mono ?_
      rintro e w6 ⟨rfl, hb6⟩
      have HB6 := Lib.hid (HB5.out.trans (hb6.mono HB5.out.size))
      have HE6 := Lib.hid (HE5.out.below hb6)
      clear hb6
      go_wp2_with fail
      refine (HR2.out _ HE6.out).mono ?_
      rintro e w7 ⟨rfl, hb7⟩
      have HB7 := Lib.hid (HB6.out.trans (hb7.mono HB6.out.size))
      clear hb7
      go_wp2_with fail
      go_ret
      exact ⟨rfl, HB7.out⟩
    · have HB5 := Lib.hid (HB4.out.trans (hb5.mono HB4.out.size))
      clear hb5
      rcases hc with rfl | rfl
      · go_wp2_with fail
        go_ret
        exact ⟨rfl, HB5.out⟩
      · go_wp2_with fail
        go_ret
        exact ⟨rfl, HB5.out⟩
theorem floatRead_any (a : Nat) (s : ByteArray) (w : World) (ha : a < 18446744073709551616) (hs : s.size ≤ 140737488355328) (he : Env w) :
    Calls Tryz.prog 3 #[.int .u64 a, .string s] w fun e w' => e = .returned (.bool true) ∧ Below w.heap.size w w' := floatRead_of slow_txt a s w ha hs he
end Go.Proofs.YtpilniljhmkedaaGreatDoor
