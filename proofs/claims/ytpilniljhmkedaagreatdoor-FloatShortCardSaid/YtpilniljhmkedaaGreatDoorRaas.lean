/- rightShift, walked. shouldRoundUp, walked. The slow road's digits as they are read: plain. The slow road: a decimal of nought, what set leaves. (*decimal).set, walked: the digits of a text, by value. Shift by at most 60 places, walked. Shift right by any number of places, walked: the shape alone. -/
import Derived.Test.YtpilniljhmkedaaGreatDoorRaar
import Derived.Test.YtpilniljhmkedaaGreatDoorRaaf
import Derived.Deep.LoopGhost
import Derived.Deep.CutRange
import Derived.Test.YtpilniljhmkedaaGreatDoorRaai
import Derived.Test.YtpilniljhmkedaaGreatDoorRaaj
namespace Go.Proofs.YtpilniljhmkedaaGreatDoor
open Go.RowKit Go.Lib
theorem shr_cast (A k : Nat) : (A : Int) / 2 ^ k = ((A / 2 ^ k : Nat) : Int) := by push_cast; rfl
theorem shr_nought {A k : Nat} (h : A < 2 ^ k) : ((A : Int) / 2 ^ k == 0) = true := by rw [shr_cast, Nat.div_eq_of_lt h]; rfl
theorem shr_some {A k : Nat} (h : 2 ^ k ≤ A) : ((A : Int) / 2 ^ k == 0) = false := by
  have : 0 < A / 2 ^ k := Nat.div_pos h (Nat.pow_pos (by omega))
  rw [shr_cast, beq_eq_false_iff_ne]; omega
theorem and_mask {n k : Nat} (hn : n < 18446744073709551616) (hk : 2 ^ k ≤ 1152921504606846976) : bits BinOp.and IntKind.u64 (n : Int) ((2 : Int) ^ k - 1) = ((n % 2 ^ k : Nat) : Int) := by
  have p0 : 0 < 2 ^ k := Nat.pow_pos (by omega)
  have hc : ((2 : Int) ^ k - 1) = ((2 ^ k - 1 : Nat) : Int) := by
    rw [show (2 : Int) ^ k = ((2 ^ k : Nat) : Int) by push_cast; rfl]; omega
  rw [hc]
  exact bits_low hn (by
    rcases Nat.lt_or_ge 63 k with h | h
    · have : 2 ^ 64 ≤ 2 ^ k := Nat.pow_le_pow_right (by omega) h
      omega
    · exact h)
set_option maxRecDepth 100000 in
set_option maxHeartbeats 4000000 in
theorem rsh_any (P k N : Nat) (D : Dm) (w : World) (hD : Pl.DIs D N) (hk1 : 1 ≤ k) (hk : k ≤ 60) (hp1 : -1000000 ≤ D.dp) (hp2 : D.dp ≤ 1000000) (h : Has w P D) :
    Calls Tryz.prog 160 #[.pointer (some ⟨P, 0, none⟩), .int .u64 k] w fun e w' => e = .returned (.tuple #[]) ∧ (∃ D' r N', Rsh D N k D' r N' ∧ Has w' P D') ∧ Below P w w' := by
  have HH := Lib.hid h
  have HD := Lib.hid hD
  have hn1 := hD.le
  have hnp := hD.pos
  have hk0 : (0 : Int) ≤ (k : Int) := by omega
  have hk2 : (k : Int) < 64 := by omega
  have c1 := h.nd
  have p60 : 2 ^ k ≤ 1152921504606846976 := Nat.le_trans (Nat.pow_le_pow_right (by omega) hk) (by decide)
  have P60 := Lib.hid p60
  have hA0 : Pl.ap N D.nd 0 = 0 := Pl.ap_zero hD.hi
  clear p60
  clear h hD
  go_enter Tryz.func160, Tryz.ntmps160
  refine wp_seq_k (fun K hK => ?_)
  have HK := Lib.hid hK
  clear hK
  go_wp2_with fail
  refine HK.out _ _ ?_
  clear HK
  refine wp_seq_k (fun K hK => ?_)
  have HK := Lib.hid hK
  clear hK
  go_wp2_with fail
  refine HK.out _ _ ?_
  clear HK
  refine wp_seq_k (fun K hK => ?_)
  have HK := Lib.hid hK
  clear hK
  go_wp2_with fail
  refine HK.out _ _ ?_
  clear HK
  refine wp_seq_k (fun K hK => ?_)
  go_cut [4, 6, 7] from 12 to 48 (fun a b _ wx => ∃ r : Nat, a = .int .i64 (r : Int) ∧ b = .int .u64 (Pl.ap N D.nd r : Nat) ∧ 1 ≤ r ∧ r ≤ D.nd + 20 ∧ Hid (2 ^ k ≤ Pl.ap N D.nd r) ∧ Hid (Pl.ap N D.nd (r - 1) < 2 ^ k) ∧ wx = w)
  case first =>
    go_wp2_with fail
    go_loopw [4, 6, 7] (fun a b _ wr => ∃ r : Nat, r ≤ D.nd ∧ a = .int .i64 (r : Int) ∧ b = .int .u64 (Pl.ap N D.nd r : Nat) ∧ Hid (∀ s, s < r → Pl.ap N D.nd s < 2 ^ k) ∧ wr = w) (fun a _ _ _ => D.nd + 1 - (RowKit.intOf a).toNat)
    case atStart => exact ⟨0, by omega, rfl, by rw [hA0]; rfl, Lib.hid (fun s hs => by omega), rfl⟩
    case round =>
      obtain ⟨r, hr, rfl, rfl, HA, rfl⟩ := hrel
      by_cases h0 : Pl.ap N D.nd r < 2 ^ k
      · have q0 := shr_nought h0
        have HA2 := Lib.hid (show ∀ s, s < r + 1 → Pl.ap N D.nd s < 2 ^ k from fun s hs => by
          by_cases e : s = r
          · subst e; exact h0
          · exact HA.out s (by omega))
        have hb : Pl.ap N D.nd r < 1152921504606846976 := Nat.lt_of_lt_of_le h0 P60.out
        clear h0
        by_cases h1 : D.nd ≤ r
        · have hrn : r = D.nd := by omega
          have q1 : ((Pl.ap N D.nd r : Int) == 0) = false := by
            rw [beq_eq_false_iff_ne, hrn, Pl.ap_high (Nat.le_refl _), Nat.sub_self, Nat.pow_zero, Nat.mul_one]
            have := HD.out.lo
            have h3 : 0 < 10 ^ (D.nd - 1) := Nat.pow_pos (by omega)
            omega
          clear hrn
          obtain ⟨wo, hwo⟩ : ∃ x, x = wr := ⟨wr, rfl⟩
          subst hwo
          go_wp2_with fail
          go_loopw [4, 6] (fun a b wr => ∃ r : Nat, D.nd ≤ r ∧ r ≤ D.nd + 20 ∧ a = .int .i64 (r : Int) ∧ b = .int .u64 (Pl.ap N D.nd r : Nat) ∧ Hid (∀ s, s < r → Pl.ap N D.nd s < 2 ^ k) ∧ wr = wo) (fun a _ _ => D.nd + 20 - (RowKit.intOf a).toNat)
          case atStart => exact ⟨r, h1, by omega, rfl, rfl, HA, rfl⟩
          case round =>
            obtain ⟨r, h1, h2, rfl, rfl, HA, rfl⟩ := hrel
            by_cases h0 : Pl.ap N D.nd r < 2 ^ k
            · have q0 := shr_nought h0
              have HA2 := Lib.hid (show ∀ s, s < r + 1 → Pl.ap N D.nd s < 2 ^ k from fun s hs => by
                by_cases e : s = r
                · subst e; exact h0
                · exact HA.out s (by omega))
              have hb : Pl.ap N D.nd r < 1152921504606846976 := Nat.lt_of_lt_of_le h0 P60.out
              have hs : r < D.nd + 20 := by
                refine Nat.lt_of_not_le (fun hge => ?_)
                have e1 := Pl.ap_high (N := N) (nd := D.nd) (q := r) h1
                have e2 : 10 ^ 19 ≤ 10 ^ (r - D.nd) := Nat.pow_le_pow_right (by omega) (by omega)
                have e3 := HD.out.lo
                have h3 : 0 < 10 ^ (D.nd - 1) := Nat.pow_pos (by omega)
                have e4 : 1 * 10 ^ 19 ≤ N * 10 ^ (r - D.nd) := Nat.mul_le_mul (by omega) e2
                rw [← e1] at e4
                omega
              have HN := Lib.hid (Pl.ap_out (N := N) h1)
              clear h0
              generalize Pl.ap N D.nd r = A at q0 hb HN ⊢
              have g1 : IntKind.u64.wrap ((A : Int) * 10) = (A : Int) * 10 := IntWalk.u64_in _ (by omega)
              go_wp2_with fail
              go_roundw
              case rel => exact ⟨r + 1, by omega, by omega, by go_num, by rw [HN.out]; congr 1; omega, HA2, by first | rfl | trivial⟩
              case measure => simp [RowKit.intOf]; omega
            · have hge : 2 ^ k ≤ Pl.ap N D.nd r := by omega
              have q0 := shr_some hge
              have HG := Lib.hid hge
              clear h0 hge
              go_wp2_with fail
              go_meet
              case rel => exact ⟨r, rfl, rfl, by omega, h2, HG, Lib.hid (HA.out (r - 1) (by omega)), rfl⟩
        · have c5 := HH.out.dig r (by omega)
          rw [HD.out.dig r (by omega)] at c5
          have hdl : N / 10 ^ (D.nd - 1 - r) % 10 < 10 := Nat.mod_lt _ (by omega)
          have HN := Lib.hid (Pl.ap_in (N := N) (nd := D.nd) (q := r) (by omega))
          generalize N / 10 ^ (D.nd - 1 - r) % 10 = dj at c5 hdl HN
          generalize Pl.ap N D.nd r = A at q0 hb HN ⊢
          have f1 : (0 : Int) ≤ (r : Int) := by omega
          have f2 : (r : Int) < 800 := by omega
          have f3 : decide ((D.nd : Int) ≤ (r : Int)) = false := decide_eq_false (by omega)
          have g0 : IntKind.u64.wrap ((dj : Int) + 48) = (dj : Int) + 48 := IntWalk.u64_in _ (by omega)
          have g1 : IntKind.u64.wrap ((A : Int) * 10) = (A : Int) * 10 := IntWalk.u64_in _ (by omega)
          have g2 : IntKind.u64.wrap ((A : Int) * 10 + ((dj : Int) + 48)) = (A : Int) * 10 + ((dj : Int) + 48) := IntWalk.u64_in _ (by omega)
          have g3 : IntKind.u64.wrap ((A : Int) * 10 + ((dj : Int) + 48) - 48) = (A : Int) * 10 + (dj : Int) := by rw [show (A : Int) * 10 + ((dj : Int) + 48) - 48 = (A : Int) * 10 + (dj : Int) by omega]; exact IntWalk.u64_in _ (by omega)
          go_wp2_with fail
          go_roundw
          case rel => exact ⟨r + 1, by omega, by go_num, by rw [HN.out]; congr 1; omega, HA2, by first | rfl | trivial⟩
          case measure => simp [RowKit.intOf]; omega
      · have hge : 2 ^ k ≤ Pl.ap N D.nd r := by omega
        have q0 := shr_some hge
        have HG := Lib.hid hge
        have hr0 : 1 ≤ r := by
          refine Nat.pos_of_ne_zero (fun e => ?_)
          rw [e, hA0] at hge
          have : 0 < 2 ^ k := Nat.pow_pos (by omega)
          omega
        clear h0 hge
        go_wp2_with fail
        go_meet
        case rel => exact ⟨r, rfl, rfl, hr0, by omega, HG, Lib.hid (HA.out (r - 1) (by omega)), rfl⟩
  case rest =>
  obtain ⟨r, rfl, rfl, hr1, hr2, HLO, HHI, rfl⟩ := hcut
  have c2 := HH.out.dp
  have c3 := HH.out.free 801
  have g1 : IntKind.i64.wrap ((r : Int) - 1) = (r : Int) - 1 := IntWalk.i64_in _ (by omega)
  have g2 : IntKind.i64.wrap (D.dp - ((r : Int) - 1)) = D.dp - ((r : Int) - 1) := IntWalk.i64_in _ (by omega)
  have p60 : ((2 ^ k : Nat) : Int) ≤ 1152921504606846976 := by have := P60.out; omega
  have p0 : (0 : Int) < ((2 ^ k : Nat) : Int) := by have : 0 < 2 ^ k := Nat.pow_pos (by omega); omega
  have g3 : IntKind.u64.wrap ((2 : Int) ^ k) = (2 : Int) ^ k := by
    rw [show (2 : Int) ^ k = ((2 ^ k : Nat) : Int) by push_cast; rfl]; exact IntWalk.u64_in _ (by omega)
  have g4 : IntKind.u64.wrap ((2 : Int) ^ k - 1) = (2 : Int) ^ k - 1 := by
    rw [show (2 : Int) ^ k = ((2 ^ k : Nat) : Int) by push_cast; rfl]; exact IntWalk.u64_in _ (by omega)
  clear p60 p0
  go_wp2_with fail
  go_loopw [4, 5, 6] (fun a b c wr => ∃ j : Nat, a = .int .i64 ((r + j : Nat) : Int) ∧ b = .int .i64 (j : Int) ∧ c = .int .u64 (Pl.ap N D.nd (r + j) % (10 * 2 ^ k) : Nat) ∧ r + j ≤ max r D.nd ∧ Hid (Has wr P { Pl.Dm.cut D N k r j D.tr with dp := D.dp - ((r : Int) - 1) }) ∧ Hid (Below P wc wr)) (fun a _ _ _ => D.nd - (RowKit.intOf a).toNat)
  case atStart =>
    refine ⟨0, rfl, rfl, ?_, by omega, ?_, ?_⟩
    · have h9 : Pl.ap N D.nd r < 10 * 2 ^ k := by
        have e1 := Pl.ap_div N D.nd (r - 1) 1
        rw [show r - 1 + 1 = r by omega, Nat.pow_one] at e1
        have := HHI.out
        omega
      rw [Nat.add_zero, Nat.mod_eq_of_lt h9]
    · exact Lib.hid (by rw [Pl.cut_start]; exact HH.out.setdp _)
    · exact Lib.hid ((Below.refl P wc).setCell (p := ⟨P, 801, none⟩) (Nat.le_refl _) _)
  case round =>
    obtain ⟨j, rfl, rfl, rfl, hj, HX, HB⟩ := hrel
    have c1 : wr.cell? ⟨P, 800, none⟩ = some (.int .i64 (D.nd : Nat)) := HX.out.nd
    by_cases h0 : r + j < D.nd
    · have c5 := HX.out.dig (r + j) (by omega)
      have c6 := HX.out.dig j (by omega)
      have c7 := HX.out.free j
      rw [show ({ Pl.Dm.cut D N k r j D.tr with dp := D.dp - ((r : Int) - 1) } : Dm).d (r + j) = D.d (r + j) from Pl.cut_out (D := D) (t := D.tr) _ (by omega), HD.out.dig (r + j) h0] at c5
      have hdl : N / 10 ^ (D.nd - 1 - (r + j)) % 10 < 10 := Nat.mod_lt _ (by omega)
      have HN := Lib.hid (Pl.ap_in (N := N) (nd := D.nd) (q := r + j) h0)
      generalize N / 10 ^ (D.nd - 1 - (r + j)) % 10 = dj at c5 hdl HN
      have HU := Lib.hid (Pl.u_lt (Pl.ap N D.nd (r + j)) k)
      have HLW0 := Lib.hid (Pl.u_low (Pl.ap N D.nd (r + j)) k)
      have HRD := Lib.hid (show Pl.rdg N D.nd k r j = Pl.ap N D.nd (r + j) % (10 * 2 ^ k) / 2 ^ k + 48 by rw [Pl.u_dig]; rfl)
      have HUN := Lib.hid (show Pl.ap N D.nd (r + (j + 1)) % (10 * 2 ^ k) = 10 * (Pl.ap N D.nd (r + j) % (10 * 2 ^ k) % 2 ^ k) + dj by
        rw [Pl.u_low, show r + (j + 1) = r + j + 1 by omega, HN.out, Pl.u_next _ _ _ hdl])
      generalize Pl.ap N D.nd (r + j) % (10 * 2 ^ k) = n at HU HRD HUN ⊢
      generalize hq : r + j = q at *
      have f3 : decide ((q : Int) < (D.nd : Int)) = true := decide_eq_true (by omega)
      have f1 : (0 : Int) ≤ (q : Int) := by omega
      have f2 : (q : Int) < 800 := by omega
      have f4 : (0 : Int) ≤ (j : Int) := by omega
      have f5 : (j : Int) < 800 := by omega
      have HP := P60.out
      have hnb : n < 18446744073709551616 := by have := HU.out; omega
      have ga := and_mask hnb HP
      have gs := shr_cast n k
      have hl : n % 2 ^ k < 2 ^ k := Nat.mod_lt _ (Nat.pow_pos (by omega))
      have HD1 := Lib.hid (show n / 2 ^ k < 10 by
        have := HU.out
        rw [Nat.div_lt_iff_lt_mul (Nat.pow_pos (by omega))]; exact this)
      have hdg := HD1.out
      have HLW := Lib.hid (show n % 2 ^ k < 1152921504606846976 by omega)
      have hlw := HLW.out
      clear HP hl
      generalize hnl : n % 2 ^ k = nl at ga hlw
      generalize hnh : n / 2 ^ k = nh at gs hdg
      have HNL := Lib.hid hnl
      have HNH := Lib.hid hnh
      clear hnl hnh
      have g0 : IntKind.u64.wrap ((dj : Int) + 48) = (dj : Int) + 48 := IntWalk.u64_in _ (by omega)
      have g5 : IntKind.u64.wrap ((nl : Int) * 10) = (nl : Int) * 10 := IntWalk.u64_in _ (by omega)
      have g6 : IntKind.u64.wrap ((nl : Int) * 10 + ((dj : Int) + 48)) = (nl : Int) * 10 + ((dj : Int) + 48) := IntWalk.u64_in _ (by omega)
      have g7 : IntKind.u64.wrap ((nl : Int) * 10 + ((dj : Int) + 48) - 48) = (nl : Int) * 10 + (dj : Int) := by rw [show (nl : Int) * 10 + ((dj : Int) + 48) - 48 = (nl : Int) * 10 + (dj : Int) by omega]; exact IntWalk.u64_in _ (by omega)
      have g8 : IntKind.u64.wrap ((nh : Int) + 48) = (nh : Int) + 48 := IntWalk.u64_in _ (by omega)
      have g9 : ((nh : Int) + 48) % 256 = (nh : Int) + 48 := by omega
      have HQ := Lib.hid hq
      clear hq
      go_wp2_with fail
      go_roundw
      case rel => exact ⟨j + 1, by congr 1; have := HQ.out; omega, by go_num, by rw [HUN.out, HNL.out]; congr 1; omega, by have := HQ.out; omega, Lib.hid (by rw [← Pl.cut_put, HRD.out, HNH.out]; exact HX.out.put j (nh + 48) (by omega)), Lib.hid (HB.out.setCell (Nat.le_refl _) _)⟩
      case measure => simp [RowKit.intOf]; omega
    · have f3 : decide (((r + j : Nat) : Int) < (D.nd : Int)) = false := decide_eq_false (by omega)
      have hrk : r ≤ D.nd + k := by
        refine Nat.le_of_not_lt (fun hgt => ?_)
        have e1 := Pl.ap_high (N := N) (nd := D.nd) (q := r - 1) (by omega)
        have e2 : 2 ^ k ≤ 2 ^ (r - 1 - D.nd) := Nat.pow_le_pow_right (by omega) (by omega)
        have e3 : 2 ^ (r - 1 - D.nd) ≤ 10 ^ (r - 1 - D.nd) := Nat.pow_le_pow_left (by omega) _
        have e4 := HD.out.lo
        have h3 : 0 < 10 ^ (D.nd - 1) := Nat.pow_pos (by omega)
        have e5 : 1 * 10 ^ (r - 1 - D.nd) ≤ N * 10 ^ (r - 1 - D.nd) := Nat.mul_le_mul_right _ (by omega)
        have := HHI.out
        rw [e1] at this
        omega
      have HRK := Lib.hid hrk
      clear hrk
      obtain ⟨wo, hwo⟩ : ∃ x, x = wr := ⟨wr, rfl⟩
      subst hwo
      go_wp2_with fail
      go_loopg [5, 6] (D.nd + k + 1 - (r + j)) (fun g b c wr => ∃ (q : Nat) (t : Bool), g = D.nd + k + 1 - q ∧ q ≤ D.nd + k + 1 ∧ D.nd ≤ q ∧ r ≤ q ∧ b = .int .i64 ((min (q - r) 800 : Nat) : Int) ∧ c = .int .u64 (Pl.ap N D.nd q % (10 * 2 ^ k) : Nat) ∧ Hid (Has wr P { Pl.Dm.cut D N k r (min (q - r) 800) t with dp := D.dp - ((r : Int) - 1) }) ∧ Hid (q - r ≤ 800 → t = D.tr) ∧ Hid (Below P wc wr))
      case atStart => exact ⟨r + j, D.tr, rfl, by have := HRK.out; omega, by omega, by omega, by rw [show min (r + j - r) 800 = j by omega], rfl, Lib.hid (by rw [show min (r + j - r) 800 = j by omega]; exact HX.out), Lib.hid (fun _ => rfl), HB⟩
      case round =>
        obtain ⟨q, t, hg, hq1, hq2, hq3, rfl, rfl, HX, HTR, HB⟩ := hrel
        by_cases h0 : Pl.ap N D.nd q % (10 * 2 ^ k) = 0
        · have hqr : r < q := by
            refine Nat.lt_of_le_of_ne hq3 (fun e => ?_)
            rw [← e] at h0
            have e1 := Pl.ap_div N D.nd (r - 1) 1
            rw [show r - 1 + 1 = r by omega, Nat.pow_one] at e1
            have h5 := HHI.out
            have h6 := HLO.out
            have h7 : 0 < 2 ^ k := Nat.pow_pos (by omega)
            rw [Nat.mod_eq_of_lt (by omega)] at h0
            omega
          obtain ⟨N', hl⟩ := rsh_of (D := D) (N := N) (k := k) (t := t) hr1 hr2 HLO.out HHI.out hqr hq2 (by omega) hq1 h0 HTR.out
          have HL := Lib.hid hl
          rw [h0]
          clear hl h0 hqr
          have hm8 : min (q - r) 800 ≤ 800 := Nat.min_le_right _ _
          generalize min (q - r) 800 = m at HX HL hm8 ⊢
          have c1 : wr.cell? ⟨P, 800, none⟩ = some (.int .i64 (D.nd : Nat)) := HX.out.nd
          have c3 := HX.out.free 800
          rw [show ((0 : Nat) : Int) = 0 from rfl]
          go_wp2_with fail
          refine (dtrim_any P _ _ ?_ (HX.out.setnd m)).mono ?_
          · exact hm8
          rintro e w' ⟨rfl, hw', hb'⟩
          go_wp2_with fail
          exact ⟨rfl, _, results_none Tryz.results160 _ _ _, rfl, ⟨_, r, N', HL.out, hw'⟩, (HB.out.setCell (Nat.le_refl _) _).trans hb'⟩
        · have hqk : q ≤ D.nd + k := by
            refine Nat.le_of_not_lt (fun hgt => h0 (Pl.ap_done N D.nd k q (by omega)))
          have HU := Lib.hid (Pl.u_lt (Pl.ap N D.nd q) k)
          have HUN := Lib.hid (show Pl.ap N D.nd (q + 1) % (10 * 2 ^ k) = 10 * (Pl.ap N D.nd q % (10 * 2 ^ k) % 2 ^ k) by
            have e := Pl.u_next (Pl.ap N D.nd q) 0 k (by omega)
            rw [Nat.add_zero, Nat.add_zero] at e
            rw [Pl.u_low, Pl.ap_out hq2, e])
          obtain ⟨m, hm⟩ : ∃ m, m = min (q - r) 800 := ⟨_, rfl⟩
          have HRD := Lib.hid (show m < 800 → Pl.rdg N D.nd k r m = Pl.ap N D.nd q % (10 * 2 ^ k) / 2 ^ k + 48 from fun h => by
            rw [Pl.u_dig, show q = r + m by omega]; rfl)
          rw [← hm] at HX ⊢
          have HM := Lib.hid hm
          clear hm
          generalize Pl.ap N D.nd q % (10 * 2 ^ k) = n at HU HRD HUN h0 ⊢
          have HP := P60.out
          have hnb : n < 18446744073709551616 := by have := HU.out; omega
          have ga := and_mask hnb HP
          have gs := shr_cast n k
          have hl : n % 2 ^ k < 2 ^ k := Nat.mod_lt _ (Nat.pow_pos (by omega))
          have hdg : n / 2 ^ k < 10 := by
            have := HU.out
            rw [Nat.div_lt_iff_lt_mul (Nat.pow_pos (by omega))]; exact this
          have hlw : n % 2 ^ k < 1152921504606846976 := by omega
          clear HP hl
          generalize hnl : n % 2 ^ k = nl at ga hlw
          generalize hnh : n / 2 ^ k = nh at gs hdg
          have HNL := Lib.hid hnl
          have HNH := Lib.hid hnh
          clear hnl hnh
          have f0 : decide ((0 : Int) < (n : Int)) = true := decide_eq_true (by omega)
          have g5 : IntKind.u64.wrap ((nl : Int) * 10) = (nl : Int) * 10 := IntWalk.u64_in _ (by omega)
          have g8 : IntKind.u64.wrap ((nh : Int) + 48) = (nh : Int) + 48 := IntWalk.u64_in _ (by omega)
          have g9 : ((nh : Int) + 48) % 256 = (nh : Int) + 48 := by omega
          have f4 : (0 : Int) ≤ (m : Int) := by omega
          have hm8 : m ≤ 800 := by have := HM.out; omega
          have c7 := HX.out.free 803
          have c8 : wr.cell? ⟨P, 803, none⟩ = some (.bool t) := HX.out.tr
          have HG := Lib.hid hg
          have hn0 : 0 < n := by omega
          clear hg h0
          by_cases h8 : m < 800
          · have f5 : (m : Int) < 800 := by omega
            have f6 : decide ((m : Int) < 800) = true := decide_eq_true f5
            have c6 := HX.out.dig m (by omega)
            have c9 := HX.out.free m
            go_wp2_with fail
            go_roundg (D.nd + k + 1 - (q + 1))
            case measure => have := HG.out; omega
            case rel => exact ⟨q + 1, t, rfl, by omega, by omega, by omega, by have := HM.out; congr 1; omega, by rw [HUN.out, HNL.out]; congr 1; omega, Lib.hid (by rw [show min (q + 1 - r) 800 = m + 1 by have := HM.out; omega, ← Pl.cut_put, HRD.out h8, HNH.out]; exact HX.out.put m (nh + 48) h8), Lib.hid (fun h => HTR.out (by omega)), Lib.hid (HB.out.setCell (Nat.le_refl _) _)⟩
          · have f6 : decide ((m : Int) < 800) = false := decide_eq_false (by omega)
            by_cases h9 : nh = 0
            · have hz : ¬ 0 < nh := by omega
              clear h9
              go_wp2_with fail
              go_roundg (D.nd + k + 1 - (q + 1))
              case measure => have := HG.out; omega
              case rel => exact ⟨q + 1, t, rfl, by omega, by omega, by omega, by have := HM.out; congr 1; omega, by rw [HUN.out, HNL.out]; congr 1; omega, Lib.hid (by rw [show min (q + 1 - r) 800 = m by have := HM.out; omega]; exact HX.out), Lib.hid (fun h => HTR.out (by omega)), HB⟩
            · have hz : 0 < nh := by omega
              clear h9
              go_wp2_with fail
              go_roundg (D.nd + k + 1 - (q + 1))
              case measure => have := HG.out; omega
              case rel => exact ⟨q + 1, true, rfl, by omega, by omega, by omega, by have := HM.out; congr 1; omega, by rw [HUN.out, HNL.out]; congr 1; omega, Lib.hid (by rw [show min (q + 1 - r) 800 = m by have := HM.out; omega]; exact HX.out.settr true), Lib.hid (fun h => by have := HM.out; omega), Lib.hid (HB.out.setCell (Nat.le_refl _) _)⟩
end Go.Proofs.YtpilniljhmkedaaGreatDoor
namespace Go.Proofs.YtpilniljhmkedaaGreatDoor
open Go.RowKit Go.Lib
def Dm.up (D : Dm) (m : Nat) : Bool := if D.d m = 53 ∧ m + 1 = D.nd then (if D.tr = true then true else decide (0 < m ∧ (D.d (m - 1) - 48) % 2 ≠ 0)) else decide (53 ≤ D.d m)
theorem sru_low (P : Nat) (D : Dm) (p : Int) (w : World) (hp : p < 0) (h : Has w P D) : Calls Tryz.prog 161 #[.pointer (some ⟨P, 0, none⟩), .int .i64 p] w fun e w' => e = .returned (.bool false) ∧ w' = w := by
  have c1 := h.nd
  have f1 : decide (p < 0) = true := decide_eq_true hp
  clear h
  go_enter Tryz.func161, Tryz.ntmps161
  go_wp2_with fail
  go_ret
  exact ⟨rfl, rfl⟩
theorem sru_out (P : Nat) (D : Dm) (p : Nat) (w : World) (hp : D.nd ≤ p) (h : Has w P D) : Calls Tryz.prog 161 #[.pointer (some ⟨P, 0, none⟩), .int .i64 (p : Int)] w fun e w' => e = .returned (.bool false) ∧ w' = w := by
  have c1 := h.nd
  have f0 : decide ((p : Int) < 0) = false := decide_eq_false (by omega)
  have f1 : decide ((D.nd : Int) ≤ (p : Int)) = true := decide_eq_true (by omega)
  clear h
  go_enter Tryz.func161, Tryz.ntmps161
  go_wp2_with fail
  go_ret
  exact ⟨rfl, rfl⟩
set_option maxRecDepth 100000 in
set_option maxHeartbeats 4000000 in
theorem sru_in (P : Nat) (D : Dm) (N m : Nat) (w : World) (hD : Pl.DIs D N) (hm : m < D.nd) (h : Has w P D) : Calls Tryz.prog 161 #[.pointer (some ⟨P, 0, none⟩), .int .i64 (m : Int)] w fun e w' => e = .returned (.bool (D.up m)) ∧ w' = w := by
  have hle := hD.le
  have c1 := h.nd
  have c2 := h.tr
  have c3 := h.dig m (by omega)
  have f0 : decide ((m : Int) < 0) = false := decide_eq_false (by omega)
  have f1 : decide ((D.nd : Int) ≤ (m : Int)) = false := decide_eq_false (by omega)
  have f2 : (0 : Int) ≤ (m : Int) := by omega
  have f3 : (m : Int) < 800 := by omega
  have f4 : IntKind.i64.wrap ((m : Int) + 1) = (m : Int) + 1 := IntWalk.i64_in _ (by omega)
  have HH := Lib.hid h
  have HD := Lib.hid hD
  clear h hD
  by_cases h1 : D.d m = 53
  · have f5 : ((D.d m : Int) == 53) = true := by rw [h1]; rfl
    by_cases h2 : m + 1 = D.nd
    · have f6 : ((m : Int) + 1 == (D.nd : Int)) = true := by rw [beq_iff_eq]; omega
      cases ht : D.tr with
      | true =>
        have HE := Lib.hid (show D.up m = true by unfold Dm.up; rw [if_pos ⟨h1, h2⟩, if_pos ht])
        rw [ht] at c2
        have H1 := Lib.hid h1
        clear h1 ht
        have H2 := Lib.hid h2
        clear h2
        go_enter Tryz.func161, Tryz.ntmps161
        go_wp2_with fail
        go_ret
        exact ⟨by rw [HE.out]; rfl, rfl⟩
      | false =>
        have HE := Lib.hid (show D.up m = decide (0 < m ∧ (D.d (m - 1) - 48) % 2 ≠ 0) by unfold Dm.up; rw [if_pos ⟨h1, h2⟩, if_neg (by rw [ht]; decide)])
        rw [ht] at c2
        have H1 := Lib.hid h1
        clear h1 ht
        have H2 := Lib.hid h2
        clear h2
        by_cases h3 : 0 < m
        · obtain ⟨j, rfl⟩ : ∃ j, m = j + 1 := ⟨m - 1, by omega⟩
          have c4 := HH.out.dig j (by omega)
          have hd := HD.out.dig j (by omega)
          have hdl : N / 10 ^ (D.nd - 1 - j) % 10 < 10 := Nat.mod_lt _ (by omega)
          rw [Nat.add_sub_cancel, hd] at HE
          rw [hd] at c4
          generalize N / 10 ^ (D.nd - 1 - j) % 10 = dj at hdl c4 HE
          rw [Int.natCast_add, Int.natCast_one] at f0 f1 f2 f3 f4 f6 ⊢
          have g0 : decide ((0 : Int) < (j : Int) + 1) = true := decide_eq_true (by omega)
          have g1 : IntKind.i64.wrap ((j : Int) + 1 - 1) = (j : Int) := by rw [Int.add_sub_cancel]; exact IntWalk.i64_in _ (by omega)
          have g2 : (0 : Int) ≤ (j : Int) := by omega
          have g3 : (j : Int) < 800 := by omega
          go_enter Tryz.func161, Tryz.ntmps161
          go_wp2_with fail
          go_ret
          refine ⟨?_, rfl⟩
          rw [HE.out]
          have : decide (0 < j + 1 ∧ (dj + 48 - 48) % 2 ≠ 0) = ((dj : Int) % 2 != 0) := by
            rw [Bool.eq_iff_iff, decide_eq_true_iff, bne_iff_ne]; omega
          rw [this]
          rfl
        · obtain rfl : m = 0 := by omega
          rw [decide_eq_false (by omega)] at HE
          rw [show ((0 : Nat) : Int) = 0 from rfl] at f0 f1 f2 f3 f4 f6 ⊢
          go_enter Tryz.func161, Tryz.ntmps161
          go_wp2_with fail
          go_ret
          exact ⟨by rw [HE.out]; rfl, rfl⟩
    · have f6 : ((m : Int) + 1 == (D.nd : Int)) = false := by rw [beq_eq_false_iff_ne]; omega
      have HE := Lib.hid (show D.up m = decide (53 ≤ D.d m) by unfold Dm.up; rw [if_neg (fun h => h2 h.2)])
      rw [decide_eq_true (by omega)] at HE
      have f7 : decide ((53 : Int) ≤ (D.d m : Int)) = true := decide_eq_true (by omega)
      have H1 := Lib.hid h1
      clear h1
      go_enter Tryz.func161, Tryz.ntmps161
      go_wp2_with fail
      go_ret
      exact ⟨by rw [HE.out]; rfl, rfl⟩
  · have f5 : ((D.d m : Int) == 53) = false := by rw [beq_eq_false_iff_ne]; omega
    have HE := Lib.hid (show D.up m = decide (53 ≤ D.d m) by unfold Dm.up; rw [if_neg (fun h => h1 h.1)])
    clear h1
    go_enter Tryz.func161, Tryz.ntmps161
    go_wp2_with fail
    go_ret
    refine ⟨?_, rfl⟩
    rw [HE.out]
    have : decide (53 ≤ D.d m) = decide ((53 : Int) ≤ (D.d m : Int)) := by
      rw [Bool.eq_iff_iff, decide_eq_true_iff, decide_eq_true_iff]; omega
    first | rfl | (rw [this]; rfl)
end Go.Proofs.YtpilniljhmkedaaGreatDoor
namespace Go.Proofs.YtpilniljhmkedaaGreatDoor
open Go.RowKit
namespace Pl
/-- the digits read so far are those of N -/
structure Dz (D : Dm) (N : Nat) : Prop where
  dig : ∀ i, i < D.nd → D.d i = N / 10 ^ (D.nd - 1 - i) % 10 + 48
  lo : D.nd = 0 ∨ 10 ^ (D.nd - 1) ≤ N
  hi : N < 10 ^ D.nd
theorem Dz.zero {D : Dm} (h : D.nd = 0) : Dz D 0 := ⟨fun i hi => by omega, .inl h, by rw [h]; decide⟩
theorem Dz.add {D : Dm} {N c : Nat} (h : Dz D N) (h1 : 48 ≤ c) (h2 : c ≤ 57) (h0 : D.nd = 0 → c ≠ 48) : Dz { (D.put D.nd c) with nd := D.nd + 1 } (N * 10 + (c - 48)) := by
  refine ⟨fun i hi => ?_, .inr ?_, ?_⟩
  · show (if i = D.nd then c else D.d i) = (N * 10 + (c - 48)) / 10 ^ (D.nd + 1 - 1 - i) % 10 + 48
    have hi' : i < D.nd + 1 := hi
    by_cases e : i = D.nd
    · rw [if_pos e, e, Nat.add_sub_cancel, Nat.sub_self, Nat.pow_zero, Nat.div_one]; omega
    · rw [if_neg e, h.dig i (by omega), show D.nd + 1 - 1 - i = 1 + (D.nd - 1 - i) by omega, Nat.pow_add, ← Nat.div_div_eq_div_mul, Nat.pow_one, show (N * 10 + (c - 48)) / 10 = N by omega]
  · show 10 ^ (D.nd + 1 - 1) ≤ N * 10 + (c - 48)
    rw [Nat.add_sub_cancel]
    rcases h.lo with e | e
    · have := h0 e; rw [e]; show 1 ≤ _; omega
    · have hp : 0 < D.nd ∨ D.nd = 0 := by omega
      rcases hp with hp | hp
      · have e2 : (10 : Nat) ^ D.nd = 10 ^ (D.nd - 1) * 10 := by rw [← Nat.pow_succ]; congr 1; omega
        rw [e2]; omega
      · have := h0 hp; rw [hp]; show 1 ≤ _; omega
  · show N * 10 + (c - 48) < 10 ^ (D.nd + 1)
    have := h.hi
    rw [Nat.pow_succ]; omega
theorem Dz.is {D : Dm} {N : Nat} (h : Dz D N) (h1 : 0 < D.nd) (h2 : D.nd ≤ 800) : DIs D N := ⟨h2, h1, h.dig, by rcases h.lo with e | e <;> omega, h.hi⟩
end Pl
end Go.Proofs.YtpilniljhmkedaaGreatDoor
namespace Go.Proofs.YtpilniljhmkedaaGreatDoor
open Go.RowKit Go.Lib
namespace Pl
def zdig (zs : Array Value) (i : Nat) : Bool := match zs[i]? with | some (.int k n) => k == .u8 && n == 0 | _ => false
theorem zdig_all : ((List.range 800).all (zdig Tryz.zeroCells143)) = true := by kernel_rfl
theorem zdig_is {i : Nat} (h : i < 800) : Tryz.zeroCells143[i]? = some (.int .u8 0) := by
  have := List.all_eq_true.1 zdig_all i (List.mem_range.2 h)
  unfold zdig at this
  split at this
  · rename_i k n hk
    rw [Bool.and_eq_true_iff, beq_iff_eq, beq_iff_eq] at this
    obtain ⟨rfl, rfl⟩ := this
    exact hk
  · exact absurd this (by decide)
/-- all digits, the point skipped -/
def dv (l : List UInt8) : Nat := l.foldl (fun n c => if c = 46 then n else n * 10 + (c.toNat - 48)) 0
theorem dv_snoc (l : List UInt8) (c : UInt8) : dv (l ++ [c]) = if c = 46 then dv l else dv l * 10 + (c.toNat - 48) := by simp [dv]
theorem dv_digits (l : List UInt8) (h : ∀ c ∈ l, digit c) : dv l = vl l := by
  induction l using snocRec with
  | nil => rfl
  | snoc l c ih => rw [dv_snoc, vl_snoc, if_neg (digit_ne46 (h c (by simp))), ih (fun x hx => h x (by simp [hx]))]
theorem dv_body (X Y : List UInt8) (hX : ∀ c ∈ X, digit c) (hY : ∀ c ∈ Y, digit c) : dv (X ++ 46 :: Y) = vl (X ++ Y) := by
  induction Y using snocRec with
  | nil =>
    have e : X ++ 46 :: [] = X ++ [46] := rfl
    rw [e, dv_snoc, if_pos rfl, List.append_nil]; exact dv_digits X hX
  | snoc Y c ih =>
    have e : X ++ 46 :: (Y ++ [c]) = (X ++ 46 :: Y) ++ [c] := by simp
    have e2 : X ++ (Y ++ [c]) = (X ++ Y) ++ [c] := by simp
    rw [e, e2, dv_snoc, vl_snoc, if_neg (digit_ne46 (hY c (by simp))), ih (fun x hx => hY x (by simp [hx]))]
theorem run_nd0 (l : List UInt8) (h : ∀ c ∈ l, c = 46 ∨ digit c) : (run l).nd = 0 → (run l).m = 0 := by
  induction l using snocRec with
  | nil => intro _; rfl
  | snoc l c ih =>
    have ih := ih (fun x hx => h x (by simp [hx]))
    rw [run_snoc]
    generalize run l = s at ih ⊢
    unfold step
    split
    · exact ih
    · split
      · exact ih
      · split <;> (intro e; simp at e)
end Pl
theorem has_zero {w : World} {P : Nat} (h : w.heap[P]? = some (.cells Tryz.zeroCells143 143 (0, 0))) : Has w P ⟨fun _ => 0, 0, 0, false, false⟩ := by
  have hs : P < w.heap.size := by
    rcases Nat.lt_or_ge P w.heap.size with h1 | h1
    · exact h1
    · rw [Array.getElem?_eq_none h1] at h; cases h
  have hc : ∀ i, w.cell? ⟨P, i, none⟩ = Tryz.zeroCells143[i]? := by
    intro i; unfold World.cell?; simp only [h]; rfl
  refine ⟨hs, fun i hi => ?_, ?_, ?_, ?_, ?_, fun i => ?_⟩
  · rw [hc, Pl.zdig_is hi]; rfl
  · rw [hc]; kernel_rfl
  · rw [hc]; kernel_rfl
  · rw [hc]; kernel_rfl
  · rw [hc]; kernel_rfl
  · unfold World.frozen?; simp [h]
/-- how a text ends behind its digits: no power, a power, a power with a sign -/
def TailAt (s : ByteArray) (j : Nat) : Option (Bool × List UInt8) → Prop
  | none => s.size = j
  | some (false, D) => s.size = j + 1 + D.length ∧ At s j [101] ∧ At s (j + 1) D ∧ 0 < D.length ∧ ∀ c ∈ D, Pl.digit c
  | some (true, D) => s.size = j + 2 + D.length ∧ At s j [101, 45] ∧ At s (j + 2) D ∧ 0 < D.length ∧ ∀ c ∈ D, Pl.digit c
def texp : Option (Bool × List UInt8) → Int | none => 0 | some (false, D) => Pl.erun D | some (true, D) => -(Pl.erun D : Int)
/-- what set leaves -/
structure SetAs (D : Dm) (M : List UInt8) (ex : Option (Bool × List UInt8)) (neg : Bool) : Prop where
  dz : Pl.Dz D (Pl.dv M)
  nd : D.nd = (Pl.run M).nd
  dp : D.dp = (Pl.run M).dp + texp ex
  ng : D.ng = neg
  tr : D.tr = false
/-- the loop's frame -/
structure SetIn (wr : World) (P : Nat) (w : World) (M : List UInt8) (nd : Nat) (dp : Int) (neg : Bool) : Prop where
  ex : ∃ D, Has wr P D ∧ Pl.Dz D (Pl.dv M) ∧ D.nd = nd ∧ D.dp = dp ∧ D.ng = neg ∧ D.tr = false
  bl : Below P w wr
end Go.Proofs.YtpilniljhmkedaaGreatDoor
namespace Go.Proofs.YtpilniljhmkedaaGreatDoor
open Go.RowKit Go.Lib
theorem Pl.Dz.todp {D : Dm} {N : Nat} (h : Pl.Dz D N) (x : Int) : Pl.Dz { D with dp := x } N := ⟨h.dig, h.lo, h.hi⟩
set_option maxRecDepth 100000 in
set_option maxHeartbeats 4000000 in
theorem set_core (s : ByteArray) (i0 P : Nat) (M : List UInt8) (ex : Option (Bool × List UInt8)) (neg : Bool) (w : World) (hM : MantOk M) (h3 : 3 ≤ M.length) (hl : s.size ≤ 400) (hat : At s i0 M) (hdig : (Pl.run M).dig = true) (hdot : (Pl.run M).dot = true)
    (hi0 : (neg = false ∧ i0 = 0) ∨ (neg = true ∧ i0 = 1 ∧ At s 0 [45])) (hd0 : Pl.digit M[0]) (htl : TailAt s (i0 + M.length) ex) (hH : Has w P ⟨fun _ => 0, 0, 0, false, false⟩) :
    Calls Tryz.prog 137 #[.pointer (some ⟨P, 0, none⟩), .string s] w fun e w' => e = .returned (.bool true) ∧ (∃ D, Has w' P D ∧ SetAs D M ex neg) ∧ Below P w w' := by
  have hsz : i0 + M.length ≤ s.size := by
    rcases ex with _ | ⟨_ | _, D⟩
    · have : s.size = _ := htl; omega
    · have := htl.1; omega
    · have := htl.1; omega
  have hii : i0 ≤ 1 := by rcases hi0 with h | h <;> omega
  have HH := Lib.hid hH
  have HA := Lib.hid hat
  have HM := Lib.hid hM
  have HT := Lib.hid htl
  have HG := Lib.hid (show (Pl.run M).dig = true ∧ (Pl.run M).dot = true from ⟨hdig, hdot⟩)
  have q0 : i0 < s.size := by omega
  have q00 : 0 < s.size := by omega
  have hne : decide (s = ByteArray.empty) = false := decide_eq_false (by rintro rfl; simp at q00)
  have a0 : s[i0]'q0 = M[0] := hat 0 (by omega) (by omega)
  generalize hc0 : M[0] = c0 at a0 hd0
  unfold Pl.digit at hd0
  have b1 : ((c0.toNat : Int) == 43) = false := by rw [beq_eq_false_iff_ne]; omega
  have b2 : ((c0.toNat : Int) == 45) = false := by rw [beq_eq_false_iff_ne]; omega
  have c1 : w.cell? ⟨P, 802, none⟩ = some (.bool false) := hH.ng
  have c2 : w.cell? ⟨P, 803, none⟩ = some (.bool false) := hH.tr
  have c3 := hH.free 802
  have c4 := hH.free 803
  have hs1 : s.size ≤ 400 := hl
  have z0 : (0 : Int) < (s.size : Int) := by omega
  clear hH hat hM htl hdig hdot hc0
  go_enter Tryz.func137, Tryz.ntmps137
  refine wp_seq_k (fun K hK => ?_)
  have HK := Lib.hid hK
  clear hK
  go_wp2_with fail
  refine HK.out _ _ ?_
  clear HK
  refine wp_seq_k (fun K hK => ?_)
  have HK := Lib.hid hK
  clear hK
  go_wp2_with fail
  refine HK.out _ _ ?_
  clear HK
  refine wp_seq_k (fun K hK => ?_)
  have HK := Lib.hid hK
  clear hK
  go_wp2_with fail
  refine HK.out _ _ ?_
  clear HK
  refine wp_seq_k (fun K hK => ?_)
  have HK := Lib.hid hK
  clear hK
  go_wp2_with fail
  refine HK.out _ _ ?_
  clear HK
  refine wp_seq_k (fun K hK => ?_)
  have HK := Lib.hid hK
  clear hK
  go_wp2_with fail
  refine HK.out _ _ ?_
  clear HK
  refine wp_seq_k (fun K hK => ?_)
  go_cut [5] from 16 to 33 (fun v wx => v = .int .i64 (i0 : Nat) ∧ Hid (Has wx P ⟨fun _ => 0, 0, 0, neg, false⟩) ∧ Hid (Below P w wx))
  case first =>
    rcases hi0 with ⟨rfl, rfl⟩ | ⟨rfl, rfl, h45⟩
    · have q01 : 0 < s.size := q0
      go_wp2_with fail
      go_meet
      case rel => exact ⟨rfl, Lib.hid ((HH.out.setng false).settr false), Lib.hid (((Below.refl P w).setCell (Nat.le_refl _) _).setCell (Nat.le_refl _) _)⟩
    · have a00 : s[0]'q00 = 45 := h45 0 (by decide) (by omega)
      go_wp2_with fail
      go_meet
      case rel => exact ⟨rfl, Lib.hid (((HH.out.setng false).settr false).setng true), Lib.hid ((((Below.refl P w).setCell (Nat.le_refl _) _).setCell (Nat.le_refl _) _).setCell (Nat.le_refl _) _)⟩
  case rest =>
  obtain ⟨rfl, HH1, HB1⟩ := hcut
  clear hi0 a0 b1 b2 hd0 c1 c2 c3 c4 z0 HH
  have HK := Lib.hid hK
  clear hK
  refine HK.out _ _ ?_
  clear HK
  go_wp2_with fail
  go_loopw [5, 6, 7] (fun v5 v6 v7 wr => ∃ (i m nd nm : Nat) (dp : Int) (dot dig tr : Bool), i0 ≤ i ∧ i ≤ i0 + M.length ∧ Hid (Pl.run (M.take (i - i0)) = ⟨m, nd, nm, dp, dot, dig, tr⟩) ∧ v5 = .int .i64 (i : Nat) ∧ v6 = .bool dot ∧ v7 = .bool dig ∧ Hid (SetIn wr P w (M.take (i - i0)) nd dp neg)) (fun v5 _ _ _ => s.size - (RowKit.intOf v5).toNat)
  case atStart => exact ⟨i0, 0, 0, 0, 0, false, false, false, Nat.le_refl _, by omega, Lib.hid (by rw [Nat.sub_self]; rfl), rfl, rfl, rfl, Lib.hid ⟨⟨_, HH1.out, by rw [Nat.sub_self]; exact Pl.Dz.zero rfl, rfl, rfl, rfl, rfl⟩, HB1.out⟩⟩
  case round =>
    obtain ⟨i, m, nd, nm, dp, dot, dig, tr, hi1, hi2, hst, rfl, rfl, rfl, hX⟩ := hrel
    have hok := Pl.run_ok (M.take (i - i0)) (fun c hc => HM.out.1 c (List.mem_of_mem_take hc))
    rw [hst.out, List.length_take, Nat.min_eq_left (by omega)] at hok
    have o3 : nd ≤ 400 := by have := hok.nd; simp only at this; omega
    have o4 : -400 ≤ dp := by have := hok.lo; simp only at this; omega
    have o5 : dp ≤ 400 := by have := hok.up; simp only at this; omega
    obtain ⟨⟨D, x1, x2, x3, x4, x5, x6⟩, hB⟩ := hX.out
    have HB := Lib.hid hB
    have X1 := Lib.hid x1
    have X2 := Lib.hid x2
    have X3 := Lib.hid x3
    have X4 := Lib.hid x4
    have X5 := Lib.hid x5
    have X6 := Lib.hid x6
    have c1 := x1.nd
    have c2 := x1.dp
    rw [x3] at c1
    rw [x4] at c2
    have d1 := x1.free 800
    have d2 := x1.free 801
    have d3 := x1.free nd
    have d4 := x1.dig nd (by omega)
    clear hX hB x1 x2 x3 x4 x5 x6 hok
    by_cases hlt : i < i0 + M.length
    · have qk : i < s.size := by omega
      have hlt2 : i - i0 < M.length := by omega
      have ak : s[i]'qk = M[i - i0] := HA.out.get hlt2 qk (by omega)
      have hck := HM.out.1 M[i - i0] (List.getElem_mem _)
      have hdk := Lib.hid (HM.out.2 (i - i0) hlt2)
      have hts : M.take (i + 1 - i0) = M.take (i - i0) ++ [M[i - i0]] := by rw [show i + 1 - i0 = i - i0 + 1 by omega, List.take_succ_eq_append_getElem hlt2]
      have HTR := Lib.hid (show Pl.run (M.take (i + 1 - i0)) = Pl.step ⟨m, nd, nm, dp, dot, dig, tr⟩ M[i - i0] by rw [hts, Pl.run_snoc, hst.out])
      have HDV := Lib.hid (show Pl.dv (M.take (i + 1 - i0)) = if M[i - i0] = 46 then Pl.dv (M.take (i - i0)) else Pl.dv (M.take (i - i0)) * 10 + (M[i - i0].toNat - 48) by rw [hts, Pl.dv_snoc])
      generalize M[i - i0] = c at ak hck hdk HTR HDV
      clear hts
      have hn0 : (0 : Int) ≤ (nd : Int) := by omega
      have hn8 : (nd : Int) < 800 := by omega
      have hi0' : (0 : Int) ≤ (i : Int) := by omega
      rcases hck with rfl | hck
      · obtain rfl : dot = false := by have := hdk.out rfl; rw [hst.out] at this; exact this
        clear hdk
        go_wp2_with fail
        go_roundw
        case rel => exact ⟨i + 1, m, nd, nm, nd, true, dig, tr, by omega, by omega, Lib.hid (by rw [HTR.out]; rfl), by go_num, rfl, rfl, Lib.hid ⟨⟨_, X1.out.setdp nd, by rw [HDV.out, if_pos rfl]; exact X2.out.todp _, X3.out, rfl, X5.out, X6.out⟩, HB.out.setCell (Nat.le_refl _) _⟩⟩
        case measure => simp [RowKit.intOf]; omega
      · have h46 : c ≠ 46 := Pl.digit_ne46 hck
        unfold Pl.digit at hck
        obtain ⟨hc1, hc2⟩ := hck
        have d95 : ((c.toNat : Int) == 95) = false := by rw [beq_eq_false_iff_ne]; omega
        have d46 : ((c.toNat : Int) == 46) = false := by rw [beq_eq_false_iff_ne]; omega
        have HDV2 := Lib.hid (HDV.out.trans (if_neg h46))
        clear hdk HDV h46
        by_cases e48 : c.toNat = 48 ∧ nd = 0
        · obtain ⟨e48, end0⟩ := e48
          subst end0
          have d48 : ((c.toNat : Int) == 48) = true := by rw [beq_iff_eq]; omega
          have HS := Lib.hid (HTR.out.trans (Pl.step_zero e48 rfl))
          have hw : IntKind.i64.wrap (dp - 1) = dp - 1 := IntWalk.i64_in _ (by omega)
          have HDZ := Lib.hid (show Pl.dv (M.take (i + 1 - i0)) = 0 by
            have := X2.out.hi
            rw [X3.out] at this
            rw [HDV2.out, e48]
            have : Pl.dv (M.take (i - i0)) < 1 := this
            omega)
          rw [show ((0 : Nat) : Int) = 0 from rfl] at c1
          clear HTR HDV2 e48
          go_wp2_with fail
          go_roundw
          case rel => exact ⟨i + 1, m, 0, nm, dp - 1, dot, true, tr, by omega, by omega, HS, by go_num, rfl, rfl, Lib.hid ⟨⟨_, X1.out.setdp (dp - 1), by rw [HDZ.out]; exact Pl.Dz.zero X3.out, X3.out, rfl, X5.out, X6.out⟩, HB.out.setCell (Nat.le_refl _) _⟩⟩
          case measure => simp [RowKit.intOf]; omega
        · have HSD := Lib.hid (show (Pl.run (M.take (i + 1 - i0))).nd = nd + 1 ∧ (Pl.run (M.take (i + 1 - i0))).dp = dp ∧ (Pl.run (M.take (i + 1 - i0))).dot = dot ∧ (Pl.run (M.take (i + 1 - i0))).dig = true by
            rw [HTR.out]
            have hc46 : ¬ c = 46 := fun e => by rw [e] at d46; exact absurd d46 (by decide)
            have hc48 : ¬ (c = 48 ∧ nd = 0) := fun e => e48 ⟨by rw [e.1]; rfl, e.2⟩
            unfold Pl.step
            rw [if_neg hc46, if_neg hc48]
            split <;> exact ⟨rfl, rfl, rfl, rfl⟩)
          have HDZ := Lib.hid (show Pl.Dz { (D.put D.nd c.toNat) with nd := D.nd + 1 } (Pl.dv (M.take (i + 1 - i0))) by
            rw [HDV2.out]
            exact X2.out.add hc1 hc2 (fun h e => e48 ⟨e, by rw [← X3.out]; exact h⟩))
          obtain ⟨b48, d48⟩ : ∃ b, ((c.toNat : Int) == 48) = b := ⟨_, rfl⟩
          obtain ⟨b0, d0⟩ : ∃ b, ((nd : Int) == 0) = b := ⟨_, rfl⟩
          have hbb : b48 = true → b0 = false := by
            intro h1
            rw [h1, beq_iff_eq] at d48
            rw [← d0, beq_eq_false_iff_ne]
            intro h2
            exact e48 ⟨by omega, by omega⟩
          have hw : IntKind.i64.wrap ((nd : Int) + 1) = (nd : Int) + 1 := IntWalk.i64_in _ (by omega)
          have hd8 : decide ((nd : Int) < 800) = true := decide_eq_true (by omega)
          clear HTR HDV2 e48
          cases b48
          · clear d0 hbb
            go_wp2_with fail
            go_region
            have HP := Lib.hid (show Has (wr.setCell ⟨P, nd, none⟩ (.int .u8 (c.toNat : Nat))).drew P (D.put nd c.toNat) from (X1.out.put nd c.toNat (by omega)).drew)
            have HBP := Lib.hid (show Below P w (wr.setCell ⟨P, nd, none⟩ (.int .u8 (c.toNat : Nat))).drew from below_drewN (HB.out.setCell (Nat.le_refl _) _) 1)
            generalize (wr.setCell ⟨P, nd, none⟩ (.int .u8 (c.toNat : Nat))).drew = wd at HP HBP ⊢
            clear c1 c2 d1 d2 d3 d4
            have c1 : wd.cell? ⟨P, 800, none⟩ = some (.int .i64 (nd : Nat)) := by have := HP.out.nd; rw [← X3.out]; exact this
            have d1 := HP.out.free 800
            go_wp2_with fail
            go_roundw
            case rel => exact ⟨i + 1, _, nd + 1, _, dp, dot, true, _, by omega, by omega, Lib.hid (by rw [← HSD.out.1, ← HSD.out.2.1, ← HSD.out.2.2.1, ← HSD.out.2.2.2]), by go_num, rfl, rfl, Lib.hid ⟨⟨_, HP.out.setnd (nd + 1), by rw [← X3.out]; exact HDZ.out, rfl, X4.out, X5.out, X6.out⟩, HBP.out.setCell (Nat.le_refl _) _⟩⟩
            case measure => simp [RowKit.intOf]; omega
          · obtain rfl := hbb rfl
            go_wp2_with fail
            go_region
            have HP := Lib.hid (show Has (wr.setCell ⟨P, nd, none⟩ (.int .u8 (c.toNat : Nat))).drew P (D.put nd c.toNat) from (X1.out.put nd c.toNat (by omega)).drew)
            have HBP := Lib.hid (show Below P w (wr.setCell ⟨P, nd, none⟩ (.int .u8 (c.toNat : Nat))).drew from below_drewN (HB.out.setCell (Nat.le_refl _) _) 1)
            generalize (wr.setCell ⟨P, nd, none⟩ (.int .u8 (c.toNat : Nat))).drew = wd at HP HBP ⊢
            clear c1 c2 d1 d2 d3 d4
            have c1 : wd.cell? ⟨P, 800, none⟩ = some (.int .i64 (nd : Nat)) := by have := HP.out.nd; rw [← X3.out]; exact this
            have d1 := HP.out.free 800
            go_wp2_with fail
            go_roundw
            case rel => exact ⟨i + 1, _, nd + 1, _, dp, dot, true, _, by omega, by omega, Lib.hid (by rw [← HSD.out.1, ← HSD.out.2.1, ← HSD.out.2.2.1, ← HSD.out.2.2.2]), by go_num, rfl, rfl, Lib.hid ⟨⟨_, HP.out.setnd (nd + 1), by rw [← X3.out]; exact HDZ.out, rfl, X4.out, X5.out, X6.out⟩, HBP.out.setCell (Nat.le_refl _) _⟩⟩
            case measure => simp [RowKit.intOf]; omega
    · obtain rfl : i = i0 + M.length := by omega
      rw [show i0 + M.length - i0 = M.length by omega, List.take_length] at hst X2
      obtain rfl : dig = true := by have := HG.out.1; rw [hst.out] at this; exact this
      obtain rfl : dot = true := by have := HG.out.2; rw [hst.out] at this; exact this
      have hJle : i0 + M.length ≤ s.size := hsz
      obtain ⟨J, hJd⟩ : ∃ J, i0 + M.length = J := ⟨_, rfl⟩
      rw [hJd] at HT hJle ⊢
      clear hlt hi1 hi2 hJd hsz q0
      have X3' := Lib.hid (show D.nd = (Pl.run M).nd by rw [X3.out, hst.out])
      rcases ex with _ | ⟨_ | _, E⟩
      · have ht : s.size = J := HT.out
        clear HT
        go_wp2_with fail
        go_ret
        exact ⟨rfl, ⟨D, X1.out, ⟨X2.out, X3'.out, by rw [X4.out, hst.out]; simp only [texp]; omega, X5.out, X6.out⟩⟩, HB.out⟩
      · obtain ⟨t1, t2, t3, t4, t5⟩ := HT.out
        have HAD := Lib.hid t3
        have HD := Lib.hid t5
        clear HT t3 t5
        obtain ⟨N, hN⟩ : ∃ N, s.size = N := ⟨_, rfl⟩
        have qJ : J < s.size := by omega
        have aJ : s[J]'qJ = 101 := t2 0 (by decide) (by omega)
        have q2 : J + 1 < s.size := by omega
        have a2 : s[J + 1]'q2 = E[0] := HAD.out.get t4 q2 (by omega)
        have hd2 := HD.out E[0] (List.getElem_mem _)
        generalize E[0] = c2 at a2 hd2
        unfold Pl.digit at hd2
        have f1 : ((c2.toNat : Int) == 43) = false := by rw [beq_eq_false_iff_ne]; omega
        have f2 : ((c2.toNat : Int) == 45) = false := by rw [beq_eq_false_iff_ne]; omega
        have f3 : decide (c2.toNat < 48) = false := decide_eq_false (by omega)
        have f4 : decide (57 < c2.toNat) = false := decide_eq_false (by omega)
        have hlow : bits .or .u8 101 32 = 101 := by decide
        clear t2
        go_wp2_with (refine (Tryz.internal_strconv_lower _ _).mono ?_; rintro e wo ⟨rfl, rfl⟩)
        go_loopw [5, 9] (fun v5 v9 wr => ∃ i e : Nat, J + 1 ≤ i ∧ i ≤ s.size ∧ v5 = .int .i64 (i : Nat) ∧ v9 = .int .i64 (e : Nat) ∧ Hid (Pl.erun (E.take (i - (J + 1))) = e) ∧ wr = wo) (fun v5 _ _ => s.size - (RowKit.intOf v5).toNat)
        case atStart => exact ⟨J + 1, 0, Nat.le_refl _, by omega, by go_num, rfl, Lib.hid (by simp [Pl.erun]), rfl⟩
        case round =>
          obtain ⟨i, e, hi1, hi2, rfl, rfl, he, rfl⟩ := hrel
          have hel := Pl.erun_le (E.take (i - (J + 1))) (fun c hc => HD.out c (List.mem_of_mem_take hc))
          rw [he.out] at hel
          by_cases hi3 : i < s.size
          · have hi4 : i - (J + 1) < E.length := by omega
            have ai : s[i]'hi3 = E[i - (J + 1)] := HAD.out.get hi4 hi3 (by omega)
            have hci := HD.out E[i - (J + 1)] (List.getElem_mem _)
            have HT := Lib.hid (show Pl.erun (E.take (i + 1 - (J + 1))) = Pl.estep e E[i - (J + 1)] by rw [show i + 1 - (J + 1) = i - (J + 1) + 1 by omega, List.take_succ_eq_append_getElem hi4, Pl.erun_snoc, he.out])
            generalize E[i - (J + 1)] = c at ai hci HT
            unfold Pl.digit at hci
            have g95 : ((c.toNat : Int) == 95) = false := by rw [beq_eq_false_iff_ne]; omega
            obtain ⟨hci1, hci2⟩ := hci
            have HC := Lib.hid hci1
            by_cases e4 : e < 10000
            · go_wp2_with fail
              go_roundw
              case rel => exact ⟨i + 1, e * 10 + (c.toNat - 48), by omega, by omega, by go_num, int_eq (by have := HC.out; omega), Lib.hid (by rw [HT.out]; unfold Pl.estep; rw [if_pos e4]), trivial⟩
              case measure => simp [RowKit.intOf]; omega
            · go_wp2_with fail
              go_roundw
              case rel => exact ⟨i + 1, e, by omega, by omega, by go_num, rfl, Lib.hid (by rw [HT.out]; unfold Pl.estep; rw [if_neg e4]), trivial⟩
              case measure => simp [RowKit.intOf]; omega
          · obtain rfl : i = s.size := by omega
            have HE2 := Lib.hid (show Pl.erun E = e by rw [← he.out, List.take_of_length_le (by omega)])
            have hw : IntKind.i64.wrap (dp + (e : Nat)) = dp + (e : Nat) := IntWalk.i64_in _ (by omega)
            clear hi3
            go_wp2_with fail
            go_ret
            exact ⟨rfl, ⟨_, X1.out.setdp (dp + (e : Nat)), ⟨X2.out.todp _, X3'.out, by rw [hst.out]; show dp + (e : Nat) = dp + ((Pl.erun E : Nat) : Int); rw [HE2.out], X5.out, X6.out⟩⟩, HB.out.setCell (Nat.le_refl _) _⟩
      · obtain ⟨t1, t2, t3, t4, t5⟩ := HT.out
        have HAD := Lib.hid t3
        have HD := Lib.hid t5
        clear HT t3 t5
        obtain ⟨N, hN⟩ : ∃ N, s.size = N := ⟨_, rfl⟩
        have qJ : J < s.size := by omega
        have aJ : s[J]'qJ = 101 := t2 0 (by decide) (by omega)
        have qJ1 : J + 1 < s.size := by omega
        have aS : s[J + 1]'qJ1 = 45 := t2 1 (by decide) (by omega)
        have q2 : J + 2 < s.size := by omega
        have a2 : s[J + 2]'q2 = E[0] := HAD.out.get t4 q2 (by omega)
        have hd2 := HD.out E[0] (List.getElem_mem _)
        generalize E[0] = c2 at a2 hd2
        unfold Pl.digit at hd2
        have f1 : ((c2.toNat : Int) == 43) = false := by rw [beq_eq_false_iff_ne]; omega
        have f2 : ((c2.toNat : Int) == 45) = false := by rw [beq_eq_false_iff_ne]; omega
        have f3 : decide (c2.toNat < 48) = false := decide_eq_false (by omega)
        have f4 : decide (57 < c2.toNat) = false := decide_eq_false (by omega)
        have hlow : bits .or .u8 101 32 = 101 := by decide
        clear t2
        go_wp2_with (refine (Tryz.internal_strconv_lower _ _).mono ?_; rintro e wo ⟨rfl, rfl⟩)
        go_loopw [5, 9] (fun v5 v9 wr => ∃ i e : Nat, J + 2 ≤ i ∧ i ≤ s.size ∧ v5 = .int .i64 (i : Nat) ∧ v9 = .int .i64 (e : Nat) ∧ Hid (Pl.erun (E.take (i - (J + 2))) = e) ∧ wr = wo) (fun v5 _ _ => s.size - (RowKit.intOf v5).toNat)
        case atStart => exact ⟨J + 2, 0, Nat.le_refl _, by omega, by go_num, rfl, Lib.hid (by simp [Pl.erun]), rfl⟩
        case round =>
          obtain ⟨i, e, hi1, hi2, rfl, rfl, he, rfl⟩ := hrel
          have hel := Pl.erun_le (E.take (i - (J + 2))) (fun c hc => HD.out c (List.mem_of_mem_take hc))
          rw [he.out] at hel
          by_cases hi3 : i < s.size
          · have hi4 : i - (J + 2) < E.length := by omega
            have ai : s[i]'hi3 = E[i - (J + 2)] := HAD.out.get hi4 hi3 (by omega)
            have hci := HD.out E[i - (J + 2)] (List.getElem_mem _)
            have HT := Lib.hid (show Pl.erun (E.take (i + 1 - (J + 2))) = Pl.estep e E[i - (J + 2)] by rw [show i + 1 - (J + 2) = i - (J + 2) + 1 by omega, List.take_succ_eq_append_getElem hi4, Pl.erun_snoc, he.out])
            generalize E[i - (J + 2)] = c at ai hci HT
            unfold Pl.digit at hci
            have g95 : ((c.toNat : Int) == 95) = false := by rw [beq_eq_false_iff_ne]; omega
            obtain ⟨hci1, hci2⟩ := hci
            have HC := Lib.hid hci1
            by_cases e4 : e < 10000
            · go_wp2_with fail
              go_roundw
              case rel => exact ⟨i + 1, e * 10 + (c.toNat - 48), by omega, by omega, by go_num, int_eq (by have := HC.out; omega), Lib.hid (by rw [HT.out]; unfold Pl.estep; rw [if_pos e4]), trivial⟩
              case measure => simp [RowKit.intOf]; omega
            · go_wp2_with fail
              go_roundw
              case rel => exact ⟨i + 1, e, by omega, by omega, by go_num, rfl, Lib.hid (by rw [HT.out]; unfold Pl.estep; rw [if_neg e4]), trivial⟩
              case measure => simp [RowKit.intOf]; omega
          · obtain rfl : i = s.size := by omega
            have HE2 := Lib.hid (show Pl.erun E = e by rw [← he.out, List.take_of_length_le (by omega)])
            have hw : IntKind.i64.wrap (dp + -(e : Nat)) = dp + -(e : Nat) := IntWalk.i64_in _ (by omega)
            clear hi3
            go_wp2_with fail
            go_ret
            exact ⟨rfl, ⟨_, X1.out.setdp (dp + -(e : Nat)), ⟨X2.out.todp _, X3'.out, by rw [hst.out]; show dp + -(e : Nat) = dp + -((Pl.erun E : Nat) : Int); rw [HE2.out], X5.out, X6.out⟩⟩, HB.out.setCell (Nat.le_refl _) _⟩
end Go.Proofs.YtpilniljhmkedaaGreatDoor
namespace Go.Proofs.YtpilniljhmkedaaGreatDoor
open Go.RowKit Go.Lib
theorem shift_left (P k N : Nat) (D : Dm) (w : World) (hD : Pl.DIs D N) (hk1 : 1 ≤ k) (hk : k ≤ 60) (hp1 : -1000000 ≤ D.dp) (hp2 : D.dp ≤ 1000000) (ht : Tbs w P) (h : Has w P D) :
    Calls Tryz.prog 114 #[.pointer (some ⟨P, 0, none⟩), .int .i64 (k : Int)] w fun e w' => e = .returned (.tuple #[]) ∧ (∃ D' E N', Lsh D N k D' E N' ∧ Has w' P D') ∧ Below P w w' := by
  have c1 := h.nd
  have hpos := hD.pos
  have HC := Lib.hid (lsh_any P k N D w hD hk1 hk hp1 hp2 ht h)
  have f1 : ((D.nd : Int) == 0) = false := by rw [beq_eq_false_iff_ne]; omega
  have f2 : decide ((0 : Int) < (k : Int)) = true := decide_eq_true (by omega)
  have f3 : decide ((60 : Int) < (k : Int)) = false := decide_eq_false (by omega)
  have f4 : IntKind.u64.wrap (k : Int) = (k : Int) := IntWalk.u64_in _ (by omega)
  clear h ht hD
  go_enter Tryz.func114, Tryz.ntmps114
  go_wp2_with fail
  go_loopw [1] (fun a wr => a = .int .i64 (k : Int) ∧ wr = w) (fun _ _ => 0)
  case atStart => exact ⟨rfl, rfl⟩
  case round =>
    obtain ⟨rfl, rfl⟩ := hrel
    go_wp2_with fail
    refine HC.out.mono ?_
    rintro e w' ⟨rfl, hr, hb⟩
    go_wp2_with fail
    exact ⟨rfl, _, results_none Tryz.results114 _ _ _, rfl, hr, hb⟩
theorem shift_right (P k N : Nat) (D : Dm) (w : World) (hD : Pl.DIs D N) (hk1 : 1 ≤ k) (hk : k ≤ 60) (hp1 : -1000000 ≤ D.dp) (hp2 : D.dp ≤ 1000000) (h : Has w P D) :
    Calls Tryz.prog 114 #[.pointer (some ⟨P, 0, none⟩), .int .i64 (-(k : Int))] w fun e w' => e = .returned (.tuple #[]) ∧ (∃ D' r N', Rsh D N k D' r N' ∧ Has w' P D') ∧ Below P w w' := by
  have c1 := h.nd
  have hpos := hD.pos
  have HC := Lib.hid (rsh_any P k N D w hD hk1 hk hp1 hp2 h)
  obtain ⟨z, hz⟩ : ∃ z : Int, z = -(k : Int) := ⟨_, rfl⟩
  rw [← hz]
  have f1 : ((D.nd : Int) == 0) = false := by rw [beq_eq_false_iff_ne]; omega
  have f2 : decide ((0 : Int) < z) = false := decide_eq_false (by omega)
  have f3 : decide (z < 0) = true := decide_eq_true (by omega)
  have f5 : decide (z < -60) = false := decide_eq_false (by omega)
  have f6 : IntKind.i64.wrap (-z) = (k : Int) := by rw [hz, Int.neg_neg]; exact IntWalk.i64_in _ (by omega)
  have f4 : IntKind.u64.wrap (k : Int) = (k : Int) := IntWalk.u64_in _ (by omega)
  clear h hD hz
  go_enter Tryz.func114, Tryz.ntmps114
  go_wp2_with fail
  go_loopw [1] (fun a wr => a = .int .i64 z ∧ wr = w) (fun _ _ => 0)
  case atStart => exact ⟨rfl, rfl⟩
  case round =>
    obtain ⟨rfl, rfl⟩ := hrel
    go_wp2_with fail
    refine HC.out.mono ?_
    rintro e w' ⟨rfl, hr, hb⟩
    go_wp2_with fail
    exact ⟨rfl, _, results_none Tryz.results114 _ _ _, rfl, hr, hb⟩
end Go.Proofs.YtpilniljhmkedaaGreatDoor
namespace Go.Proofs.YtpilniljhmkedaaGreatDoor
open Go.RowKit Go.Lib
theorem Pl.ap_ge {N nd q : Nat} (h : 10 ^ (nd - 1) ≤ N) (hn : 0 < nd) : 10 ^ q ≤ Pl.ap N nd (q + 1) := by
  unfold Pl.ap
  rw [Nat.le_div_iff_mul_le (Nat.pow_pos (by decide))]
  have e1 : (10 : Nat) ^ nd = 10 ^ (nd - 1) * 10 := by rw [← Nat.pow_succ]; congr 1; omega
  rw [e1, Nat.pow_succ, show 10 ^ q * (10 ^ (nd - 1) * 10) = 10 ^ (nd - 1) * (10 ^ q * 10) by rw [Nat.mul_left_comm]]
  exact Nat.mul_le_mul_right _ h
theorem Rsh.r20 {D D' : Dm} {N k r N' : Nat} (h : Rsh D N k D' r N') (hD : Pl.DIs D N) (hk : k ≤ 60) : r ≤ 20 := by
  rcases Nat.lt_or_ge 20 r with hr | hr
  · exfalso
    have h1 := h.hi
    have h2 : 10 ^ (r - 2) ≤ Pl.ap N D.nd (r - 1) := by
      have := Pl.ap_ge (q := r - 2) hD.lo hD.pos
      rwa [show r - 2 + 1 = r - 1 by omega] at this
    have h3 : 10 ^ 19 ≤ 10 ^ (r - 2) := Nat.pow_le_pow_right (by decide) (by omega)
    have h4 : 2 ^ k ≤ 2 ^ 60 := Nat.pow_le_pow_right (by decide) hk
    have h5 : (2 : Nat) ^ 60 < 10 ^ 19 := by decide
    omega
  · exact hr
set_option maxHeartbeats 4000000 in
theorem shift_right_any (P n N : Nat) (D : Dm) (w : World) (hD : Pl.DIs D N) (hn1 : 1 ≤ n) (hn : n ≤ 400000) (hp1 : -400000 ≤ D.dp) (hp2 : D.dp ≤ 1000000) (h : Has w P D) :
    Calls Tryz.prog 114 #[.pointer (some ⟨P, 0, none⟩), .int .i64 (-(n : Int))] w fun e w' => e = .returned (.tuple #[]) ∧ (∃ D' N', Pl.DIs D' N' ∧ Has w' P D' ∧ D'.dp ≤ D.dp ∧ D.dp - n - 20 ≤ D'.dp ∧ D'.ng = D.ng) ∧ Below P w w' := by
  have c1 := h.nd
  have hpos := hD.pos
  have HD := Lib.hid hD
  have HH := Lib.hid h
  obtain ⟨z, hz⟩ : ∃ z : Int, z = -(n : Int) := ⟨_, rfl⟩
  rw [← hz]
  have f1 : ((D.nd : Int) == 0) = false := by rw [beq_eq_false_iff_ne]; omega
  have f2 : decide ((0 : Int) < z) = false := decide_eq_false (by omega)
  have f3 : decide (z < 0) = true := decide_eq_true (by omega)
  have HZ := Lib.hid hz
  clear h hD hz
  go_enter Tryz.func114, Tryz.ntmps114
  go_wp2_with fail
  go_loopw [1] (fun a wr => ∃ m : Nat, 1 ≤ m ∧ m ≤ n ∧ a = .int .i64 (-(m : Int)) ∧ Hid (∃ D2 N2, Pl.DIs D2 N2 ∧ Has wr P D2 ∧ D2.dp ≤ D.dp ∧ D.dp - (n - m) ≤ D2.dp ∧ D2.ng = D.ng) ∧ Hid (Below P w wr)) (fun a _ => (-(RowKit.intOf a)).toNat)
  case atStart => exact ⟨n, hn1, Nat.le_refl _, by rw [HZ.out], Lib.hid ⟨D, N, HD.out, HH.out, by omega, by omega, rfl⟩, Lib.hid (Below.refl _ _)⟩
  case round =>
    obtain ⟨m, hm1, hm2, rfl, HX, HB⟩ := hrel
    clear c1 f2 f3 f1 HD HH
    obtain ⟨D2, N2, x1, x2, x3, x4, x5⟩ := HX.out
    have X1 := Lib.hid x1
    have X2 := Lib.hid x2
    have X5 := Lib.hid x5
    clear HX x1 x2 x5
    obtain ⟨y, hy⟩ : ∃ y : Int, y = -(m : Int) := ⟨_, rfl⟩
    by_cases h60 : 60 < m
    · have HC := Lib.hid (rsh_any P 60 N2 D2 wr X1.out (by omega) (by omega) (by omega) (by omega) X2.out)
      have f5 : decide (y < -60) = true := decide_eq_true (by omega)
      have f6 : IntKind.i64.wrap (y + 60) = y + 60 := IntWalk.i64_in _ (by omega)
      rw [← hy]
      have HY := Lib.hid hy
      clear hy
      go_wp2_with fail
      refine HC.out.mono ?_
      rintro e w' ⟨rfl, ⟨D3, r, N3, hr, hh⟩, hb⟩
      have hr20 := hr.r20 X1.out (by omega)
      have hr1 := hr.r1
      have hdp := hr.dp
      have HR := Lib.hid hr
      have HH3 := Lib.hid hh
      have HB3 := Lib.hid (HB.out.trans hb)
      clear hr hh hb
      go_wp2_with fail
      go_roundw
      case rel => exact ⟨m - 60, by omega, by omega, by rw [HY.out]; congr 1; omega, Lib.hid ⟨D3, N3, HR.out.is, HH3.out, by omega, by omega, by rw [HR.out.ng, X5.out]⟩, HB3⟩
      case measure => have := HY.out; simp only [RowKit.intOf]; omega
    · have HC := Lib.hid (rsh_any P m N2 D2 wr X1.out (by omega) (by omega) (by omega) (by omega) X2.out)
      have f5 : decide (y < -60) = false := decide_eq_false (by omega)
      have f6 : IntKind.i64.wrap (-y) = (m : Int) := by rw [hy, Int.neg_neg]; exact IntWalk.i64_in _ (by omega)
      have f4 : IntKind.u64.wrap (m : Int) = (m : Int) := IntWalk.u64_in _ (by omega)
      rw [← hy]
      clear hy
      go_wp2_with fail
      refine HC.out.mono ?_
      rintro e w' ⟨rfl, ⟨D3, r, N3, hr, hh⟩, hb⟩
      have hr20 := hr.r20 X1.out (by omega)
      have hr1 := hr.r1
      have hdp := hr.dp
      have HR := Lib.hid hr
      have HH3 := Lib.hid hh
      have HB3 := Lib.hid (HB.out.trans hb)
      clear hr hh hb
      go_wp2_with fail
      exact ⟨rfl, _, results_none Tryz.results114 _ _ _, rfl, ⟨D3, N3, HR.out.is, HH3.out, by omega, by omega, by rw [HR.out.ng, X5.out]⟩, HB3.out⟩
end Go.Proofs.YtpilniljhmkedaaGreatDoor
