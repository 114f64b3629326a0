/- The reading of a float's digits: the contract of readFloat at one form of texts. -/
import Derived.Test.YtlodbibagmblkaaGreatDoorTaai
namespace Go.Proofs.YtlodbibagmblkaaGreatDoor
open Go.RowKit Go.Lib

set_option maxHeartbeats 4000000 in
set_option maxRecDepth 100000 in
theorem read_pos_nexp (s : ByteArray) (M D : List UInt8) (w : World) (hsz : Hid (s.size = 0 + M.length + 2 + D.length)) (hD : 0 < D.length) (hDl : D.length ≤ 1000) (hDd : ∀ c ∈ D, Pl.digit c) (hAD : At s (0 + M.length + 2) D) (qE : 0 + M.length < s.size) (hE : s[0 + M.length]'qE = 101) (qS : 0 + M.length + 1 < s.size) (hS : s[0 + M.length + 1]'qS = 45) (hM : MantOk M) (h3 : 3 ≤ M.length) (hl : M.length ≤ 1000) (hat : At s 0 M) (hdig : (Pl.run M).dig = true) (hdot : (Pl.run M).dot = true)
    (hd0 : Pl.digit M[0]) :
    Calls Tryz.prog 281 #[.string s] w (rfOk (Pl.run M) (-(Pl.erun D : Int)) false (0 + M.length + 2 + D.length) w) := by
  have hs0 : s.size = 0 + M.length + 2 + D.length := hsz.out
  obtain ⟨N, hN⟩ : ∃ N, 0 + M.length + 2 + D.length = N := ⟨_, rfl⟩
  rw [hN] at hs0 ⊢
  have hN3 : 0 + 3 ≤ N := by omega
  have hN4 : N ≤ 2002 := by omega
  have q0 : 0 < s.size := by omega
  have q1 : 0 + 1 < s.size := by omega
  have a0 : s[0]'q0 = M[0] := hat 0 (by omega) (by omega)
  have a1 : s[0 + 1]'q1 = M[1] := hat 1 (by omega) (by omega)
  have hc1 : (bits .or .u8 (M[1].toNat : Int) 32 == 120) = false := low_x (hM.1 _ (List.getElem_mem _))
  generalize M[0] = c0 at a0 hd0
  generalize M[1] = c1 at a1 hc1
  unfold Pl.digit at hd0
  have b1 : ((c0.toNat : Int) == 43) = false := by rw [beq_eq_false_iff_ne]; omega
  have b2 : ((c0.toNat : Int) == 45) = false := by rw [beq_eq_false_iff_ne]; omega
  obtain ⟨bb, b3⟩ : ∃ bb : Bool, ((c0.toNat : Int) == 48) = bb := ⟨_, rfl⟩
  have HN := Lib.hid hN
  have hM1 := Lib.hid hl
  clear hN h3 hl hsz
  have HSg := Lib.hid hS
  clear hS
  have HE := Lib.hid hE
  have HAD := Lib.hid hAD
  have HD := Lib.hid hDd
  clear hE hAD hDd
  have HA := Lib.hid hat
  have HM := Lib.hid hM
  have HG := Lib.hid (show (Pl.run M).dig = true ∧ (Pl.run M).dot = true from ⟨hdig, hdot⟩)
  clear hat hM hdig hdot
  cases bb
  all_goals
    go_enter Tryz.func281, Tryz.ntmps281
    go_wp2_with fail
    go_step3
    go_wp2_with (refine (Tryz.internal_strconv_lower _ _).mono ?_; rintro e w' ⟨rfl, rfl⟩)
    go_step3
    go_wp2_with fail
    go_loop [2, 5, 7, 9, 13, 14, 15, 16, 17] (fun v2 v5 v7 v9 v13 v14 v15 v16 v17 => ∃ (i m nd nm : Nat) (dp : Int) (dot dig tr : Bool), 0 ≤ i ∧ i ≤ 0 + M.length ∧ Hid (Pl.run (M.take (i - 0)) = ⟨m, nd, nm, dp, dot, dig, tr⟩) ∧ v7 = .int .i64 i ∧ v2 = .int .u64 m ∧ v5 = .bool tr ∧ v9 = .bool false ∧ v13 = .bool dot ∧ v14 = .bool dig ∧ v15 = .int .i64 nd ∧ v16 = .int .i64 nm ∧ v17 = .int .i64 dp) (fun _ _ v7 _ _ _ _ _ _ => N - (RowKit.intOf v7).toNat)
    case atStart => exact ⟨0, 0, 0, 0, 0, false, false, false, Nat.le_refl _, by omega, Lib.hid rfl, rfl, rfl, rfl, rfl, rfl, rfl, rfl, rfl, rfl⟩
    case round =>
      obtain ⟨i, m, nd, nm, dp, dot, dig, tr, hi0, hk, hst, rfl, rfl, rfl, rfl, rfl, rfl, rfl, rfl, rfl⟩ := hrel
      have hok := Pl.run_ok (M.take (i - 0)) (fun c hc => HM.out.1 c (List.mem_of_mem_take hc))
      rw [hst.out, List.length_take, Nat.min_eq_left (by omega)] at hok
      have o1 := hok.m
      have o2 : nm ≤ 19 := hok.nm
      have o3 : nd ≤ 1001 := by have := hok.nd; have := hM1.out; simp only at *; omega
      have o4 : -1001 ≤ dp := by have := hok.lo; have := hM1.out; simp only at *; omega
      have o5 : dp ≤ 1001 := by have := hok.up; have := hM1.out; simp only at *; omega
      have hk1 : i ≤ N := by have := HN.out; omega
      have o6 : m < 10000000000000000000 := Nat.lt_of_lt_of_le o1 (Nat.pow_le_pow_right (n := 10) (by decide) o2)
      have o7 : nm < 19 → m < 1000000000000000000 := fun h => Nat.lt_of_lt_of_le o1 (Nat.pow_le_pow_right (n := 10) (j := 18) (by decide) (by simp only; omega))
      clear hok o1
      by_cases hlt : i < 0 + M.length
      · have hk2 : i < N := by have := HN.out; omega
        have qk : i < s.size := by omega
        have hlt2 : i - 0 < M.length := by omega
        have ak : s[i]'qk = M[i - 0] := HA.out.get hlt2 qk (by omega)
        have hck := HM.out.1 M[i - 0] (List.getElem_mem _)
        have hdk := Lib.hid (HM.out.2 (i - 0) hlt2)
        have HT := Lib.hid (show Pl.run (M.take (i + 1 - 0)) = Pl.step ⟨m, nd, nm, dp, dot, dig, tr⟩ M[i - 0] by rw [show i + 1 - 0 = i - 0 + 1 by omega, List.take_succ_eq_append_getElem hlt2, Pl.run_snoc, hst.out])
        generalize M[i - 0] = c at ak hck hdk HT
        rcases hck with rfl | hck
        · obtain rfl : dot = false := by have := hdk.out rfl; rw [hst.out] at this; exact this
          clear hdk o6 o7
          go_wp2_with fail
          go_round
          case rel => exact ⟨i + 1, m, nd, nm, nd, true, dig, tr, by omega, by omega, Lib.hid (by rw [HT.out]; rfl), by go_num, rfl, rfl, rfl, rfl, rfl, rfl, rfl, rfl⟩
          case measure => simp [RowKit.intOf]; omega
        · unfold Pl.digit at hck
          obtain ⟨hc1, hc2⟩ := hck
          have d95 : ((c.toNat : Int) == 95) = false := by rw [beq_eq_false_iff_ne]; omega
          have d46 : ((c.toNat : Int) == 46) = false := by rw [beq_eq_false_iff_ne]; omega
          have HC := Lib.hid (show 48 ≤ c.toNat from hc1)
          clear hdk
          by_cases e48 : c.toNat = 48
          · have d48 : ((c.toNat : Int) == 48) = true := by rw [beq_iff_eq]; omega
            have d48n : ((c.toNat : Int) != 48) = false := by simp; omega
            by_cases end0 : nd = 0
            · have n0 : ((nd : Int) == 0) = true := by rw [beq_iff_eq]; omega
              have HS := Lib.hid (HT.out.trans (Pl.step_zero e48 end0))
              clear e48 end0 HT o6 o7
              go_wp2_with fail
              go_round
              case rel => exact ⟨i + 1, m, nd, nm, dp - 1, dot, true, tr, by omega, by omega, HS, by go_num, rfl, rfl, rfl, rfl, rfl, rfl, rfl, rfl⟩
              case measure => simp [RowKit.intOf]; omega
            · have n0 : ((nd : Int) == 0) = false := by rw [beq_eq_false_iff_ne]; omega
              by_cases h19 : nm < 19
              · have o8 := o7 h19
                have HS := Lib.hid (HT.out.trans (Pl.step_in hc1 (by omega) h19))
                clear e48 end0 HT o6 o7
                go_wp2_with fail
                go_round
                case rel => exact ⟨i + 1, m * 10 + (c.toNat - 48), nd + 1, nm + 1, dp, dot, true, tr, by omega, by omega, HS, by go_num, int_eq (by have := HC.out; omega), rfl, rfl, rfl, rfl, by go_num, by go_num, rfl⟩
                case measure => simp [RowKit.intOf]; omega
              · have HS := Lib.hid (HT.out.trans (Pl.step_out hc1 (by omega) h19))
                rw [if_pos e48] at HS
                clear e48 end0 HT o6 o7
                go_wp2_with fail
                go_round
                case rel => exact ⟨i + 1, m, nd + 1, nm, dp, dot, true, tr, by omega, by omega, HS, by go_num, rfl, rfl, rfl, rfl, rfl, by go_num, rfl, rfl⟩
                case measure => simp [RowKit.intOf]; omega
          · have d48 : ((c.toNat : Int) == 48) = false := by rw [beq_eq_false_iff_ne]; omega
            have d48n : ((c.toNat : Int) != 48) = true := by simp; omega
            by_cases h19 : nm < 19
            · have o8 := o7 h19
              have HS := Lib.hid (HT.out.trans (Pl.step_in hc1 (by omega) h19))
              clear e48 HT o6 o7
              go_wp2_with fail
              go_round
              case rel => exact ⟨i + 1, m * 10 + (c.toNat - 48), nd + 1, nm + 1, dp, dot, true, tr, by omega, by omega, HS, by go_num, int_eq (by have := HC.out; omega), rfl, rfl, rfl, rfl, by go_num, by go_num, rfl⟩
              case measure => simp [RowKit.intOf]; omega
            · have HS := Lib.hid (HT.out.trans (Pl.step_out hc1 (by omega) h19))
              rw [if_neg e48] at HS
              clear e48 HT o6 o7
              go_wp2_with fail
              go_round
              case rel => exact ⟨i + 1, m, nd + 1, nm, dp, dot, true, true, by omega, by omega, HS, by go_num, rfl, rfl, rfl, rfl, rfl, by go_num, rfl, rfl⟩
              case measure => simp [RowKit.intOf]; omega
      · obtain rfl : i = 0 + M.length := by omega
        rw [show 0 + M.length - 0 = M.length by omega, List.take_length] at hst
        obtain rfl : dig = true := by have := HG.out.1; rw [hst.out] at this; exact this
        obtain rfl : dot = true := by have := HG.out.2; rw [hst.out] at this; exact this
        have hJ : 0 + M.length < N := by have := HN.out; omega
        obtain ⟨J, hJd⟩ : ∃ J, 0 + M.length = J := ⟨_, rfl⟩
        have qJ : J < s.size := by omega
        have aJ : s[J]'qJ = 101 := by subst hJd; exact HE.out
        have hJ2 : J + 2 < N := by have := HN.out; omega
        have q2 : J + 2 < s.size := by omega
        have a2 : s[J + 2]'q2 = D[0] := HAD.out.get hD q2 (by omega)
        have qJ1 : J + 1 < s.size := by omega
        have aS : s[J + 1]'qJ1 = 45 := by subst hJd; exact HSg.out
        have hd2 := HD.out D[0] (List.getElem_mem _)
        generalize D[0] = c2 at a2 hd2
        unfold Pl.digit at hd2
        have f1 : ((c2.toNat : Int) == 43) = false := by rw [beq_eq_false_iff_ne]; omega
        have f2 : ((c2.toNat : Int) == 45) = false := by rw [beq_eq_false_iff_ne]; omega
        have hlow : bits .or .u8 101 32 = 101 := by decide
        have HJ := Lib.hid (show J + 2 + D.length = N by have := HN.out; omega)
        rw [hJd]
        clear o7 hlt hk1 hk hi0
        have HJd := Lib.hid hJd
        clear hJd hJ
        go_wp2_with (refine (Tryz.internal_strconv_lower _ _).mono ?_; rintro e w' ⟨rfl, rfl⟩)
        go_loop [7, 9, 20] (fun v7 v9 v20 => ∃ i e : Nat, J + 2 ≤ i ∧ i ≤ N ∧ v7 = .int .i64 i ∧ v9 = .bool false ∧ v20 = .int .i64 e ∧ Hid (Pl.erun (D.take (i - (J + 2))) = e)) (fun v7 _ _ => N - (RowKit.intOf v7).toNat)
        case atStart => exact ⟨J + 2, 0, Nat.le_refl _, by omega, by go_num, rfl, rfl, Lib.hid (by simp [Pl.erun])⟩
        case round =>
          obtain ⟨i, e, hi1, hi2, rfl, rfl, rfl, he⟩ := hrel
          have hel := Pl.erun_le (D.take (i - (J + 2))) (fun c hc => HD.out c (List.mem_of_mem_take hc))
          rw [he.out] at hel
          by_cases hi3 : i < N
          · have qi : i < s.size := by omega
            have hi4 : i - (J + 2) < D.length := by have := HJ.out; omega
            have ai : s[i]'qi = D[i - (J + 2)] := HAD.out.get hi4 qi (by have := HJd.out; omega)
            have hci := HD.out D[i - (J + 2)] (List.getElem_mem _)
            have HT := Lib.hid (show Pl.erun (D.take (i + 1 - (J + 2))) = Pl.estep e D[i - (J + 2)] by rw [show i + 1 - (J + 2) = i - (J + 2) + 1 by omega, List.take_succ_eq_append_getElem hi4, Pl.erun_snoc, he.out])
            generalize D[i - (J + 2)] = c at ai hci HT
            unfold Pl.digit at hci
            have g95 : ((c.toNat : Int) == 95) = false := by rw [beq_eq_false_iff_ne]; omega
            obtain ⟨hci1, hci2⟩ := hci
            have HC := Lib.hid hci1
            by_cases e4 : e < 10000
            · go_wp2_with fail
              go_round
              case rel => exact ⟨i + 1, e * 10 + (c.toNat - 48), by omega, by omega, by go_num, rfl, int_eq (by have := HC.out; omega), Lib.hid (by rw [HT.out]; unfold Pl.estep; rw [if_pos e4])⟩
              case measure => simp [RowKit.intOf]; omega
            · go_wp2_with fail
              go_round
              case rel => exact ⟨i + 1, e, by omega, by omega, by go_num, rfl, rfl, Lib.hid (by rw [HT.out]; unfold Pl.estep; rw [if_neg e4])⟩
              case measure => simp [RowKit.intOf]; omega
          · obtain rfl : N = i := by omega
            have HE2 := Lib.hid (show Pl.erun D = e by rw [← he.out, List.take_of_length_le (by have := HJ.out; omega)])
            clear hi3
            by_cases hm0 : m = 0
            · have g0 : ((m : Int) != 0) = false := by simp; omega
              have HM0 := Lib.hid hm0
              clear hm0
              go_wp2_with fail
              refine bodyPost_ret (v := .tuple #[.int .u64 m, .int .i64 0, .bool false, .bool tr, .bool false, .int .i64 N, .bool true]) (by simp [results, Tryz.results281, go_sem]) rfl ⟨?_, rfl⟩
              rw [hst.out, HE2.out, show Pl.expOf ⟨m, nd, nm, dp, true, true, tr⟩ (-(e : Int)) = 0 by unfold Pl.expOf; rw [if_pos HM0.out]]
            · have g0 : ((m : Int) != 0) = true := by simp; omega
              go_wp2_with fail
              refine bodyPost_ret (v := .tuple #[.int .u64 m, .int .i64 ((dp + e * -1) - nm), .bool false, .bool tr, .bool false, .int .i64 N, .bool true]) (by simp [results, Tryz.results281, go_sem]) rfl ⟨?_, rfl⟩
              rw [hst.out, HE2.out, show Pl.expOf ⟨m, nd, nm, dp, true, true, tr⟩ (-(e : Int)) = (dp + e * -1) - nm by unfold Pl.expOf; rw [if_neg hm0]; simp only; omega]
end Go.Proofs.YtlodbibagmblkaaGreatDoor
