/- The reading of a float's digits: the contract of readFloat at one form of texts. The reading of a float's digits: the contract of readFloat at one form of texts. Plain: digits as a number; what a text of digits with a point is read as. Rows of words: the contract of trim. Words as a large number: the contracts of large and Of. A number as a large one: the contracts of Of, Check and told. -/
import Derived.Test.YtpilniljhmkedaaGreatDoorRaai
import Derived.Test.YtpilniljhmkedaaGreatDoorRaag
import Derived.Test.YtpilniljhmkedaaGreatDoorRaaf
import Derived.Test.YtpilniljhmkedaaGreatDoorRaah
import Derived.LoopTactic
namespace Go.Proofs.YtpilniljhmkedaaGreatDoor
open Go.RowKit Go.Lib

set_option maxHeartbeats 4000000 in
set_option maxRecDepth 100000 in
theorem read_pos_nexp (s : ByteArray) (M D : List UInt8) (w : World) (hsz : Hid (s.size = 0 + M.length + 2 + D.length)) (hD : 0 < D.length) (hDl : D.length ≤ 1000) (hDd : ∀ c ∈ D, Pl.digit c) (hAD : At s (0 + M.length + 2) D) (qE : 0 + M.length < s.size) (hE : s[0 + M.length]'qE = 101) (qS : 0 + M.length + 1 < s.size) (hS : s[0 + M.length + 1]'qS = 45) (hM : MantOk M) (h3 : 3 ≤ M.length) (hl : M.length ≤ 1000) (hat : At s 0 M) (hdig : (Pl.run M).dig = true) (hdot : (Pl.run M).dot = true)
    (hd0 : Pl.digit M[0]) :
    Calls Tryz.prog 131 #[.string s] w (rfOk (Pl.run M) (-(Pl.erun D : Int)) false (0 + M.length + 2 + D.length) w) := by
  have hs0 : s.size = 0 + M.length + 2 + D.length := hsz.out
  obtain ⟨N, hN⟩ : ∃ N, 0 + M.length + 2 + D.length = N := ⟨_, rfl⟩
  rw [hN] at hs0 ⊢
  have hN3 : 0 + 3 ≤ N := by omega
  have hN4 : N ≤ 2002 := by omega
  have q0 : 0 < s.size := by omega
  have q1 : 0 + 1 < s.size := by omega
  have a0 : s[0]'q0 = M[0] := hat 0 (by omega) (by omega)
  have a1 : s[0 + 1]'q1 = M[1] := hat 1 (by omega) (by omega)
  have hc1 : (bits .or .u8 (M[1].toNat : Int) 32 == 120) = false := low_x (hM.1 _ (List.getElem_mem _))
  generalize M[0] = c0 at a0 hd0
  generalize M[1] = c1 at a1 hc1
  unfold Pl.digit at hd0
  have b1 : ((c0.toNat : Int) == 43) = false := by rw [beq_eq_false_iff_ne]; omega
  have b2 : ((c0.toNat : Int) == 45) = false := by rw [beq_eq_false_iff_ne]; omega
  obtain ⟨bb, b3⟩ : ∃ bb : Bool, ((c0.toNat : Int) == 48) = bb := ⟨_, rfl⟩
  have HN := Lib.hid hN
  have hM1 := Lib.hid hl
  clear hN h3 hl hsz
  have HSg := Lib.hid hS
  clear hS
  have HE := Lib.hid hE
  have HAD := Lib.hid hAD
  have HD := Lib.hid hDd
  clear hE hAD hDd
  have HA := Lib.hid hat
  have HM := Lib.hid hM
  have HG := Lib.hid (show (Pl.run M).dig = true ∧ (Pl.run M).dot = true from ⟨hdig, hdot⟩)
  clear hat hM hdig hdot
  cases bb
  all_goals
    go_enter Tryz.func131, Tryz.ntmps131
    go_wp2_with fail
    go_step3
    go_wp2_with (refine (Tryz.internal_strconv_lower _ _).mono ?_; rintro e w' ⟨rfl, rfl⟩)
    go_step3
    go_wp2_with fail
    go_loop [2, 5, 7, 9, 13, 14, 15, 16, 17] (fun v2 v5 v7 v9 v13 v14 v15 v16 v17 => ∃ (i m nd nm : Nat) (dp : Int) (dot dig tr : Bool), 0 ≤ i ∧ i ≤ 0 + M.length ∧ Hid (Pl.run (M.take (i - 0)) = ⟨m, nd, nm, dp, dot, dig, tr⟩) ∧ v7 = .int .i64 i ∧ v2 = .int .u64 m ∧ v5 = .bool tr ∧ v9 = .bool false ∧ v13 = .bool dot ∧ v14 = .bool dig ∧ v15 = .int .i64 nd ∧ v16 = .int .i64 nm ∧ v17 = .int .i64 dp) (fun _ _ v7 _ _ _ _ _ _ => N - (RowKit.intOf v7).toNat)
    case atStart => exact ⟨0, 0, 0, 0, 0, false, false, false, Nat.le_refl _, by omega, Lib.hid rfl, rfl, rfl, rfl, rfl, rfl, rfl, rfl, rfl, rfl⟩
    case round =>
      obtain ⟨i, m, nd, nm, dp, dot, dig, tr, hi0, hk, hst, rfl, rfl, rfl, rfl, rfl, rfl, rfl, rfl, rfl⟩ := hrel
      have hok := Pl.run_ok (M.take (i - 0)) (fun c hc => HM.out.1 c (List.mem_of_mem_take hc))
      rw [hst.out, List.length_take, Nat.min_eq_left (by omega)] at hok
      have o1 := hok.m
      have o2 : nm ≤ 19 := hok.nm
      have o3 : nd ≤ 1001 := by have := hok.nd; have := hM1.out; simp only at *; omega
      have o4 : -1001 ≤ dp := by have := hok.lo; have := hM1.out; simp only at *; omega
      have o5 : dp ≤ 1001 := by have := hok.up; have := hM1.out; simp only at *; omega
      have hk1 : i ≤ N := by have := HN.out; omega
      have o6 : m < 10000000000000000000 := Nat.lt_of_lt_of_le o1 (Nat.pow_le_pow_right (n := 10) (by decide) o2)
      have o7 : nm < 19 → m < 1000000000000000000 := fun h => Nat.lt_of_lt_of_le o1 (Nat.pow_le_pow_right (n := 10) (j := 18) (by decide) (by simp only; omega))
      clear hok o1
      by_cases hlt : i < 0 + M.length
      · have hk2 : i < N := by have := HN.out; omega
        have qk : i < s.size := by omega
        have hlt2 : i - 0 < M.length := by omega
        have ak : s[i]'qk = M[i - 0] := HA.out.get hlt2 qk (by omega)
        have hck := HM.out.1 M[i - 0] (List.getElem_mem _)
        have hdk := Lib.hid (HM.out.2 (i - 0) hlt2)
        have HT := Lib.hid (show Pl.run (M.take (i + 1 - 0)) = Pl.step ⟨m, nd, nm, dp, dot, dig, tr⟩ M[i - 0] by rw [show i + 1 - 0 = i - 0 + 1 by omega, List.take_succ_eq_append_getElem hlt2, Pl.run_snoc, hst.out])
        generalize M[i - 0] = c at ak hck hdk HT
        rcases hck with rfl | hck
        · obtain rfl : dot = false := by have := hdk.out rfl; rw [hst.out] at this; exact this
          clear hdk o6 o7
          go_wp2_with fail
          go_round
          case rel => exact ⟨i + 1, m, nd, nm, nd, true, dig, tr, by omega, by omega, Lib.hid (by rw [HT.out]; rfl), by go_num, rfl, rfl, rfl, rfl, rfl, rfl, rfl, rfl⟩
          case measure => simp [RowKit.intOf]; omega
        · unfold Pl.digit at hck
          obtain ⟨hc1, hc2⟩ := hck
          have d95 : ((c.toNat : Int) == 95) = false := by rw [beq_eq_false_iff_ne]; omega
          have d46 : ((c.toNat : Int) == 46) = false := by rw [beq_eq_false_iff_ne]; omega
          have HC := Lib.hid (show 48 ≤ c.toNat from hc1)
          clear hdk
          by_cases e48 : c.toNat = 48
          · have d48 : ((c.toNat : Int) == 48) = true := by rw [beq_iff_eq]; omega
            have d48n : ((c.toNat : Int) != 48) = false := by simp; omega
            by_cases end0 : nd = 0
            · have n0 : ((nd : Int) == 0) = true := by rw [beq_iff_eq]; omega
              have HS := Lib.hid (HT.out.trans (Pl.step_zero e48 end0))
              clear e48 end0 HT o6 o7
              go_wp2_with fail
              go_round
              case rel => exact ⟨i + 1, m, nd, nm, dp - 1, dot, true, tr, by omega, by omega, HS, by go_num, rfl, rfl, rfl, rfl, rfl, rfl, rfl, rfl⟩
              case measure => simp [RowKit.intOf]; omega
            · have n0 : ((nd : Int) == 0) = false := by rw [beq_eq_false_iff_ne]; omega
              by_cases h19 : nm < 19
              · have o8 := o7 h19
                have HS := Lib.hid (HT.out.trans (Pl.step_in hc1 (by omega) h19))
                clear e48 end0 HT o6 o7
                go_wp2_with fail
                go_round
                case rel => exact ⟨i + 1, m * 10 + (c.toNat - 48), nd + 1, nm + 1, dp, dot, true, tr, by omega, by omega, HS, by go_num, int_eq (by have := HC.out; omega), rfl, rfl, rfl, rfl, by go_num, by go_num, rfl⟩
                case measure => simp [RowKit.intOf]; omega
              · have HS := Lib.hid (HT.out.trans (Pl.step_out hc1 (by omega) h19))
                rw [if_pos e48] at HS
                clear e48 end0 HT o6 o7
                go_wp2_with fail
                go_round
                case rel => exact ⟨i + 1, m, nd + 1, nm, dp, dot, true, tr, by omega, by omega, HS, by go_num, rfl, rfl, rfl, rfl, rfl, by go_num, rfl, rfl⟩
                case measure => simp [RowKit.intOf]; omega
          · have d48 : ((c.toNat : Int) == 48) = false := by rw [beq_eq_false_iff_ne]; omega
            have d48n : ((c.toNat : Int) != 48) = true := by simp; omega
            by_cases h19 : nm < 19
            · have o8 := o7 h19
              have HS := Lib.hid (HT.out.trans (Pl.step_in hc1 (by omega) h19))
              clear e48 HT o6 o7
              go_wp2_with fail
              go_round
              case rel => exact ⟨i + 1, m * 10 + (c.toNat - 48), nd + 1, nm + 1, dp, dot, true, tr, by omega, by omega, HS, by go_num, int_eq (by have := HC.out; omega), rfl, rfl, rfl, rfl, by go_num, by go_num, rfl⟩
              case measure => simp [RowKit.intOf]; omega
            · have HS := Lib.hid (HT.out.trans (Pl.step_out hc1 (by omega) h19))
              rw [if_neg e48] at HS
              clear e48 HT o6 o7
              go_wp2_with fail
              go_round
              case rel => exact ⟨i + 1, m, nd + 1, nm, dp, dot, true, true, by omega, by omega, HS, by go_num, rfl, rfl, rfl, rfl, rfl, by go_num, rfl, rfl⟩
              case measure => simp [RowKit.intOf]; omega
      · obtain rfl : i = 0 + M.length := by omega
        rw [show 0 + M.length - 0 = M.length by omega, List.take_length] at hst
        obtain rfl : dig = true := by have := HG.out.1; rw [hst.out] at this; exact this
        obtain rfl : dot = true := by have := HG.out.2; rw [hst.out] at this; exact this
        have hJ : 0 + M.length < N := by have := HN.out; omega
        obtain ⟨J, hJd⟩ : ∃ J, 0 + M.length = J := ⟨_, rfl⟩
        have qJ : J < s.size := by omega
        have aJ : s[J]'qJ = 101 := by subst hJd; exact HE.out
        have hJ2 : J + 2 < N := by have := HN.out; omega
        have q2 : J + 2 < s.size := by omega
        have a2 : s[J + 2]'q2 = D[0] := HAD.out.get hD q2 (by omega)
        have qJ1 : J + 1 < s.size := by omega
        have aS : s[J + 1]'qJ1 = 45 := by subst hJd; exact HSg.out
        have hd2 := HD.out D[0] (List.getElem_mem _)
        generalize D[0] = c2 at a2 hd2
        unfold Pl.digit at hd2
        have f1 : ((c2.toNat : Int) == 43) = false := by rw [beq_eq_false_iff_ne]; omega
        have f2 : ((c2.toNat : Int) == 45) = false := by rw [beq_eq_false_iff_ne]; omega
        have hlow : bits .or .u8 101 32 = 101 := by decide
        have HJ := Lib.hid (show J + 2 + D.length = N by have := HN.out; omega)
        rw [hJd]
        clear o7 hlt hk1 hk hi0
        have HJd := Lib.hid hJd
        clear hJd hJ
        go_wp2_with (refine (Tryz.internal_strconv_lower _ _).mono ?_; rintro e w' ⟨rfl, rfl⟩)
        go_loop [7, 9, 20] (fun v7 v9 v20 => ∃ i e : Nat, J + 2 ≤ i ∧ i ≤ N ∧ v7 = .int .i64 i ∧ v9 = .bool false ∧ v20 = .int .i64 e ∧ Hid (Pl.erun (D.take (i - (J + 2))) = e)) (fun v7 _ _ => N - (RowKit.intOf v7).toNat)
        case atStart => exact ⟨J + 2, 0, Nat.le_refl _, by omega, by go_num, rfl, rfl, Lib.hid (by simp [Pl.erun])⟩
        case round =>
          obtain ⟨i, e, hi1, hi2, rfl, rfl, rfl, he⟩ := hrel
          have hel := Pl.erun_le (D.take (i - (J + 2))) (fun c hc => HD.out c (List.mem_of_mem_take hc))
          rw [he.out] at hel
          by_cases hi3 : i < N
          · have qi : i < s.size := by omega
            have hi4 : i - (J + 2) < D.length := by have := HJ.out; omega
            have ai : s[i]'qi = D[i - (J + 2)] := HAD.out.get hi4 qi (by have := HJd.out; omega)
            have hci := HD.out D[i - (J + 2)] (List.getElem_mem _)
            have HT := Lib.hid (show Pl.erun (D.take (i + 1 - (J + 2))) = Pl.estep e D[i - (J + 2)] by rw [show i + 1 - (J + 2) = i - (J + 2) + 1 by omega, List.take_succ_eq_append_getElem hi4, Pl.erun_snoc, he.out])
            generalize D[i - (J + 2)] = c at ai hci HT
            unfold Pl.digit at hci
            have g95 : ((c.toNat : Int) == 95) = false := by rw [beq_eq_false_iff_ne]; omega
            obtain ⟨hci1, hci2⟩ := hci
            have HC := Lib.hid hci1
            by_cases e4 : e < 10000
            · go_wp2_with fail
              go_round
              case rel => exact ⟨i + 1, e * 10 + (c.toNat - 48), by omega, by omega, by go_num, rfl, int_eq (by have := HC.out; omega), Lib.hid (by rw [HT.out]; unfold Pl.estep; rw [if_pos e4])⟩
              case measure => simp [RowKit.intOf]; omega
            · go_wp2_with fail
              go_round
              case rel => exact ⟨i + 1, e, by omega, by omega, by go_num, rfl, rfl, Lib.hid (by rw [HT.out]; unfold Pl.estep; rw [if_neg e4])⟩
              case measure => simp [RowKit.intOf]; omega
          · obtain rfl : N = i := by omega
            have HE2 := Lib.hid (show Pl.erun D = e by rw [← he.out, List.take_of_length_le (by have := HJ.out; omega)])
            clear hi3
            by_cases hm0 : m = 0
            · have g0 : ((m : Int) != 0) = false := by simp; omega
              have HM0 := Lib.hid hm0
              clear hm0
              go_wp2_with fail
              refine bodyPost_ret (v := .tuple #[.int .u64 m, .int .i64 0, .bool false, .bool tr, .bool false, .int .i64 N, .bool true]) (by simp [results, Tryz.results131, go_sem]) rfl ⟨?_, rfl⟩
              rw [hst.out, HE2.out, show Pl.expOf ⟨m, nd, nm, dp, true, true, tr⟩ (-(e : Int)) = 0 by unfold Pl.expOf; rw [if_pos HM0.out]]
            · have g0 : ((m : Int) != 0) = true := by simp; omega
              go_wp2_with fail
              refine bodyPost_ret (v := .tuple #[.int .u64 m, .int .i64 ((dp + e * -1) - nm), .bool false, .bool tr, .bool false, .int .i64 N, .bool true]) (by simp [results, Tryz.results131, go_sem]) rfl ⟨?_, rfl⟩
              rw [hst.out, HE2.out, show Pl.expOf ⟨m, nd, nm, dp, true, true, tr⟩ (-(e : Int)) = (dp + e * -1) - nm by unfold Pl.expOf; rw [if_neg hm0]; simp only; omega]
end Go.Proofs.YtpilniljhmkedaaGreatDoor
namespace Go.Proofs.YtpilniljhmkedaaGreatDoor
open Go.RowKit Go.Lib

set_option maxHeartbeats 4000000 in
set_option maxRecDepth 100000 in
theorem read_neg_nexp (s : ByteArray) (M D : List UInt8) (w : World) (hsz : Hid (s.size = 1 + M.length + 2 + D.length)) (hD : 0 < D.length) (hDl : D.length ≤ 1000) (hDd : ∀ c ∈ D, Pl.digit c) (hAD : At s (1 + M.length + 2) D) (qE : 1 + M.length < s.size) (hE : s[1 + M.length]'qE = 101) (qS : 1 + M.length + 1 < s.size) (hS : s[1 + M.length + 1]'qS = 45) (hM : MantOk M) (h3 : 3 ≤ M.length) (hl : M.length ≤ 1000) (hat : At s 1 M) (hdig : (Pl.run M).dig = true) (hdot : (Pl.run M).dot = true)
    (hd0 : Pl.digit M[0]) (q9 : 0 < s.size) (hsg : s[0]'q9 = 45) :
    Calls Tryz.prog 131 #[.string s] w (rfOk (Pl.run M) (-(Pl.erun D : Int)) true (1 + M.length + 2 + D.length) w) := by
  have hs0 : s.size = 1 + M.length + 2 + D.length := hsz.out
  obtain ⟨N, hN⟩ : ∃ N, 1 + M.length + 2 + D.length = N := ⟨_, rfl⟩
  rw [hN] at hs0 ⊢
  have hN3 : 1 + 3 ≤ N := by omega
  have hN4 : N ≤ 2003 := by omega
  have q0 : 1 < s.size := by omega
  have q1 : 1 + 1 < s.size := by omega
  have a0 : s[1]'q0 = M[0] := hat 0 (by omega) (by omega)
  have a1 : s[1 + 1]'q1 = M[1] := hat 1 (by omega) (by omega)
  have hc1 : (bits .or .u8 (M[1].toNat : Int) 32 == 120) = false := low_x (hM.1 _ (List.getElem_mem _))
  generalize M[0] = c0 at a0 hd0
  generalize M[1] = c1 at a1 hc1
  unfold Pl.digit at hd0
  have b1 : ((c0.toNat : Int) == 43) = false := by rw [beq_eq_false_iff_ne]; omega
  have b2 : ((c0.toNat : Int) == 45) = false := by rw [beq_eq_false_iff_ne]; omega
  obtain ⟨bb, b3⟩ : ∃ bb : Bool, ((c0.toNat : Int) == 48) = bb := ⟨_, rfl⟩
  have HN := Lib.hid hN
  have hM1 := Lib.hid hl
  clear hN h3 hl hsz
  have HSg := Lib.hid hS
  clear hS
  have HE := Lib.hid hE
  have HAD := Lib.hid hAD
  have HD := Lib.hid hDd
  clear hE hAD hDd
  have HA := Lib.hid hat
  have HM := Lib.hid hM
  have HG := Lib.hid (show (Pl.run M).dig = true ∧ (Pl.run M).dot = true from ⟨hdig, hdot⟩)
  clear hat hM hdig hdot
  cases bb
  all_goals
    go_enter Tryz.func131, Tryz.ntmps131
    go_wp2_with fail
    go_step3
    go_wp2_with (refine (Tryz.internal_strconv_lower _ _).mono ?_; rintro e w' ⟨rfl, rfl⟩)
    go_step3
    go_wp2_with fail
    go_loop [2, 5, 7, 9, 13, 14, 15, 16, 17] (fun v2 v5 v7 v9 v13 v14 v15 v16 v17 => ∃ (i m nd nm : Nat) (dp : Int) (dot dig tr : Bool), 1 ≤ i ∧ i ≤ 1 + M.length ∧ Hid (Pl.run (M.take (i - 1)) = ⟨m, nd, nm, dp, dot, dig, tr⟩) ∧ v7 = .int .i64 i ∧ v2 = .int .u64 m ∧ v5 = .bool tr ∧ v9 = .bool false ∧ v13 = .bool dot ∧ v14 = .bool dig ∧ v15 = .int .i64 nd ∧ v16 = .int .i64 nm ∧ v17 = .int .i64 dp) (fun _ _ v7 _ _ _ _ _ _ => N - (RowKit.intOf v7).toNat)
    case atStart => exact ⟨1, 0, 0, 0, 0, false, false, false, Nat.le_refl _, by omega, Lib.hid rfl, rfl, rfl, rfl, rfl, rfl, rfl, rfl, rfl, rfl⟩
    case round =>
      obtain ⟨i, m, nd, nm, dp, dot, dig, tr, hi0, hk, hst, rfl, rfl, rfl, rfl, rfl, rfl, rfl, rfl, rfl⟩ := hrel
      have hok := Pl.run_ok (M.take (i - 1)) (fun c hc => HM.out.1 c (List.mem_of_mem_take hc))
      rw [hst.out, List.length_take, Nat.min_eq_left (by omega)] at hok
      have o1 := hok.m
      have o2 : nm ≤ 19 := hok.nm
      have o3 : nd ≤ 1001 := by have := hok.nd; have := hM1.out; simp only at *; omega
      have o4 : -1001 ≤ dp := by have := hok.lo; have := hM1.out; simp only at *; omega
      have o5 : dp ≤ 1001 := by have := hok.up; have := hM1.out; simp only at *; omega
      have hk1 : i ≤ N := by have := HN.out; omega
      have o6 : m < 10000000000000000000 := Nat.lt_of_lt_of_le o1 (Nat.pow_le_pow_right (n := 10) (by decide) o2)
      have o7 : nm < 19 → m < 1000000000000000000 := fun h => Nat.lt_of_lt_of_le o1 (Nat.pow_le_pow_right (n := 10) (j := 18) (by decide) (by simp only; omega))
      clear hok o1
      by_cases hlt : i < 1 + M.length
      · have hk2 : i < N := by have := HN.out; omega
        have qk : i < s.size := by omega
        have hlt2 : i - 1 < M.length := by omega
        have ak : s[i]'qk = M[i - 1] := HA.out.get hlt2 qk (by omega)
        have hck := HM.out.1 M[i - 1] (List.getElem_mem _)
        have hdk := Lib.hid (HM.out.2 (i - 1) hlt2)
        have HT := Lib.hid (show Pl.run (M.take (i + 1 - 1)) = Pl.step ⟨m, nd, nm, dp, dot, dig, tr⟩ M[i - 1] by rw [show i + 1 - 1 = i - 1 + 1 by omega, List.take_succ_eq_append_getElem hlt2, Pl.run_snoc, hst.out])
        generalize M[i - 1] = c at ak hck hdk HT
        rcases hck with rfl | hck
        · obtain rfl : dot = false := by have := hdk.out rfl; rw [hst.out] at this; exact this
          clear hdk o6 o7
          go_wp2_with fail
          go_round
          case rel => exact ⟨i + 1, m, nd, nm, nd, true, dig, tr, by omega, by omega, Lib.hid (by rw [HT.out]; rfl), by go_num, rfl, rfl, rfl, rfl, rfl, rfl, rfl, rfl⟩
          case measure => simp [RowKit.intOf]; omega
        · unfold Pl.digit at hck
          obtain ⟨hc1, hc2⟩ := hck
          have d95 : ((c.toNat : Int) == 95) = false := by rw [beq_eq_false_iff_ne]; omega
          have d46 : ((c.toNat : Int) == 46) = false := by rw [beq_eq_false_iff_ne]; omega
          have HC := Lib.hid (show 48 ≤ c.toNat from hc1)
          clear hdk
          by_cases e48 : c.toNat = 48
          · have d48 : ((c.toNat : Int) == 48) = true := by rw [beq_iff_eq]; omega
            have d48n : ((c.toNat : Int) != 48) = false := by simp; omega
            by_cases end0 : nd = 0
            · have n0 : ((nd : Int) == 0) = true := by rw [beq_iff_eq]; omega
              have HS := Lib.hid (HT.out.trans (Pl.step_zero e48 end0))
              clear e48 end0 HT o6 o7
              go_wp2_with fail
              go_round
              case rel => exact ⟨i + 1, m, nd, nm, dp - 1, dot, true, tr, by omega, by omega, HS, by go_num, rfl, rfl, rfl, rfl, rfl, rfl, rfl, rfl⟩
              case measure => simp [RowKit.intOf]; omega
            · have n0 : ((nd : Int) == 0) = false := by rw [beq_eq_false_iff_ne]; omega
              by_cases h19 : nm < 19
              · have o8 := o7 h19
                have HS := Lib.hid (HT.out.trans (Pl.step_in hc1 (by omega) h19))
                clear e48 end0 HT o6 o7
                go_wp2_with fail
                go_round
                case rel => exact ⟨i + 1, m * 10 + (c.toNat - 48), nd + 1, nm + 1, dp, dot, true, tr, by omega, by omega, HS, by go_num, int_eq (by have := HC.out; omega), rfl, rfl, rfl, rfl, by go_num, by go_num, rfl⟩
                case measure => simp [RowKit.intOf]; omega
              · have HS := Lib.hid (HT.out.trans (Pl.step_out hc1 (by omega) h19))
                rw [if_pos e48] at HS
                clear e48 end0 HT o6 o7
                go_wp2_with fail
                go_round
                case rel => exact ⟨i + 1, m, nd + 1, nm, dp, dot, true, tr, by omega, by omega, HS, by go_num, rfl, rfl, rfl, rfl, rfl, by go_num, rfl, rfl⟩
                case measure => simp [RowKit.intOf]; omega
          · have d48 : ((c.toNat : Int) == 48) = false := by rw [beq_eq_false_iff_ne]; omega
            have d48n : ((c.toNat : Int) != 48) = true := by simp; omega
            by_cases h19 : nm < 19
            · have o8 := o7 h19
              have HS := Lib.hid (HT.out.trans (Pl.step_in hc1 (by omega) h19))
              clear e48 HT o6 o7
              go_wp2_with fail
              go_round
              case rel => exact ⟨i + 1, m * 10 + (c.toNat - 48), nd + 1, nm + 1, dp, dot, true, tr, by omega, by omega, HS, by go_num, int_eq (by have := HC.out; omega), rfl, rfl, rfl, rfl, by go_num, by go_num, rfl⟩
              case measure => simp [RowKit.intOf]; omega
            · have HS := Lib.hid (HT.out.trans (Pl.step_out hc1 (by omega) h19))
              rw [if_neg e48] at HS
              clear e48 HT o6 o7
              go_wp2_with fail
              go_round
              case rel => exact ⟨i + 1, m, nd + 1, nm, dp, dot, true, true, by omega, by omega, HS, by go_num, rfl, rfl, rfl, rfl, rfl, by go_num, rfl, rfl⟩
              case measure => simp [RowKit.intOf]; omega
      · obtain rfl : i = 1 + M.length := by omega
        rw [show 1 + M.length - 1 = M.length by omega, List.take_length] at hst
        obtain rfl : dig = true := by have := HG.out.1; rw [hst.out] at this; exact this
        obtain rfl : dot = true := by have := HG.out.2; rw [hst.out] at this; exact this
        have hJ : 1 + M.length < N := by have := HN.out; omega
        obtain ⟨J, hJd⟩ : ∃ J, 1 + M.length = J := ⟨_, rfl⟩
        have qJ : J < s.size := by omega
        have aJ : s[J]'qJ = 101 := by subst hJd; exact HE.out
        have hJ2 : J + 2 < N := by have := HN.out; omega
        have q2 : J + 2 < s.size := by omega
        have a2 : s[J + 2]'q2 = D[0] := HAD.out.get hD q2 (by omega)
        have qJ1 : J + 1 < s.size := by omega
        have aS : s[J + 1]'qJ1 = 45 := by subst hJd; exact HSg.out
        have hd2 := HD.out D[0] (List.getElem_mem _)
        generalize D[0] = c2 at a2 hd2
        unfold Pl.digit at hd2
        have f1 : ((c2.toNat : Int) == 43) = false := by rw [beq_eq_false_iff_ne]; omega
        have f2 : ((c2.toNat : Int) == 45) = false := by rw [beq_eq_false_iff_ne]; omega
        have hlow : bits .or .u8 101 32 = 101 := by decide
        have HJ := Lib.hid (show J + 2 + D.length = N by have := HN.out; omega)
        rw [hJd]
        clear o7 hlt hk1 hk hi0
        have HJd := Lib.hid hJd
        clear hJd hJ
        go_wp2_with (refine (Tryz.internal_strconv_lower _ _).mono ?_; rintro e w' ⟨rfl, rfl⟩)
        go_loop [7, 9, 20] (fun v7 v9 v20 => ∃ i e : Nat, J + 2 ≤ i ∧ i ≤ N ∧ v7 = .int .i64 i ∧ v9 = .bool false ∧ v20 = .int .i64 e ∧ Hid (Pl.erun (D.take (i - (J + 2))) = e)) (fun v7 _ _ => N - (RowKit.intOf v7).toNat)
        case atStart => exact ⟨J + 2, 0, Nat.le_refl _, by omega, by go_num, rfl, rfl, Lib.hid (by simp [Pl.erun])⟩
        case round =>
          obtain ⟨i, e, hi1, hi2, rfl, rfl, rfl, he⟩ := hrel
          have hel := Pl.erun_le (D.take (i - (J + 2))) (fun c hc => HD.out c (List.mem_of_mem_take hc))
          rw [he.out] at hel
          by_cases hi3 : i < N
          · have qi : i < s.size := by omega
            have hi4 : i - (J + 2) < D.length := by have := HJ.out; omega
            have ai : s[i]'qi = D[i - (J + 2)] := HAD.out.get hi4 qi (by have := HJd.out; omega)
            have hci := HD.out D[i - (J + 2)] (List.getElem_mem _)
            have HT := Lib.hid (show Pl.erun (D.take (i + 1 - (J + 2))) = Pl.estep e D[i - (J + 2)] by rw [show i + 1 - (J + 2) = i - (J + 2) + 1 by omega, List.take_succ_eq_append_getElem hi4, Pl.erun_snoc, he.out])
            generalize D[i - (J + 2)] = c at ai hci HT
            unfold Pl.digit at hci
            have g95 : ((c.toNat : Int) == 95) = false := by rw [beq_eq_false_iff_ne]; omega
            obtain ⟨hci1, hci2⟩ := hci
            have HC := Lib.hid hci1
            by_cases e4 : e < 10000
            · go_wp2_with fail
              go_round
              case rel => exact ⟨i + 1, e * 10 + (c.toNat - 48), by omega, by omega, by go_num, rfl, int_eq (by have := HC.out; omega), Lib.hid (by rw [HT.out]; unfold Pl.estep; rw [if_pos e4])⟩
              case measure => simp [RowKit.intOf]; omega
            · go_wp2_with fail
              go_round
              case rel => exact ⟨i + 1, e, by omega, by omega, by go_num, rfl, rfl, Lib.hid (by rw [HT.out]; unfold Pl.estep; rw [if_neg e4])⟩
              case measure => simp [RowKit.intOf]; omega
          · obtain rfl : N = i := by omega
            have HE2 := Lib.hid (show Pl.erun D = e by rw [← he.out, List.take_of_length_le (by have := HJ.out; omega)])
            clear hi3
            by_cases hm0 : m = 0
            · have g0 : ((m : Int) != 0) = false := by simp; omega
              have HM0 := Lib.hid hm0
              clear hm0
              go_wp2_with fail
              refine bodyPost_ret (v := .tuple #[.int .u64 m, .int .i64 0, .bool true, .bool tr, .bool false, .int .i64 N, .bool true]) (by simp [results, Tryz.results131, go_sem]) rfl ⟨?_, rfl⟩
              rw [hst.out, HE2.out, show Pl.expOf ⟨m, nd, nm, dp, true, true, tr⟩ (-(e : Int)) = 0 by unfold Pl.expOf; rw [if_pos HM0.out]]
            · have g0 : ((m : Int) != 0) = true := by simp; omega
              go_wp2_with fail
              refine bodyPost_ret (v := .tuple #[.int .u64 m, .int .i64 ((dp + e * -1) - nm), .bool true, .bool tr, .bool false, .int .i64 N, .bool true]) (by simp [results, Tryz.results131, go_sem]) rfl ⟨?_, rfl⟩
              rw [hst.out, HE2.out, show Pl.expOf ⟨m, nd, nm, dp, true, true, tr⟩ (-(e : Int)) = (dp + e * -1) - nm by unfold Pl.expOf; rw [if_neg hm0]; simp only; omega]
end Go.Proofs.YtpilniljhmkedaaGreatDoor
namespace Go.Proofs.YtpilniljhmkedaaGreatDoor
open Go Go.Lib
namespace Pl
theorem snocRec {α : Type} {P : List α → Prop} (nil : P []) (snoc : ∀ l c, P l → P (l ++ [c])) (l : List α) : P l := by
  have h : ∀ l : List α, P l.reverse := by
    intro l
    induction l with
    | nil => exact nil
    | cons c l ih => rw [List.reverse_cons]; exact snoc _ _ ih
  have := h l.reverse
  rwa [List.reverse_reverse] at this
/-- the number that digits are -/
def vl (l : List UInt8) : Nat := l.foldl (fun n c => n * 10 + (c.toNat - 48)) 0
theorem vl_snoc (l : List UInt8) (c : UInt8) : vl (l ++ [c]) = vl l * 10 + (c.toNat - 48) := by simp [vl]
theorem vl_append (a b : List UInt8) : vl (a ++ b) = vl a * 10 ^ b.length + vl b := by
  induction b using snocRec with
  | nil => simp [vl]
  | snoc b c ih =>
    rw [← List.append_assoc, vl_snoc, vl_snoc, ih, List.length_append, List.length_singleton, Nat.pow_succ, Nat.add_mul, Nat.mul_assoc, Nat.add_assoc]
theorem vl_zeros (k : Nat) : vl (List.replicate k 48) = 0 := by
  induction k with
  | zero => rfl
  | succ k ih => rw [List.replicate_succ', vl_snoc, ih]; rfl
theorem vl_dec (u : Nat) : vl (decDigits u) = u := by
  induction u using Nat.strongRecOn with
  | _ u ih =>
    rw [decDigits]
    by_cases h10 : u < 10
    · rw [dif_pos h10]
      show 0 * 10 + ((UInt8.ofNat (48 + u)).toNat - 48) = u
      rw [UInt8.toNat_ofNat', Nat.mod_eq_of_lt (by omega)]; omega
    · rw [dif_neg h10, vl_snoc, ih (u / 10) (by omega), UInt8.toNat_ofNat', Nat.mod_eq_of_lt (by omega)]; omega
theorem trim_split (l : List UInt8) : l = trimZ l ++ List.replicate (l.length - (trimZ l).length) 48 := by
  induction l using snocRec with
  | nil => rfl
  | snoc l c ih =>
    by_cases hc : c = 48
    · have e : trimZ (l ++ [c]) = trimZ l := by subst hc; simp [trimZ]
      have hle : (trimZ l).length ≤ l.length := by
        have := congrArg List.length ih
        rw [List.length_append] at this; omega
      rw [e, List.length_append, List.length_singleton, show l.length + 1 - (trimZ l).length = l.length - (trimZ l).length + 1 by omega, List.replicate_succ', ← List.append_assoc, ← ih, hc]
    · have e : trimZ (l ++ [c]) = l ++ [c] := by simp [trimZ, hc]
      rw [e]; simp
theorem vl_sig (d : Nat) : vl (sig d) * 10 ^ (nDigits d - (sig d).length) = d ∧ (sig d).length ≤ nDigits d := by
  have h := trim_split (decDigits d)
  have hl := congrArg List.length h
  rw [List.length_append, decDigits_length] at hl
  have e := congrArg vl h
  rw [vl_dec, vl_append, vl_zeros, List.length_replicate, Nat.add_zero, decDigits_length] at e
  exact ⟨e.symm, by unfold sig; omega⟩
/-- how many digits there are from the first one on that is not nought -/
def cnt (l : List UInt8) : Nat := l.foldl (fun n c => if c = 48 ∧ n = 0 then 0 else n + 1) 0
theorem cnt_snoc (l : List UInt8) (c : UInt8) : cnt (l ++ [c]) = if c = 48 ∧ cnt l = 0 then 0 else cnt l + 1 := by unfold cnt; rw [List.foldl_append]; rfl
theorem cnt_le (l : List UInt8) (c : UInt8) : cnt l ≤ cnt (l ++ [c]) := by
  rw [cnt_snoc]; split <;> omega
theorem cnt_mono (a b : List UInt8) : cnt a ≤ cnt (a ++ b) := by
  induction b using snocRec with
  | nil => simp
  | snoc b c ih => rw [← List.append_assoc]; exact Nat.le_trans ih (cnt_le _ _)
theorem cnt_vl (l : List UInt8) (h : ∀ c ∈ l, digit c) : cnt l = 0 ∧ vl l = 0 ∨ ∃ n, cnt l = n + 1 ∧ 10 ^ n ≤ vl l := by
  induction l using snocRec with
  | nil => exact .inl ⟨rfl, rfl⟩
  | snoc l c ih =>
    have hc := h c (by simp)
    rw [cnt_snoc, vl_snoc]
    rcases ih (fun x hx => h x (by simp [hx])) with ⟨h1, h2⟩ | ⟨n, h1, h2⟩
    · rw [h1, h2]
      by_cases e : c = 48
      · left; subst e; simp
      · right
        refine ⟨0, by rw [if_neg (fun h => e h.1)], ?_⟩
        have : c.toNat ≠ 48 := fun h => e (UInt8.toNat_inj.1 h)
        unfold digit at hc
        omega
    · right
      refine ⟨n + 1, by rw [if_neg (by omega), h1], ?_⟩
      rw [Nat.pow_succ]; omega
theorem cnt_19 {l : List UInt8} (h : ∀ c ∈ l, digit c) (hv : vl l < 10000000000000000000) : cnt l ≤ 19 := by
  rcases cnt_vl l h with ⟨h1, _⟩ | ⟨n, h1, h2⟩
  · omega
  · rw [h1]
    rcases Nat.lt_or_ge n 19 with h' | h'
    · omega
    · exfalso
      have : 10 ^ 19 ≤ 10 ^ n := Nat.pow_le_pow_right (by decide) h'
      have e : (10 : Nat) ^ 19 = 10000000000000000000 := rfl
      omega
theorem digit_ne46 {c : UInt8} (h : digit c) : c ≠ 46 := by
  intro e; subst e; exact absurd h.1 (by decide)
theorem run_ahead (X : List UInt8) (hX : ∀ c ∈ X, digit c) (h : cnt X ≤ 19) : ∃ dp, run X = ⟨vl X, cnt X, cnt X, dp, false, decide (X ≠ []), false⟩ := by
  induction X using snocRec with
  | nil => exact ⟨0, rfl⟩
  | snoc X c ih =>
    have hc := hX c (by simp)
    have h1 := cnt_le X c
    obtain ⟨dp, e⟩ := ih (fun x hx => hX x (by simp [hx])) (by omega)
    have er : run (X ++ [c]) = step (run X) c := by simp [run]
    rw [er, e]
    unfold step
    rw [if_neg (digit_ne46 hc), cnt_snoc, vl_snoc]
    simp only
    by_cases h0 : c = 48 ∧ cnt X = 0
    · rw [if_pos h0, if_pos h0]
      have hv : vl X = 0 := by
        rcases cnt_vl X (fun x hx => hX x (by simp [hx])) with ⟨_, h⟩ | ⟨n, h, _⟩
        · exact h
        · omega
      refine ⟨dp - 1, ?_⟩
      rw [hv, h0.1, h0.2]
      simp
    · rw [if_neg h0, if_neg h0]
      have : cnt X < 19 := by rw [cnt_snoc, if_neg h0] at h; omega
      rw [if_pos this]
      exact ⟨dp, by simp⟩
theorem run_behind (X Y : List UInt8) (hX : ∀ c ∈ X, digit c) (hX0 : X ≠ []) (hY : ∀ c ∈ Y, digit c) (h : cnt (X ++ Y) ≤ 19) : run (X ++ 46 :: Y) = ⟨vl (X ++ Y), cnt (X ++ Y), cnt (X ++ Y), (cnt (X ++ Y) : Int) - Y.length, true, true, false⟩ := by
  induction Y using snocRec with
  | nil =>
    obtain ⟨dp, e⟩ := run_ahead X hX (by simpa using h)
    have er : run (X ++ [46]) = step (run X) 46 := by simp [run]
    rw [er, e]
    simp [step, hX0]
  | snoc Y c ih =>
    have hc := hY c (by simp)
    have ea : X ++ (Y ++ [c]) = (X ++ Y) ++ [c] := by simp
    rw [ea] at h ⊢
    have h1 := cnt_le (X ++ Y) c
    have e := ih (fun x hx => hY x (by simp [hx])) (by omega)
    have er : run (X ++ 46 :: (Y ++ [c])) = step (run (X ++ 46 :: Y)) c := by simp [run]
    rw [er, e]
    unfold step
    rw [if_neg (digit_ne46 hc), cnt_snoc, vl_snoc]
    simp only
    have hall : ∀ x ∈ X ++ Y, digit x := fun x hx => (List.mem_append.1 hx).elim (hX x) (fun hx => hY x (by simp [hx]))
    by_cases h0 : c = 48 ∧ cnt (X ++ Y) = 0
    · rw [if_pos h0, if_pos h0]
      have hv : vl (X ++ Y) = 0 := by
        rcases cnt_vl _ hall with ⟨_, h⟩ | ⟨n, h, _⟩
        · exact h
        · omega
      rw [hv, h0.1, h0.2]
      simp
      omega
    · rw [if_neg h0, if_neg h0]
      have : cnt (X ++ Y) < 19 := by rw [cnt_snoc, if_neg h0] at h; omega
      rw [if_pos this]
      simp
      omega
end Pl
end Go.Proofs.YtpilniljhmkedaaGreatDoor
namespace Go.Proofs.YtpilniljhmkedaaGreatDoor
open Go.RowKit Go.Lib
/-- A slice that reads as words of 32 bits. -/
def Rd (w : World) (v : Value) (xs : List Nat) : Prop :=
  (v = .slice none 0 0 ∧ xs = []) ∨ ∃ b cap, v = .slice (some ⟨b, 0, none⟩) xs.length cap ∧ xs.length ≤ cap ∧ b < w.heap.size ∧ ∀ (j x : Nat), xs[j]? = some x → w.cell? ⟨b, j, none⟩ = some (.int .u32 x)
theorem Rd.below {w w' : World} {v : Value} {xs : List Nat} (h : Rd w v xs) (hb : Below w.heap.size w w') : Rd w' v xs := by
  rcases h with h | ⟨b, cap, h1, h2, h3, h4⟩
  · exact .inl h
  · exact .inr ⟨b, cap, h1, h2, Nat.lt_of_lt_of_le h3 hb.size, fun j x hx => by rw [hb.cell (p := ⟨b, j, none⟩) h3]; exact h4 j x hx⟩
namespace Pl
/-- Words without noughts at the end. -/
def trimW (xs : List Nat) : List Nat := (xs.reverse.dropWhile (· == 0)).reverse
theorem trimW_snoc_zero (l : List Nat) : trimW (l ++ [0]) = trimW l := by simp [trimW]
theorem trimW_snoc {l : List Nat} {c : Nat} (h : c ≠ 0) : trimW (l ++ [c]) = l ++ [c] := by simp [trimW, h]
theorem trimW_nil : trimW [] = [] := rfl
/-- The number that words are. -/
def num : List Nat → Nat
  | [] => 0
  | x :: xs => x + 4294967296 * num xs
theorem num_append : ∀ (a b : List Nat), num (a ++ b) = num a + 4294967296 ^ a.length * num b
  | [], b => by simp [num]
  | x :: a, b => by rw [List.cons_append, num, num_append a b, num, List.length_cons, Nat.pow_succ]; rw [Nat.mul_add, ← Nat.mul_assoc, Nat.mul_comm 4294967296 (4294967296 ^ a.length)]; omega
theorem num_trimW (xs : List Nat) : num (trimW xs) = num xs := by
  have key : ∀ l : List Nat, num (l.dropWhile (· == 0)).reverse = num l.reverse := by
    intro l
    induction l with
    | nil => rfl
    | cons a l ih =>
      by_cases h : a = 0
      · subst h; simp [ih, num_append, num]
      · simp [h]
  have := key xs.reverse
  rw [List.reverse_reverse] at this
  exact this
end Pl
def TrimOk (w : World) (xs : List Nat) (e : Ending) (w' : World) : Prop := ∃ v', e = .returned v' ∧ Rd w v' (Pl.trimW xs) ∧ w = w'
set_option maxHeartbeats 1000000 in
theorem trim_any (v : Value) (xs : List Nat) (w : World) (h : Rd w v xs) (hl : xs.length ≤ 100000) : Calls Tryz.prog 67 #[v] w (TrimOk w xs) := by
  rcases h with ⟨rfl, rfl⟩ | ⟨b, cap, rfl, h2, h3, h4⟩
  · go_enter Tryz.func67, Tryz.ntmps67
    go_wp2_with fail
    refine wp_loop_rounds 1 ?_
    rw [rounds_succ]
    go_wp2_with fail
    go_ret
    exact ⟨_, rfl, .inl ⟨rfl, rfl⟩, rfl⟩
  · have H4 := Lib.hid h4
    clear h4
    obtain ⟨n, hn⟩ : ∃ n, xs.length = n := ⟨_, rfl⟩
    rw [hn] at h2 hl ⊢
    have HN := Lib.hid hn
    clear hn
    go_enter Tryz.func67, Tryz.ntmps67
    go_wp2_with fail
    go_loop [0] (fun s => ∃ k : Nat, k ≤ n ∧ s = .slice (some ⟨b, 0, none⟩) k cap ∧ Hid (Pl.trimW (xs.take k) = Pl.trimW xs)) (fun s => match s with | .slice _ k _ => k | _ => 0)
    case atStart => exact ⟨n, Nat.le_refl _, rfl, Lib.hid (by rw [List.take_of_length_le (by rw [HN.out]; exact Nat.le_refl _)])⟩
    case round =>
      obtain ⟨k, hk, rfl, hz⟩ := hrel
      cases k with
      | zero =>
        go_wp2_with fail
        go_ret
        exact ⟨_, rfl, .inr ⟨b, cap, by rw [← hz.out]; rfl, by rw [← hz.out]; simp [Pl.trimW], h3, fun j x hx => by rw [← hz.out] at hx; simp [Pl.trimW] at hx⟩, rfl⟩
      | succ k =>
        have hk2 : k < xs.length := by rw [HN.out]; omega
        have hc := H4.out k xs[k] (List.getElem?_eq_getElem hk2)
        have HT := Lib.hid (show xs.take (k + 1) = xs.take k ++ [xs[k]] from List.take_succ_eq_append_getElem hk2)
        generalize xs[k] = c at hc HT
        by_cases h0 : c = 0
        · have b0 : ((c : Int) == 0) = true := by rw [beq_iff_eq]; omega
          have HS := Lib.hid (show Pl.trimW (xs.take k) = Pl.trimW xs by rw [← hz.out, HT.out, h0, Pl.trimW_snoc_zero])
          clear h0 HT hz
          go_wp2_with fail
          go_round
          case rel => exact ⟨k, by omega, rfl, HS⟩
          case measure => simp
        · have b0 : ((c : Int) == 0) = false := by rw [beq_eq_false_iff_ne]; omega
          have HS := Lib.hid (show Pl.trimW xs = xs.take (k + 1) by rw [← hz.out, HT.out, Pl.trimW_snoc h0])
          clear h0 HT hz
          go_wp2_with fail
          go_ret
          have hlen : (xs.take (k + 1)).length = k + 1 := by rw [List.length_take, HN.out]; omega
          refine ⟨_, rfl, .inr ⟨b, cap, by rw [HS.out, hlen]; rfl, by rw [HS.out, hlen]; omega, h3, fun j x hx => ?_⟩, rfl⟩
          rw [HS.out] at hx
          rw [List.getElem?_take] at hx
          split at hx
          · exact H4.out j x hx
          · cases hx
end Go.Proofs.YtpilniljhmkedaaGreatDoor
namespace Go.Proofs.YtpilniljhmkedaaGreatDoor
open Go.RowKit Go.Lib
namespace Pl
def four (x : Nat) : List UInt8 := [UInt8.ofNat x, UInt8.ofNat (x / 256), UInt8.ofNat (x / 65536), UInt8.ofNat (x / 16777216)]
def flat (xs : List Nat) : List UInt8 := xs.flatMap four
def strip (l : List UInt8) : List UInt8 := (l.reverse.dropWhile (· == 0)).reverse
theorem strip_snoc_zero (l : List UInt8) : strip (l ++ [0]) = strip l := by simp [strip]
theorem strip_snoc {l : List UInt8} {c : UInt8} (h : c ≠ 0) : strip (l ++ [c]) = l ++ [c] := by simp [strip, h]
theorem flat_snoc (l : List Nat) (x : Nat) : flat (l ++ [x]) = flat l ++ four x := by simp [flat]
theorem flat_len (l : List Nat) : (flat l).length = 4 * l.length := by
  induction l with
  | nil => rfl
  | cons a l ih =>
    have : flat (a :: l) = four a ++ flat l := by simp [flat]
    rw [this, List.length_append, ih]; simp [four]; omega
/-- The bytes of words, the lowest first. -/
def bytesOf (xs : List Nat) : List UInt8 := strip (flat (trimW xs))
end Pl
theorem bc_four {x : Nat} (h : x < 4294967296) : bc (Pl.four x) = [.int .u8 ((x : Int) % 256), .int .u8 ((x : Int) / 256 % 256), .int .u8 ((x : Int) / 65536 % 256), .int .u8 ((x : Int) / 16777216)] := by
  simp [bc, Pl.four]; omega
theorem Owns.shrink {w : World} {base g N n cap : Nat} {xs : List Value} (h : Owns w base 5 1 (.slice (some ⟨g, 0, none⟩) N cap) N xs) (hn : n ≤ N) : Owns w base 5 1 (.slice (some ⟨g, 0, none⟩) n cap) n (xs.take n) := by
  have h1 := h.1
  rw [Nat.mul_one] at h1
  refine ⟨by rw [List.length_take, h1]; omega, ?_⟩
  rcases h.2 with ⟨h2, _⟩ | ⟨g', cap', cur, fz, h2, hb, hg, hfz, hnc, hcm, hcs, ht⟩
  · cases h2
  · injection h2 with e1 e2 e3
    injection e1 with e1; injection e1 with e1
    subst e1 e3
    refine .inr ⟨g, cap, cur, fz, rfl, hb, hg, hfz, by omega, hcm, hcs, ?_⟩
    rw [Nat.mul_one] at ht ⊢
    rw [← ht, List.take_take, Nat.min_eq_left hn]
theorem two_set (wr : World) (B : Nat) (x y : Value) {v0 v1 : Value} (r0 : wr.cell? ⟨B, 0, none⟩ = some v0) (r1 : wr.cell? ⟨B, 1, none⟩ = some v1) :
    ((wr.setCell ⟨B, 0, none⟩ x).setCell ⟨B, 1, none⟩ y).cell? ⟨B, 0, none⟩ = some x ∧ ((wr.setCell ⟨B, 0, none⟩ x).setCell ⟨B, 1, none⟩ y).cell? ⟨B, 1, none⟩ = some y ∧ Below B wr ((wr.setCell ⟨B, 0, none⟩ x).setCell ⟨B, 1, none⟩ y) := by
  have n01 : (⟨B, 0, none⟩ : Addr) ≠ ⟨B, 1, none⟩ := by simp
  refine ⟨?_, ?_, Below.setCell (Below.setCell (Below.refl B wr) (p := ⟨B, 0, none⟩) (Nat.le_refl B) _) (p := ⟨B, 1, none⟩) (Nat.le_refl B) _⟩
  · rw [World.cell?_setCell_other _ _ _ _ n01.symm]; exact World.cell?_setCell_same _ _ _ r0
  · exact World.cell?_setCell_same _ _ _ (u := v1) (by rw [World.cell?_setCell_other _ _ _ _ n01]; exact r1)
/-- A large number as a value. -/
def lv (neg : Bool) (l : List UInt8) : Value := .agg #[.bool neg, .string (bs l)]
def LargeOk (w : World) (neg : Bool) (xs : List Nat) (e : Ending) (w' : World) : Prop :=
  e = .returned (lv (neg && !(Pl.bytesOf xs).isEmpty) (Pl.bytesOf xs)) ∧ Below w.heap.size w w'
set_option maxHeartbeats 2000000 in
theorem large_any (v : Value) (xs : List Nat) (neg : Bool) (w : World) (h : Rd w v xs) (hl : xs.length ≤ 10000) (hx : ∀ x ∈ xs, x < 4294967296) :
    Calls Tryz.prog 34 #[v, .bool neg] w (LargeOk w neg xs) := by
  obtain ⟨i0, hi, hz0, hz1, hz2⟩ := info_parts info5
  have H := Lib.hid (fun (w' : World) (hB : Below w.heap.size w w') => trim_any v xs w' (h.below hB) (by omega))
  have HX := Lib.hid hx
  clear hx h
  go_enter Tryz.func34, Tryz.ntmps34
  go_wp2_with fail
  refine (H.out _ ((Below.refl _ _).alloc (Nat.le_refl _) _)).mono ?_
  rintro e w' ⟨v1, rfl, hrd, rfl⟩
  have hyl : (Pl.trimW xs).length ≤ 10000 := by
    have : (xs.reverse.dropWhile (· == 0)).length ≤ xs.reverse.length := (List.dropWhile_suffix _).length_le
    unfold Pl.trimW
    simp at this ⊢
    omega
  obtain ⟨ys, hys⟩ : ∃ ys, Pl.trimW xs = ys := ⟨_, rfl⟩
  rw [hys] at hrd hyl
  have HYS := Lib.hid hys
  have HRD := Lib.hid hrd
  obtain ⟨va, vc, hv1⟩ : ∃ va vc, v1 = .slice va ys.length vc := by
    rcases hrd with ⟨h1, h2⟩ | ⟨b, cap, h1, _⟩
    · exact ⟨none, 0, by rw [h1, h2]; rfl⟩
    · exact ⟨_, _, h1⟩
  subst hv1
  clear hys hrd H
  obtain ⟨n, hn⟩ : ∃ n, ys.length = n := ⟨_, rfl⟩
  rw [hn] at hyl HRD ⊢
  have HN := Lib.hid hn
  clear hn
  go_wp2_with (at_make; refine wpList_make_own _ rfl _ _ 76 rfl (w.heap.size + 1) 5 i0 (.int .u8 0) 1 Tryz.underlying76 hi hz0 hz1 .i64 .i64 _ (4 * n) rfl rfl ?c0 ?c1 ?c2 ?c3 ?_)
  case c0 => omega
  case c1 => rw [hz2]; omega
  case c2 => unfold maxLen; omega
  case c3 => simp
  intro w1 ho1 hg1
  obtain ⟨W0, hW0⟩ : ∃ W0, w.alloc (.cells #[.bool false, .string ⟨#[]⟩] 34) = W0 := ⟨_, rfl⟩
  have hW1 : W0.heap.size = w.heap.size + 1 := by rw [← hW0]; simp
  have hW2 : W0.heap[w.heap.size]? = some (.cells #[.bool false, .string ⟨#[]⟩] 34) := by rw [← hW0]; exact heap_alloc_at _ _
  have hW3 : Below w.heap.size w W0 := by rw [← hW0]; exact (Below.refl _ _).alloc (Nat.le_refl _) _
  rw [hW0] at HRD hg1
  have HB1 := Lib.hid (show Below (w.heap.size + 1) W0 w1 from (Below.refl _ _).grown hg1 (by omega) (fun k hk => by cases hk))
  have hs1 := hg1.size
  rw [hW1] at hs1
  have HO1 := Lib.hid (Owns.of_row ho1)
  have HW2 := Lib.hid hW2
  have HW3 := Lib.hid hW3
  have HW1 := Lib.hid hW1
  clear ho1 hg1 hW2 hW3 hW1 hi hz0 hz1 hz2 hW0
  go_wp2_with fail
  go_loopw [5, 16] (fun s i wr => ∃ k : Nat, k ≤ n ∧ i = .int .i64 k ∧ Owns wr (w.heap.size + 1) 5 1 s (4 * k) (bc (Pl.flat (ys.take k))) ∧ Below (w.heap.size + 1) W0 wr ∧ w.heap.size + 1 ≤ wr.heap.size) (fun _ i _ => n - (RowKit.intOf i).toNat)
  case atStart => exact ⟨0, Nat.zero_le _, rfl, HO1.out, HB1.out, hs1⟩
  case round =>
    obtain ⟨k, hk, rfl, ho, hb, hs⟩ := hrel
    have HO := Lib.hid ho
    have HB := Lib.hid hb
    obtain ⟨a1, c1, rfl⟩ := ho.form
    clear ho hb
    by_cases hlt : k < n
    · have hk2 : k < ys.length := by rw [HN.out]; exact hlt
      have hyk : ys[k] < 4294967296 := by
        have hm : ys[k] ∈ xs := by
          have h1 : ys[k] ∈ ys := List.getElem_mem _
          have h2 : ys <+: xs := by
            rw [← HYS.out]; unfold Pl.trimW
            have := List.dropWhile_suffix (fun x : Nat => x == 0) (l := xs.reverse)
            rw [← List.reverse_suffix]; simpa using this
          exact h2.mem h1
        exact HX.out _ hm
      have HT := Lib.hid (show Pl.flat (ys.take (k + 1)) = Pl.flat (ys.take k) ++ Pl.four ys[k] by rw [List.take_succ_eq_append_getElem hk2, Pl.flat_snoc])
      obtain ⟨b, hva, hcell⟩ : ∃ b, va = some ⟨b, 0, none⟩ ∧ wr.cell? ⟨b, k, none⟩ = some (.int .u32 (ys[k] : Nat)) := by
        rcases HRD.out with ⟨h1, h2⟩ | ⟨b, cap, h1, h2, h3, h4⟩
        · rw [h2] at hk2; simp at hk2
        · injection h1 with e1 _ _
          refine ⟨b, e1, ?_⟩
          rw [HB.out.cell (p := ⟨b, k, none⟩) (by have := HW1.out; show b < _; omega)]
          exact h4 k _ (List.getElem?_eq_getElem hk2)
      subst hva
      generalize ys[k] = x at hyk hcell HT
      go_wp2_with (at_builtin; refine wpList_app rfl (.tmp 20) (.tmp 32) rfl (w.heap.size + 1) _ _ _ rfl HO.out [.int .u8 ((x : Int) % 256), .int .u8 ((x : Int) / 256 % 256), .int .u8 ((x : Int) / 65536 % 256), .int .u8 ((x : Int) / 16777216)] rfl (ones (news := [(x : Int) % 256, (x : Int) / 256 % 256, (x : Int) / 65536 % 256, (x : Int) / 16777216])) (by simp only [List.length_cons, List.length_nil]; omega) (by omega) ?_)
      intro v2 w2 ho2 hg2
      have HO2 := Lib.hid ho2
      have HG2 := Lib.hid hg2
      obtain ⟨a2, c2, rfl⟩ := ho2.form
      clear ho2 hg2
      go_wp2_with fail
      go_roundw
      case rel =>
        refine ⟨k + 1, by omega, by go_num, ?_, HG2.out.below HB.out (by omega) (fun g hg => (HO.out.lt g hg).1), Nat.le_trans hs HG2.out.1.size⟩
        have h2 := HO2.out
        rw [HT.out, bc_app, bc_four hyk]
        exact h2
      case measure => simp [RowKit.intOf]; omega
    · obtain rfl : k = n := by omega
      rw [List.take_of_length_le (by rw [HN.out]; exact Nat.le_refl _)] at HO
      obtain ⟨D, hD⟩ : ∃ D, Pl.flat ys = D := ⟨_, rfl⟩
      have hDl : D.length = 4 * k := by rw [← hD, Pl.flat_len, HN.out]
      have HDL := Lib.hid hDl
      rw [hD] at HO
      have HR := Lib.hid (show Pl.bytesOf xs = Pl.strip D by unfold Pl.bytesOf; rw [HYS.out, hD])
      have hres : wr.heap[w.heap.size]? = some (.cells #[.bool false, .string ⟨#[]⟩] 34) := by rw [HB.out.block _ (by omega)]; exact HW2.out
      have HRES := Lib.hid hres
      have HBW := Lib.hid (show Below w.heap.size w wr from HW3.out.trans (HB.out.mono (by omega)))
      clear hD hDl hres hlt hk
      rcases HO.out.2 with ⟨hnone, h0⟩ | ⟨g, cap, cur, fz, hv, hbase, hg, _, hnc, hcm, hcs, ht⟩
      · injection hnone with e1 e2 e3
        subst e1 e3
        have hst := run_string_of_owns (P := Tryz.prog) 76 9 Tryz.underlying76 Tryz.underlying5 Tryz.underlying9 (l := []) (Owns.nil wr 0 5 1)
        have HS := Lib.hid (show Pl.bytesOf xs = [] by rw [HR.out, show D = [] from List.eq_nil_of_length_eq_zero (by rw [HDL.out, h0])]; rfl)
        rw [h0]
        clear h0 e2
        have r0 : wr.cell? ⟨w.heap.size, 0, none⟩ = some (.bool false) := by simp [World.cell?, HRES.out]
        have r1 : wr.cell? ⟨w.heap.size, 1, none⟩ = some (.string ⟨#[]⟩) := by simp [World.cell?, HRES.out]
        have f0 : wr.frozen? ⟨w.heap.size, 0, none⟩ = false := by simp [World.frozen?, HRES.out]
        have f1 : wr.frozen? ⟨w.heap.size, 1, none⟩ = false := by simp [World.frozen?, HRES.out]
        cases neg
        · go_wp2_with fail
          refine wp_loop_rounds 1 ?_
          rw [rounds_succ]
          go_wp2_with fail
          obtain ⟨k0, k1, kB⟩ := two_set wr w.heap.size (.bool false) (.string (bs [])) r0 r1
          have kB' := HBW.out.trans kB
          refine bodyPost_ret (v := lv false []) (by simp [results, Tryz.results34, go_sem, lv, k0, k1]) rfl ⟨by rw [HS.out]; rfl, kB'⟩
        · go_wp2_with fail
          refine wp_loop_rounds 1 ?_
          rw [rounds_succ]
          go_wp2_with fail
          obtain ⟨k0, k1, kB⟩ := two_set wr w.heap.size (.bool false) (.string (bs [])) r0 r1
          have kB' := HBW.out.trans kB
          refine bodyPost_ret (v := lv false []) (by simp [results, Tryz.results34, go_sem, lv, k0, k1]) rfl ⟨by rw [HS.out]; rfl, kB'⟩
      · injection hv with e1 e2 e3
        subst e1 e3
        have HC := Lib.hid (show ∀ j (h : j < D.length), wr.cell? ⟨g, j, none⟩ = some (.int .u8 (D[j].toNat : Int)) from fun j h => by
          have := HO.out.cells (g := g) rfl j (.int .u8 (D[j].toNat : Int)) (by simp [bc, h])
          rwa [add_plain, Nat.zero_add] at this)
        clear hg ht e2 hcs
        go_wp2_with fail
        go_loop [5] (fun s => ∃ m : Nat, m ≤ 4 * k ∧ s = .slice (some ⟨g, 0, none⟩) m c1 ∧ Hid (Pl.strip (D.take m) = Pl.strip D)) (fun s => match s with | .slice _ m _ => m | _ => 0)
        case atStart => exact ⟨4 * k, Nat.le_refl _, rfl, Lib.hid (by rw [List.take_of_length_le (by rw [HDL.out]; exact Nat.le_refl _)])⟩
        case round =>
          obtain ⟨m, hm, rfl, hz⟩ := hrel
          cases m with
          | zero =>
            have hst := run_string_of_owns (P := Tryz.prog) 76 9 Tryz.underlying76 Tryz.underlying5 Tryz.underlying9 (l := []) (HO.out.shrink (n := 0) (by omega))
            have HS := Lib.hid (show Pl.bytesOf xs = [] by rw [HR.out, ← hz.out]; rfl)
            have r0 : wr.cell? ⟨w.heap.size, 0, none⟩ = some (.bool false) := by simp [World.cell?, HRES.out]
            have r1 : wr.cell? ⟨w.heap.size, 1, none⟩ = some (.string ⟨#[]⟩) := by simp [World.cell?, HRES.out]
            have f0 : wr.frozen? ⟨w.heap.size, 0, none⟩ = false := by simp [World.frozen?, HRES.out]
            have f1 : wr.frozen? ⟨w.heap.size, 1, none⟩ = false := by simp [World.frozen?, HRES.out]
            clear hz
            cases neg
            · go_wp2_with fail
              obtain ⟨k0, k1, kB⟩ := two_set wr w.heap.size (.bool false) (.string (bs [])) r0 r1
              have kB' := HBW.out.trans kB
              refine bodyPost_ret (v := lv false []) (by simp [results, Tryz.results34, go_sem, lv, k0, k1]) rfl ⟨by rw [HS.out]; rfl, kB'⟩
            · go_wp2_with fail
              obtain ⟨k0, k1, kB⟩ := two_set wr w.heap.size (.bool false) (.string (bs [])) r0 r1
              have kB' := HBW.out.trans kB
              refine bodyPost_ret (v := lv false []) (by simp [results, Tryz.results34, go_sem, lv, k0, k1]) rfl ⟨by rw [HS.out]; rfl, kB'⟩
          | succ m =>
            have hm2 : m < D.length := by rw [HDL.out]; omega
            have hc := HC.out m hm2
            have HT := Lib.hid (show D.take (m + 1) = D.take m ++ [D[m]] from List.take_succ_eq_append_getElem hm2)
            generalize D[m] = c at hc HT
            by_cases h0 : c = 0
            · have b0 : ((c.toNat : Int) == 0) = true := by rw [h0]; rfl
              have HS := Lib.hid (show Pl.strip (D.take m) = Pl.strip D by rw [← hz.out, HT.out, h0, Pl.strip_snoc_zero])
              clear h0 HT hz
              go_wp2_with fail
              go_round
              case rel => exact ⟨m, by omega, rfl, HS⟩
              case measure => simp
            · have b0 : ((c.toNat : Int) == 0) = false := by
                rw [beq_eq_false_iff_ne]; intro h; apply h0; apply UInt8.toNat_inj.1; rw [show (0 : UInt8).toNat = 0 from rfl]; omega
              have HS := Lib.hid (show Pl.strip D = D.take (m + 1) by rw [← hz.out, HT.out, Pl.strip_snoc h0])
              have hmt : (D.take (m + 1)).length = m + 1 := by rw [List.length_take, HDL.out]; omega
              have hst := run_string_of_owns (P := Tryz.prog) 76 9 Tryz.underlying76 Tryz.underlying5 Tryz.underlying9 (l := D.take (m + 1)) (by have := HO.out.shrink (n := m + 1) (by omega); simpa [bc, List.map_take] using this)
              obtain ⟨E, hE⟩ : ∃ E, D.take (m + 1) = E := ⟨_, rfl⟩
              rw [hE] at HS hst hmt
              have HS := Lib.hid (HR.out.trans HS.out)
              have hne : E.isEmpty = false := by cases E with | nil => simp at hmt | cons a l => rfl
              clear h0 HT hz hE
              have r0 : wr.cell? ⟨w.heap.size, 0, none⟩ = some (.bool false) := by simp [World.cell?, HRES.out]
              have r1 : wr.cell? ⟨w.heap.size, 1, none⟩ = some (.string ⟨#[]⟩) := by simp [World.cell?, HRES.out]
              have f0 : wr.frozen? ⟨w.heap.size, 0, none⟩ = false := by simp [World.frozen?, HRES.out]
              have f1 : wr.frozen? ⟨w.heap.size, 1, none⟩ = false := by simp [World.frozen?, HRES.out]
              cases neg
              · go_wp2_with fail
                obtain ⟨k0, k1, kB⟩ := two_set wr w.heap.size (.bool false) (.string (bs E)) r0 r1
                have kB' := HBW.out.trans kB
                refine bodyPost_ret (v := lv false E) (by simp [results, Tryz.results34, go_sem, lv, k0, k1]) rfl ⟨by rw [HS.out]; rfl, kB'⟩
              · go_wp2_with fail
                obtain ⟨k0, k1, kB⟩ := two_set wr w.heap.size (.bool true) (.string (bs E)) r0 r1
                have kB' := HBW.out.trans kB
                refine bodyPost_ret (v := lv true E) (by simp [results, Tryz.results34, go_sem, lv, k0, k1]) rfl ⟨by rw [HS.out, hne]; rfl, kB'⟩
end Go.Proofs.YtpilniljhmkedaaGreatDoor
namespace Go.Proofs.YtpilniljhmkedaaGreatDoor
open Go.RowKit Go.Lib
/-- The value of the large number of an integer of 64 bits. -/
def ofv (n : Int) : Value := lv (decide (n < 0) && !(Pl.bytesOf [n.natAbs % 4294967296, n.natAbs / 4294967296]).isEmpty) (Pl.bytesOf [n.natAbs % 4294967296, n.natAbs / 4294967296])
theorem rd_two (w : World) (x y : Nat) (T : TypeId) : Rd (w.alloc (.cells #[.int .u32 (x : Int), .int .u32 (y : Int)] T)) (.slice (some ⟨w.heap.size, 0, none⟩) 2 2) [x, y] := by
  refine .inr ⟨w.heap.size, 2, rfl, Nat.le_refl _, by simp, fun j z hz => ?_⟩
  match j, hz with
  | 0, hz => simp at hz; subst hz; simp
  | 1, hz => simp at hz; subst hz; simp
set_option maxHeartbeats 1000000 in
theorem ofn_any (n : Int) (w : World) (h1 : -9223372036854775808 ≤ n) (h2 : n ≤ 9223372036854775807) :
    Calls Tryz.prog 15 #[.int .i64 n] w fun e w' => e = .returned (ofv n) ∧ Below w.heap.size w w' := by
  obtain ⟨a, ha⟩ : ∃ a : Nat, n.natAbs = a := ⟨_, rfl⟩
  have hab : a ≤ 9223372036854775808 := by omega
  obtain ⟨x, hx⟩ : ∃ x : Nat, (a : Int) % 4294967296 = x := ⟨a % 4294967296, by omega⟩
  obtain ⟨y, hy⟩ : ∃ y : Nat, (a : Int) / 4294967296 = y := ⟨a / 4294967296, by omega⟩
  obtain ⟨b, hb⟩ : ∃ b : Bool, decide (n < 0) = b := ⟨_, rfl⟩
  have HV := Lib.hid (show ofv n = lv (b && !(Pl.bytesOf [x, y]).isEmpty) (Pl.bytesOf [x, y]) by unfold ofv; rw [ha, hb, show a % 4294967296 = x by omega, show a / 4294967296 = y by omega])
  have hx2 : x < 4294967296 := by omega
  have hy2 : y < 4294967296 := by omega
  have HL := Lib.hid (fun (W : World) => large_any _ [x, y] b _ (rd_two W x y 68) (by simp) (by intro z hz; simp at hz; omega))
  obtain ⟨z, hz⟩ : ∃ z, IntKind.u64.wrap n = z := ⟨_, rfl⟩
  have hw : n < 0 → IntKind.u64.wrap (-z) = (a : Int) := fun hn => by rw [← hz, IntKind.wrap_u64, IntKind.wrap_u64]; omega
  have hw2 : ¬ n < 0 → z = (a : Int) := fun hn => by rw [← hz, IntKind.wrap_u64]; omega
  have hyw : (y : Int) % 4294967296 = y := by omega
  clear ha
  by_cases hn : n < 0
  · obtain rfl : b = true := by rw [← hb]; simpa using hn
    have hw' := hw hn
    clear hw hw2 hb
    go_enter Tryz.func15, Tryz.ntmps15
    go_wp2_with fail
    have h := HL.out (w.alloc (.cells #[.bool false, .string ⟨#[]⟩] 34))
    rw [show (w.alloc (.cells #[.bool false, .string ⟨#[]⟩] 34)).heap.size = w.heap.size + 1 by simp] at h
    refine h.mono ?_
    rintro e w2 ⟨rfl, hB⟩
    have hB2 : Below (w.heap.size + 1) (w.alloc (.cells #[.bool false, .string ⟨#[]⟩] 34)) w2 := ((Below.refl _ _).alloc (by simp) _).trans (hB.mono (by simp))
    have hR : w2.heap[w.heap.size]? = some (.cells #[.bool false, .string ⟨#[]⟩] 34) := by rw [hB2.block _ (by omega)]; exact heap_alloc_at _ _
    have r0 : w2.cell? ⟨w.heap.size, 0, none⟩ = some (.bool false) := by simp [World.cell?, hR]
    have r1 : w2.cell? ⟨w.heap.size, 1, none⟩ = some (.string ⟨#[]⟩) := by simp [World.cell?, hR]
    have f0 : w2.frozen? ⟨w.heap.size, 0, none⟩ = false := by simp [World.frozen?, hR]
    have f1 : w2.frozen? ⟨w.heap.size, 1, none⟩ = false := by simp [World.frozen?, hR]
    have HBW := Lib.hid (show Below w.heap.size w w2 from ((Below.refl _ _).alloc (Nat.le_refl _) _).trans (hB2.mono (by omega)))
    clear hB hB2 hR h
    unfold lv
    generalize (true && !(Pl.bytesOf [x, y]).isEmpty) = g at HV ⊢
    obtain ⟨S, hS⟩ : ∃ S, bs (Pl.bytesOf [x, y]) = S := ⟨_, rfl⟩
    have HS := Lib.hid hS
    rw [hS]
    clear hS
    go_wp2_with fail
    obtain ⟨k0, k1, kB⟩ := two_set w2 w.heap.size (.bool g) (.string S) r0 r1
    have kB' := HBW.out.trans kB
    refine bodyPost_ret (v := .agg #[.bool g, .string S]) (by simp [results, Tryz.results15, go_sem, k0, k1]) rfl ⟨by rw [HV.out]; unfold lv; rw [HS.out], kB'⟩
  · obtain rfl : b = false := by rw [← hb]; simpa using hn
    have hw' := hw2 hn
    clear hw hw2 hb
    go_enter Tryz.func15, Tryz.ntmps15
    go_wp2_with fail
    have h := HL.out (w.alloc (.cells #[.bool false, .string ⟨#[]⟩] 34))
    rw [show (w.alloc (.cells #[.bool false, .string ⟨#[]⟩] 34)).heap.size = w.heap.size + 1 by simp] at h
    refine h.mono ?_
    rintro e w2 ⟨rfl, hB⟩
    have hB2 : Below (w.heap.size + 1) (w.alloc (.cells #[.bool false, .string ⟨#[]⟩] 34)) w2 := ((Below.refl _ _).alloc (by simp) _).trans (hB.mono (by simp))
    have hR : w2.heap[w.heap.size]? = some (.cells #[.bool false, .string ⟨#[]⟩] 34) := by rw [hB2.block _ (by omega)]; exact heap_alloc_at _ _
    have r0 : w2.cell? ⟨w.heap.size, 0, none⟩ = some (.bool false) := by simp [World.cell?, hR]
    have r1 : w2.cell? ⟨w.heap.size, 1, none⟩ = some (.string ⟨#[]⟩) := by simp [World.cell?, hR]
    have f0 : w2.frozen? ⟨w.heap.size, 0, none⟩ = false := by simp [World.frozen?, hR]
    have f1 : w2.frozen? ⟨w.heap.size, 1, none⟩ = false := by simp [World.frozen?, hR]
    have HBW := Lib.hid (show Below w.heap.size w w2 from ((Below.refl _ _).alloc (Nat.le_refl _) _).trans (hB2.mono (by omega)))
    clear hB hB2 hR h
    unfold lv
    generalize (false && !(Pl.bytesOf [x, y]).isEmpty) = g at HV ⊢
    obtain ⟨S, hS⟩ : ∃ S, bs (Pl.bytesOf [x, y]) = S := ⟨_, rfl⟩
    have HS := Lib.hid hS
    rw [hS]
    clear hS
    go_wp2_with fail
    obtain ⟨k0, k1, kB⟩ := two_set w2 w.heap.size (.bool g) (.string S) r0 r1
    have kB' := HBW.out.trans kB
    refine bodyPost_ret (v := .agg #[.bool g, .string S]) (by simp [results, Tryz.results15, go_sem, k0, k1]) rfl ⟨by rw [HV.out]; unfold lv; rw [HS.out], kB'⟩
end Go.Proofs.YtpilniljhmkedaaGreatDoor
