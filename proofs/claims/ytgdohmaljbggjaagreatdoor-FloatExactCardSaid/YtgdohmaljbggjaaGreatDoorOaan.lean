/- The reading of a float's digits: the contract of readFloat at one form of texts. The reading of a float's digits: the contract of readFloat at one form of texts. Fixed floats, written and read. Fixed floats: a text that is none, one too far, a float cut. The contract of works. -/
import Derived.Test.YtgdohmaljbggjaaGreatDoorOaak
import Derived.Test.YtgdohmaljbggjaaGreatDoorOaaj
import Derived.Test.YtgdohmaljbggjaaGreatDoorOaam
import Derived.Test.YtgdohmaljbggjaaGreatDoorOaal
import Derived.Laws.StructEq
import Derived.Deep.RegionHeld3
namespace Go.Proofs.YtgdohmaljbggjaaGreatDoor
open Go.RowKit Go.Lib

set_option maxHeartbeats 4000000 in
set_option maxRecDepth 100000 in
theorem read_neg_none (s : ByteArray) (M : List UInt8) (w : World) (hsz : Hid (s.size = 1 + M.length)) (hM : MantOk M) (h3 : 3 ≤ M.length) (hl : M.length ≤ 1000) (hat : At s 1 M) (hdig : (Pl.run M).dig = true) (hdot : (Pl.run M).dot = true)
    (hd0 : Pl.digit M[0]) (q9 : 0 < s.size) (hsg : s[0]'q9 = 45) :
    Calls Tryz.prog 193 #[.string s] w (rfOk (Pl.run M) 0 true (1 + M.length) w) := by
  have hs0 : s.size = 1 + M.length := hsz.out
  obtain ⟨N, hN⟩ : ∃ N, 1 + M.length = N := ⟨_, rfl⟩
  rw [hN] at hs0 ⊢
  have hN3 : 1 + 3 ≤ N := by omega
  have hN4 : N ≤ 2002 := by omega
  have q0 : 1 < s.size := by omega
  have q1 : 1 + 1 < s.size := by omega
  have a0 : s[1]'q0 = M[0] := hat 0 (by omega) (by omega)
  have a1 : s[1 + 1]'q1 = M[1] := hat 1 (by omega) (by omega)
  have hc1 : (bits .or .u8 (M[1].toNat : Int) 32 == 120) = false := low_x (hM.1 _ (List.getElem_mem _))
  generalize M[0] = c0 at a0 hd0
  generalize M[1] = c1 at a1 hc1
  unfold Pl.digit at hd0
  have b1 : ((c0.toNat : Int) == 43) = false := by rw [beq_eq_false_iff_ne]; omega
  have b2 : ((c0.toNat : Int) == 45) = false := by rw [beq_eq_false_iff_ne]; omega
  obtain ⟨bb, b3⟩ : ∃ bb : Bool, ((c0.toNat : Int) == 48) = bb := ⟨_, rfl⟩
  have HN := Lib.hid hN
  have hM1 := Lib.hid hl
  clear hN h3 hl hsz
  have HA := Lib.hid hat
  have HM := Lib.hid hM
  have HG := Lib.hid (show (Pl.run M).dig = true ∧ (Pl.run M).dot = true from ⟨hdig, hdot⟩)
  clear hat hM hdig hdot
  cases bb
  all_goals
    go_enter Tryz.func193, Tryz.ntmps193
    go_wp2_with fail
    go_step3
    go_wp2_with (refine (Tryz.internal_strconv_lower _ _).mono ?_; rintro e w' ⟨rfl, rfl⟩)
    go_step3
    go_wp2_with fail
    go_loop [2, 5, 7, 9, 13, 14, 15, 16, 17] (fun v2 v5 v7 v9 v13 v14 v15 v16 v17 => ∃ (i m nd nm : Nat) (dp : Int) (dot dig tr : Bool), 1 ≤ i ∧ i ≤ 1 + M.length ∧ Hid (Pl.run (M.take (i - 1)) = ⟨m, nd, nm, dp, dot, dig, tr⟩) ∧ v7 = .int .i64 i ∧ v2 = .int .u64 m ∧ v5 = .bool tr ∧ v9 = .bool false ∧ v13 = .bool dot ∧ v14 = .bool dig ∧ v15 = .int .i64 nd ∧ v16 = .int .i64 nm ∧ v17 = .int .i64 dp) (fun _ _ v7 _ _ _ _ _ _ => N - (RowKit.intOf v7).toNat)
    case atStart => exact ⟨1, 0, 0, 0, 0, false, false, false, Nat.le_refl _, by omega, Lib.hid rfl, rfl, rfl, rfl, rfl, rfl, rfl, rfl, rfl, rfl⟩
    case round =>
      obtain ⟨i, m, nd, nm, dp, dot, dig, tr, hi0, hk, hst, rfl, rfl, rfl, rfl, rfl, rfl, rfl, rfl, rfl⟩ := hrel
      have hok := Pl.run_ok (M.take (i - 1)) (fun c hc => HM.out.1 c (List.mem_of_mem_take hc))
      rw [hst.out, List.length_take, Nat.min_eq_left (by omega)] at hok
      have o1 := hok.m
      have o2 : nm ≤ 19 := hok.nm
      have o3 : nd ≤ 1001 := by have := hok.nd; have := hM1.out; simp only at *; omega
      have o4 : -1001 ≤ dp := by have := hok.lo; have := hM1.out; simp only at *; omega
      have o5 : dp ≤ 1001 := by have := hok.up; have := hM1.out; simp only at *; omega
      have hk1 : i ≤ N := by have := HN.out; omega
      have o6 : m < 10000000000000000000 := Nat.lt_of_lt_of_le o1 (Nat.pow_le_pow_right (n := 10) (by decide) o2)
      have o7 : nm < 19 → m < 1000000000000000000 := fun h => Nat.lt_of_lt_of_le o1 (Nat.pow_le_pow_right (n := 10) (j := 18) (by decide) (by simp only; omega))
      clear hok o1
      by_cases hlt : i < 1 + M.length
      · have hk2 : i < N := by have := HN.out; omega
        have qk : i < s.size := by omega
        have hlt2 : i - 1 < M.length := by omega
        have ak : s[i]'qk = M[i - 1] := HA.out.get hlt2 qk (by omega)
        have hck := HM.out.1 M[i - 1] (List.getElem_mem _)
        have hdk := Lib.hid (HM.out.2 (i - 1) hlt2)
        have HT := Lib.hid (show Pl.run (M.take (i + 1 - 1)) = Pl.step ⟨m, nd, nm, dp, dot, dig, tr⟩ M[i - 1] by rw [show i + 1 - 1 = i - 1 + 1 by omega, List.take_succ_eq_append_getElem hlt2, Pl.run_snoc, hst.out])
        generalize M[i - 1] = c at ak hck hdk HT
        rcases hck with rfl | hck
        · obtain rfl : dot = false := by have := hdk.out rfl; rw [hst.out] at this; exact this
          clear hdk o6 o7
          go_wp2_with fail
          go_round
          case rel => exact ⟨i + 1, m, nd, nm, nd, true, dig, tr, by omega, by omega, Lib.hid (by rw [HT.out]; rfl), by go_num, rfl, rfl, rfl, rfl, rfl, rfl, rfl, rfl⟩
          case measure => simp [RowKit.intOf]; omega
        · unfold Pl.digit at hck
          obtain ⟨hc1, hc2⟩ := hck
          have d95 : ((c.toNat : Int) == 95) = false := by rw [beq_eq_false_iff_ne]; omega
          have d46 : ((c.toNat : Int) == 46) = false := by rw [beq_eq_false_iff_ne]; omega
          have HC := Lib.hid (show 48 ≤ c.toNat from hc1)
          clear hdk
          by_cases e48 : c.toNat = 48
          · have d48 : ((c.toNat : Int) == 48) = true := by rw [beq_iff_eq]; omega
            have d48n : ((c.toNat : Int) != 48) = false := by simp; omega
            by_cases end0 : nd = 0
            · have n0 : ((nd : Int) == 0) = true := by rw [beq_iff_eq]; omega
              have HS := Lib.hid (HT.out.trans (Pl.step_zero e48 end0))
              clear e48 end0 HT o6 o7
              go_wp2_with fail
              go_round
              case rel => exact ⟨i + 1, m, nd, nm, dp - 1, dot, true, tr, by omega, by omega, HS, by go_num, rfl, rfl, rfl, rfl, rfl, rfl, rfl, rfl⟩
              case measure => simp [RowKit.intOf]; omega
            · have n0 : ((nd : Int) == 0) = false := by rw [beq_eq_false_iff_ne]; omega
              by_cases h19 : nm < 19
              · have o8 := o7 h19
                have HS := Lib.hid (HT.out.trans (Pl.step_in hc1 (by omega) h19))
                clear e48 end0 HT o6 o7
                go_wp2_with fail
                go_round
                case rel => exact ⟨i + 1, m * 10 + (c.toNat - 48), nd + 1, nm + 1, dp, dot, true, tr, by omega, by omega, HS, by go_num, int_eq (by have := HC.out; omega), rfl, rfl, rfl, rfl, by go_num, by go_num, rfl⟩
                case measure => simp [RowKit.intOf]; omega
              · have HS := Lib.hid (HT.out.trans (Pl.step_out hc1 (by omega) h19))
                rw [if_pos e48] at HS
                clear e48 end0 HT o6 o7
                go_wp2_with fail
                go_round
                case rel => exact ⟨i + 1, m, nd + 1, nm, dp, dot, true, tr, by omega, by omega, HS, by go_num, rfl, rfl, rfl, rfl, rfl, by go_num, rfl, rfl⟩
                case measure => simp [RowKit.intOf]; omega
          · have d48 : ((c.toNat : Int) == 48) = false := by rw [beq_eq_false_iff_ne]; omega
            have d48n : ((c.toNat : Int) != 48) = true := by simp; omega
            by_cases h19 : nm < 19
            · have o8 := o7 h19
              have HS := Lib.hid (HT.out.trans (Pl.step_in hc1 (by omega) h19))
              clear e48 HT o6 o7
              go_wp2_with fail
              go_round
              case rel => exact ⟨i + 1, m * 10 + (c.toNat - 48), nd + 1, nm + 1, dp, dot, true, tr, by omega, by omega, HS, by go_num, int_eq (by have := HC.out; omega), rfl, rfl, rfl, rfl, by go_num, by go_num, rfl⟩
              case measure => simp [RowKit.intOf]; omega
            · have HS := Lib.hid (HT.out.trans (Pl.step_out hc1 (by omega) h19))
              rw [if_neg e48] at HS
              clear e48 HT o6 o7
              go_wp2_with fail
              go_round
              case rel => exact ⟨i + 1, m, nd + 1, nm, dp, dot, true, true, by omega, by omega, HS, by go_num, rfl, rfl, rfl, rfl, rfl, by go_num, rfl, rfl⟩
              case measure => simp [RowKit.intOf]; omega
      · obtain rfl : i = 1 + M.length := by omega
        rw [show 1 + M.length - 1 = M.length by omega, List.take_length] at hst
        obtain rfl : dig = true := by have := HG.out.1; rw [hst.out] at this; exact this
        obtain rfl : dot = true := by have := HG.out.2; rw [hst.out] at this; exact this
        rw [HN.out]
        clear o7 hlt
        by_cases hm0 : m = 0
        · have g0 : ((m : Int) != 0) = false := by simp; omega
          have HM0 := Lib.hid hm0
          clear hm0
          go_wp2_with fail
          refine bodyPost_ret (v := .tuple #[.int .u64 m, .int .i64 0, .bool true, .bool tr, .bool false, .int .i64 N, .bool true]) (by simp [results, Tryz.results193, go_sem]) rfl ⟨?_, rfl⟩
          rw [hst.out, show Pl.expOf ⟨m, nd, nm, dp, true, true, tr⟩ 0 = 0 by unfold Pl.expOf; rw [if_pos HM0.out]]
        · have g0 : ((m : Int) != 0) = true := by simp; omega
          go_wp2_with fail
          refine bodyPost_ret (v := .tuple #[.int .u64 m, .int .i64 (dp - nm), .bool true, .bool tr, .bool false, .int .i64 N, .bool true]) (by simp [results, Tryz.results193, go_sem]) rfl ⟨?_, rfl⟩
          rw [hst.out, show Pl.expOf ⟨m, nd, nm, dp, true, true, tr⟩ 0 = dp - nm by unfold Pl.expOf; rw [if_neg hm0]; simp]
end Go.Proofs.YtgdohmaljbggjaaGreatDoor
namespace Go.Proofs.YtgdohmaljbggjaaGreatDoor
open Go.RowKit Go.Lib

set_option maxHeartbeats 4000000 in
set_option maxRecDepth 100000 in
theorem read_pos_exp (s : ByteArray) (M D : List UInt8) (w : World) (hsz : Hid (s.size = 0 + M.length + 1 + D.length)) (hD : 0 < D.length) (hDl : D.length ≤ 1000) (hDd : ∀ c ∈ D, Pl.digit c) (hAD : At s (0 + M.length + 1) D) (qE : 0 + M.length < s.size) (hE : s[0 + M.length]'qE = 101) (hM : MantOk M) (h3 : 3 ≤ M.length) (hl : M.length ≤ 1000) (hat : At s 0 M) (hdig : (Pl.run M).dig = true) (hdot : (Pl.run M).dot = true)
    (hd0 : Pl.digit M[0]) :
    Calls Tryz.prog 193 #[.string s] w (rfOk (Pl.run M) (Pl.erun D : Int) false (0 + M.length + 1 + D.length) w) := by
  have hs0 : s.size = 0 + M.length + 1 + D.length := hsz.out
  obtain ⟨N, hN⟩ : ∃ N, 0 + M.length + 1 + D.length = N := ⟨_, rfl⟩
  rw [hN] at hs0 ⊢
  have hN3 : 0 + 3 ≤ N := by omega
  have hN4 : N ≤ 2002 := by omega
  have q0 : 0 < s.size := by omega
  have q1 : 0 + 1 < s.size := by omega
  have a0 : s[0]'q0 = M[0] := hat 0 (by omega) (by omega)
  have a1 : s[0 + 1]'q1 = M[1] := hat 1 (by omega) (by omega)
  have hc1 : (bits .or .u8 (M[1].toNat : Int) 32 == 120) = false := low_x (hM.1 _ (List.getElem_mem _))
  generalize M[0] = c0 at a0 hd0
  generalize M[1] = c1 at a1 hc1
  unfold Pl.digit at hd0
  have b1 : ((c0.toNat : Int) == 43) = false := by rw [beq_eq_false_iff_ne]; omega
  have b2 : ((c0.toNat : Int) == 45) = false := by rw [beq_eq_false_iff_ne]; omega
  obtain ⟨bb, b3⟩ : ∃ bb : Bool, ((c0.toNat : Int) == 48) = bb := ⟨_, rfl⟩
  have HN := Lib.hid hN
  have hM1 := Lib.hid hl
  clear hN h3 hl hsz
  have HE := Lib.hid hE
  have HAD := Lib.hid hAD
  have HD := Lib.hid hDd
  clear hE hAD hDd
  have HA := Lib.hid hat
  have HM := Lib.hid hM
  have HG := Lib.hid (show (Pl.run M).dig = true ∧ (Pl.run M).dot = true from ⟨hdig, hdot⟩)
  clear hat hM hdig hdot
  cases bb
  all_goals
    go_enter Tryz.func193, Tryz.ntmps193
    go_wp2_with fail
    go_step3
    go_wp2_with (refine (Tryz.internal_strconv_lower _ _).mono ?_; rintro e w' ⟨rfl, rfl⟩)
    go_step3
    go_wp2_with fail
    go_loop [2, 5, 7, 9, 13, 14, 15, 16, 17] (fun v2 v5 v7 v9 v13 v14 v15 v16 v17 => ∃ (i m nd nm : Nat) (dp : Int) (dot dig tr : Bool), 0 ≤ i ∧ i ≤ 0 + M.length ∧ Hid (Pl.run (M.take (i - 0)) = ⟨m, nd, nm, dp, dot, dig, tr⟩) ∧ v7 = .int .i64 i ∧ v2 = .int .u64 m ∧ v5 = .bool tr ∧ v9 = .bool false ∧ v13 = .bool dot ∧ v14 = .bool dig ∧ v15 = .int .i64 nd ∧ v16 = .int .i64 nm ∧ v17 = .int .i64 dp) (fun _ _ v7 _ _ _ _ _ _ => N - (RowKit.intOf v7).toNat)
    case atStart => exact ⟨0, 0, 0, 0, 0, false, false, false, Nat.le_refl _, by omega, Lib.hid rfl, rfl, rfl, rfl, rfl, rfl, rfl, rfl, rfl, rfl⟩
    case round =>
      obtain ⟨i, m, nd, nm, dp, dot, dig, tr, hi0, hk, hst, rfl, rfl, rfl, rfl, rfl, rfl, rfl, rfl, rfl⟩ := hrel
      have hok := Pl.run_ok (M.take (i - 0)) (fun c hc => HM.out.1 c (List.mem_of_mem_take hc))
      rw [hst.out, List.length_take, Nat.min_eq_left (by omega)] at hok
      have o1 := hok.m
      have o2 : nm ≤ 19 := hok.nm
      have o3 : nd ≤ 1001 := by have := hok.nd; have := hM1.out; simp only at *; omega
      have o4 : -1001 ≤ dp := by have := hok.lo; have := hM1.out; simp only at *; omega
      have o5 : dp ≤ 1001 := by have := hok.up; have := hM1.out; simp only at *; omega
      have hk1 : i ≤ N := by have := HN.out; omega
      have o6 : m < 10000000000000000000 := Nat.lt_of_lt_of_le o1 (Nat.pow_le_pow_right (n := 10) (by decide) o2)
      have o7 : nm < 19 → m < 1000000000000000000 := fun h => Nat.lt_of_lt_of_le o1 (Nat.pow_le_pow_right (n := 10) (j := 18) (by decide) (by simp only; omega))
      clear hok o1
      by_cases hlt : i < 0 + M.length
      · have hk2 : i < N := by have := HN.out; omega
        have qk : i < s.size := by omega
        have hlt2 : i - 0 < M.length := by omega
        have ak : s[i]'qk = M[i - 0] := HA.out.get hlt2 qk (by omega)
        have hck := HM.out.1 M[i - 0] (List.getElem_mem _)
        have hdk := Lib.hid (HM.out.2 (i - 0) hlt2)
        have HT := Lib.hid (show Pl.run (M.take (i + 1 - 0)) = Pl.step ⟨m, nd, nm, dp, dot, dig, tr⟩ M[i - 0] by rw [show i + 1 - 0 = i - 0 + 1 by omega, List.take_succ_eq_append_getElem hlt2, Pl.run_snoc, hst.out])
        generalize M[i - 0] = c at ak hck hdk HT
        rcases hck with rfl | hck
        · obtain rfl : dot = false := by have := hdk.out rfl; rw [hst.out] at this; exact this
          clear hdk o6 o7
          go_wp2_with fail
          go_round
          case rel => exact ⟨i + 1, m, nd, nm, nd, true, dig, tr, by omega, by omega, Lib.hid (by rw [HT.out]; rfl), by go_num, rfl, rfl, rfl, rfl, rfl, rfl, rfl, rfl⟩
          case measure => simp [RowKit.intOf]; omega
        · unfold Pl.digit at hck
          obtain ⟨hc1, hc2⟩ := hck
          have d95 : ((c.toNat : Int) == 95) = false := by rw [beq_eq_false_iff_ne]; omega
          have d46 : ((c.toNat : Int) == 46) = false := by rw [beq_eq_false_iff_ne]; omega
          have HC := Lib.hid (show 48 ≤ c.toNat from hc1)
          clear hdk
          by_cases e48 : c.toNat = 48
          · have d48 : ((c.toNat : Int) == 48) = true := by rw [beq_iff_eq]; omega
            have d48n : ((c.toNat : Int) != 48) = false := by simp; omega
            by_cases end0 : nd = 0
            · have n0 : ((nd : Int) == 0) = true := by rw [beq_iff_eq]; omega
              have HS := Lib.hid (HT.out.trans (Pl.step_zero e48 end0))
              clear e48 end0 HT o6 o7
              go_wp2_with fail
              go_round
              case rel => exact ⟨i + 1, m, nd, nm, dp - 1, dot, true, tr, by omega, by omega, HS, by go_num, rfl, rfl, rfl, rfl, rfl, rfl, rfl, rfl⟩
              case measure => simp [RowKit.intOf]; omega
            · have n0 : ((nd : Int) == 0) = false := by rw [beq_eq_false_iff_ne]; omega
              by_cases h19 : nm < 19
              · have o8 := o7 h19
                have HS := Lib.hid (HT.out.trans (Pl.step_in hc1 (by omega) h19))
                clear e48 end0 HT o6 o7
                go_wp2_with fail
                go_round
                case rel => exact ⟨i + 1, m * 10 + (c.toNat - 48), nd + 1, nm + 1, dp, dot, true, tr, by omega, by omega, HS, by go_num, int_eq (by have := HC.out; omega), rfl, rfl, rfl, rfl, by go_num, by go_num, rfl⟩
                case measure => simp [RowKit.intOf]; omega
              · have HS := Lib.hid (HT.out.trans (Pl.step_out hc1 (by omega) h19))
                rw [if_pos e48] at HS
                clear e48 end0 HT o6 o7
                go_wp2_with fail
                go_round
                case rel => exact ⟨i + 1, m, nd + 1, nm, dp, dot, true, tr, by omega, by omega, HS, by go_num, rfl, rfl, rfl, rfl, rfl, by go_num, rfl, rfl⟩
                case measure => simp [RowKit.intOf]; omega
          · have d48 : ((c.toNat : Int) == 48) = false := by rw [beq_eq_false_iff_ne]; omega
            have d48n : ((c.toNat : Int) != 48) = true := by simp; omega
            by_cases h19 : nm < 19
            · have o8 := o7 h19
              have HS := Lib.hid (HT.out.trans (Pl.step_in hc1 (by omega) h19))
              clear e48 HT o6 o7
              go_wp2_with fail
              go_round
              case rel => exact ⟨i + 1, m * 10 + (c.toNat - 48), nd + 1, nm + 1, dp, dot, true, tr, by omega, by omega, HS, by go_num, int_eq (by have := HC.out; omega), rfl, rfl, rfl, rfl, by go_num, by go_num, rfl⟩
              case measure => simp [RowKit.intOf]; omega
            · have HS := Lib.hid (HT.out.trans (Pl.step_out hc1 (by omega) h19))
              rw [if_neg e48] at HS
              clear e48 HT o6 o7
              go_wp2_with fail
              go_round
              case rel => exact ⟨i + 1, m, nd + 1, nm, dp, dot, true, true, by omega, by omega, HS, by go_num, rfl, rfl, rfl, rfl, rfl, by go_num, rfl, rfl⟩
              case measure => simp [RowKit.intOf]; omega
      · obtain rfl : i = 0 + M.length := by omega
        rw [show 0 + M.length - 0 = M.length by omega, List.take_length] at hst
        obtain rfl : dig = true := by have := HG.out.1; rw [hst.out] at this; exact this
        obtain rfl : dot = true := by have := HG.out.2; rw [hst.out] at this; exact this
        have hJ : 0 + M.length < N := by have := HN.out; omega
        obtain ⟨J, hJd⟩ : ∃ J, 0 + M.length = J := ⟨_, rfl⟩
        have qJ : J < s.size := by omega
        have aJ : s[J]'qJ = 101 := by subst hJd; exact HE.out
        have hJ2 : J + 1 < N := by have := HN.out; omega
        have q2 : J + 1 < s.size := by omega
        have a2 : s[J + 1]'q2 = D[0] := HAD.out.get hD q2 (by omega)
        have hd2 := HD.out D[0] (List.getElem_mem _)
        generalize D[0] = c2 at a2 hd2
        unfold Pl.digit at hd2
        have f1 : ((c2.toNat : Int) == 43) = false := by rw [beq_eq_false_iff_ne]; omega
        have f2 : ((c2.toNat : Int) == 45) = false := by rw [beq_eq_false_iff_ne]; omega
        have hlow : bits .or .u8 101 32 = 101 := by decide
        have HJ := Lib.hid (show J + 1 + D.length = N by have := HN.out; omega)
        rw [hJd]
        clear o7 hlt hk1 hk hi0
        have HJd := Lib.hid hJd
        clear hJd hJ
        go_wp2_with (refine (Tryz.internal_strconv_lower _ _).mono ?_; rintro e w' ⟨rfl, rfl⟩)
        go_loop [7, 9, 20] (fun v7 v9 v20 => ∃ i e : Nat, J + 1 ≤ i ∧ i ≤ N ∧ v7 = .int .i64 i ∧ v9 = .bool false ∧ v20 = .int .i64 e ∧ Hid (Pl.erun (D.take (i - (J + 1))) = e)) (fun v7 _ _ => N - (RowKit.intOf v7).toNat)
        case atStart => exact ⟨J + 1, 0, Nat.le_refl _, by omega, by go_num, rfl, rfl, Lib.hid (by simp [Pl.erun])⟩
        case round =>
          obtain ⟨i, e, hi1, hi2, rfl, rfl, rfl, he⟩ := hrel
          have hel := Pl.erun_le (D.take (i - (J + 1))) (fun c hc => HD.out c (List.mem_of_mem_take hc))
          rw [he.out] at hel
          by_cases hi3 : i < N
          · have qi : i < s.size := by omega
            have hi4 : i - (J + 1) < D.length := by have := HJ.out; omega
            have ai : s[i]'qi = D[i - (J + 1)] := HAD.out.get hi4 qi (by have := HJd.out; omega)
            have hci := HD.out D[i - (J + 1)] (List.getElem_mem _)
            have HT := Lib.hid (show Pl.erun (D.take (i + 1 - (J + 1))) = Pl.estep e D[i - (J + 1)] by rw [show i + 1 - (J + 1) = i - (J + 1) + 1 by omega, List.take_succ_eq_append_getElem hi4, Pl.erun_snoc, he.out])
            generalize D[i - (J + 1)] = c at ai hci HT
            unfold Pl.digit at hci
            have g95 : ((c.toNat : Int) == 95) = false := by rw [beq_eq_false_iff_ne]; omega
            obtain ⟨hci1, hci2⟩ := hci
            have HC := Lib.hid hci1
            by_cases e4 : e < 10000
            · go_wp2_with fail
              go_round
              case rel => exact ⟨i + 1, e * 10 + (c.toNat - 48), by omega, by omega, by go_num, rfl, int_eq (by have := HC.out; omega), Lib.hid (by rw [HT.out]; unfold Pl.estep; rw [if_pos e4])⟩
              case measure => simp [RowKit.intOf]; omega
            · go_wp2_with fail
              go_round
              case rel => exact ⟨i + 1, e, by omega, by omega, by go_num, rfl, rfl, Lib.hid (by rw [HT.out]; unfold Pl.estep; rw [if_neg e4])⟩
              case measure => simp [RowKit.intOf]; omega
          · obtain rfl : N = i := by omega
            have HE2 := Lib.hid (show Pl.erun D = e by rw [← he.out, List.take_of_length_le (by have := HJ.out; omega)])
            clear hi3
            by_cases hm0 : m = 0
            · have g0 : ((m : Int) != 0) = false := by simp; omega
              have HM0 := Lib.hid hm0
              clear hm0
              go_wp2_with fail
              refine bodyPost_ret (v := .tuple #[.int .u64 m, .int .i64 0, .bool false, .bool tr, .bool false, .int .i64 N, .bool true]) (by simp [results, Tryz.results193, go_sem]) rfl ⟨?_, rfl⟩
              rw [hst.out, HE2.out, show Pl.expOf ⟨m, nd, nm, dp, true, true, tr⟩ (e : Int) = 0 by unfold Pl.expOf; rw [if_pos HM0.out]]
            · have g0 : ((m : Int) != 0) = true := by simp; omega
              go_wp2_with fail
              refine bodyPost_ret (v := .tuple #[.int .u64 m, .int .i64 ((dp + e) - nm), .bool false, .bool tr, .bool false, .int .i64 N, .bool true]) (by simp [results, Tryz.results193, go_sem]) rfl ⟨?_, rfl⟩
              rw [hst.out, HE2.out, show Pl.expOf ⟨m, nd, nm, dp, true, true, tr⟩ (e : Int) = (dp + e) - nm by unfold Pl.expOf; rw [if_neg hm0]]
end Go.Proofs.YtgdohmaljbggjaaGreatDoor
namespace Go.Proofs.YtgdohmaljbggjaaGreatDoor
open Go.RowKit Go.Lib
theorem show_one : Pl.showN 4607182418800017408 = [49, 46, 48] := by
  have h : Pl.decOf 4607182418800017408 = (1000000000000000, -15) := by decide +kernel
  simp [Pl.showN, Pl.digs, Pl.dpt, h, Pl.sig, decDigits, nDigits, Pl.trimZ, Pl.written, Pl.pointed]
theorem show_tiny : Pl.showN 1 = [53, 46, 48, 101, 45, 51, 50, 52] := by
  have h : Pl.decOf 1 = (5, -324) := by decide +kernel
  simp [Pl.showN, Pl.digs, Pl.dpt, h, Pl.sig, decDigits, nDigits, Pl.trimZ, Pl.written, Pl.pointed, Lib.itoa]
theorem show_most : Pl.showN 9218868437227405311 = [49, 46, 55, 57, 55, 54, 57, 51, 49, 51, 52, 56, 54, 50, 51, 49, 53, 55, 101, 51, 48, 56] := by
  have h : Pl.decOf 9218868437227405311 = (17976931348623157, 292) := by decide +kernel
  simp [Pl.showN, Pl.digs, Pl.dpt, h, Pl.sig, decDigits, nDigits, Pl.trimZ, Pl.written, Pl.pointed, Lib.itoa]
theorem show_sum : Pl.showN 4599075939470750516 = [48, 46, 51, 48, 48, 48, 48, 48, 48, 48, 48, 48, 48, 48, 48, 48, 48, 48, 52] := by
  have h : Pl.decOf 4599075939470750516 = (30000000000000004, -17) := by decide +kernel
  simp [Pl.showN, Pl.digs, Pl.dpt, h, Pl.sig, decDigits, nDigits, Pl.trimZ, Pl.written, Lib.repeatL]
theorem show_half : Pl.showN 13826050856027422720 = [45, 48, 46, 53] := by
  have h : Pl.decOf 13826050856027422720 = (5000000000000000, -16) := by decide +kernel
  simp [Pl.showN, Pl.digs, Pl.dpt, h, Pl.sig, decDigits, nDigits, Pl.trimZ, Pl.written, Lib.repeatL]
theorem show_two : Pl.showN 2 = [49, 46, 48, 101, 45, 51, 50, 51] := by
  have h : Pl.decOf 2 = (1, -323) := by decide +kernel
  simp [Pl.showN, Pl.digs, Pl.dpt, h, Pl.sig, decDigits, nDigits, Pl.trimZ, Pl.written, Pl.pointed, Lib.itoa]
theorem reads_pos (M : List UInt8) (hM : MantOk M) (h3 : 3 ≤ M.length) (hl : M.length ≤ 1000) (hdig : (Pl.run M).dig = true) (hdot : (Pl.run M).dot = true) (hd0 : Pl.digit M[0]) :
    ReadsAs (bs M) (Pl.run M).m (Pl.expOf (Pl.run M) 0) false (Pl.run M).tr M.length := by
  intro w
  have h := read_pos_none (bs M) M w (Lib.hid (by rw [bs_size]; omega)) hM h3 hl (at_bs M) hdig hdot hd0
  rw [Nat.zero_add] at h
  exact h
theorem at_cons (c : UInt8) (M : List UInt8) : At (bs (c :: M)) 1 M := fun k h h2 => by
  have := at_bs (c :: M) (k + 1) (by simp; omega) (by rw [bs_size]; simp; omega)
  simp only [Nat.zero_add] at this
  have e : 1 + k = k + 1 := by omega
  simp only [e]
  rw [this]; rfl
theorem reads_neg (M : List UInt8) (hM : MantOk M) (h3 : 3 ≤ M.length) (hl : M.length ≤ 1000) (hdig : (Pl.run M).dig = true) (hdot : (Pl.run M).dot = true) (hd0 : Pl.digit M[0]) :
    ReadsAs (bs (45 :: M)) (Pl.run M).m (Pl.expOf (Pl.run M) 0) true (Pl.run M).tr (1 + M.length) := by
  intro w
  exact read_neg_none (bs (45 :: M)) M w (Lib.hid (by rw [bs_size]; simp; omega)) hM h3 hl (at_cons 45 M) hdig hdot hd0 (by rw [bs_size]; simp) rfl
theorem special_bs (M : List UInt8) (h : 0 < M.length) (hl : M.length ≤ 1000) (hd : 48 ≤ M[0].toNat ∧ M[0].toNat ≤ 57) : IsSpecial (bs M) := fun w => special_pos (bs M) w (by rw [bs_size]; exact h) (by rw [bs_size]; omega) hd
theorem special_minus (M : List UInt8) (h : 0 < M.length) (hl : M.length ≤ 1000) (hd : 48 ≤ M[0].toNat ∧ M[0].toNat ≤ 57) : IsSpecial (bs (45 :: M)) := fun w => special_neg (bs (45 :: M)) w (by rw [bs_size]; simp) (by rw [bs_size]; simp; exact h) (by rw [bs_size]; simp; omega) rfl hd
theorem mant3 {a b : UInt8} (ha : Pl.digit a) (hb : Pl.digit b) (h46 : (Pl.run [a]).dot = false) : MantOk [a, 46, b] := by
  refine ⟨by intro c hc; simp at hc; rcases hc with rfl | rfl | rfl; exact .inr ha; exact .inl rfl; exact .inr hb, ?_⟩
  intro k h hk
  match k, h with
  | 0, _ => rfl
  | 1, _ => exact h46
  | 2, _ => simp at hk; subst hk; unfold Pl.digit at hb; exact absurd hb (by decide)
/-- A short text of digits with a point, read. -/
theorem read_pos (M : List UInt8) (m k p r : Nat) (w : World) (he : Env w) (hM : MantOk M) (h3 : 3 ≤ M.length) (hl : M.length ≤ 1000) (e1 : (Pl.run M).m = m) (e2 : (Pl.run M).tr = false) (e3 : (Pl.run M).dig = true) (e4 : (Pl.run M).dot = true) (hd0 : 48 ≤ M[0].toNat ∧ M[0].toNat ≤ 57)
    (hf : Pl.formed M = true) (hk : Pl.expOf (Pl.run M) 0 = -(k : Int)) (hm : m < 4503599627370496) (hm0 : 0 < m) (hk2 : k ≤ 22) (hk0 : 0 < k) (hp : Pl.f10[k]? = some p) (hd : Fl.D.div (floatOfInt .f64 (m : Int)) p = some r) :
    Calls Tryz.prog 13 #[.string (bs M)] w fun e w' => e = .returned (.tuple #[.int .u64 (Fl.told r), .int .i64 0]) ∧ Below w.heap.size w w' := by
  have hr := reads_pos M hM h3 hl e3 e4 hd0
  rw [hk] at hr
  rw [e1, e2] at hr
  exact read_ok M w hl hf he r (fun w he => atof_div (bs M) M.length m k p r _ false w (special_bs M (by omega) hl hd0) hr hm hm0 hk2 hk0 he hp (if_neg Bool.false_ne_true) hd)
theorem read_neg (M : List UInt8) (m k p r : Nat) (w : World) (he : Env w) (hM : MantOk M) (h3 : 3 ≤ M.length) (hl : M.length ≤ 900) (e1 : (Pl.run M).m = m) (e2 : (Pl.run M).tr = false) (e3 : (Pl.run M).dig = true) (e4 : (Pl.run M).dot = true) (hd0 : 48 ≤ M[0].toNat ∧ M[0].toNat ≤ 57)
    (hf : Pl.formed (45 :: M) = true) (hk : Pl.expOf (Pl.run M) 0 = -(k : Int)) (hm : m < 4503599627370496) (hm0 : 0 < m) (hk2 : k ≤ 22) (hk0 : 0 < k) (hp : Pl.f10[k]? = some p) (hd : Fl.D.div (floatOfInt .f64 (m : Int) ^^^ 9223372036854775808) p = some r) :
    Calls Tryz.prog 13 #[.string (bs (45 :: M))] w fun e w' => e = .returned (.tuple #[.int .u64 (Fl.told r), .int .i64 0]) ∧ Below w.heap.size w w' := by
  have hr := reads_neg M hM h3 (by omega) e3 e4 hd0
  rw [hk] at hr
  rw [e1, e2] at hr
  exact read_ok (45 :: M) w (by simp; omega) hf he r (fun w he => by
    have := atof_div (bs (45 :: M)) (1 + M.length) m k p r _ true w (special_minus M (by omega) (by omega) hd0) hr hm hm0 hk2 hk0 he hp (if_pos rfl) hd
    rw [Nat.add_comm] at this
    exact this)
theorem read_tenth (w : World) (he : Env w) : Calls Tryz.prog 13 #[.string (bs [48, 46, 49])] w fun e w' => e = .returned (.tuple #[.int .u64 4591870180066957722, .int .i64 0]) ∧ Below w.heap.size w w' :=
  read_pos [48, 46, 49] 1 1 4621819117588971520 4591870180066957722 w he (mant3 (by unfold Pl.digit; decide) (by unfold Pl.digit; decide) rfl) (by decide) (by decide) (by decide) (by decide) (by decide) (by decide) (by decide) (by decide +kernel) (by decide) (by decide) (by decide) (by decide) (by decide) rfl (by decide +kernel)
theorem read_fifth (w : World) (he : Env w) : Calls Tryz.prog 13 #[.string (bs [48, 46, 50])] w fun e w' => e = .returned (.tuple #[.int .u64 4596373779694328218, .int .i64 0]) ∧ Below w.heap.size w w' :=
  read_pos [48, 46, 50] 2 1 4621819117588971520 4596373779694328218 w he (mant3 (by unfold Pl.digit; decide) (by unfold Pl.digit; decide) rfl) (by decide) (by decide) (by decide) (by decide) (by decide) (by decide) (by decide) (by decide +kernel) (by decide) (by decide) (by decide) (by decide) (by decide) rfl (by decide +kernel)
theorem read_minus (w : World) (he : Env w) : Calls Tryz.prog 13 #[.string (bs [45, 50, 46, 53])] w fun e w' => e = .returned (.tuple #[.int .u64 13836183955189006336, .int .i64 0]) ∧ Below w.heap.size w w' :=
  read_neg [50, 46, 53] 25 1 4621819117588971520 13836183955189006336 w he (mant3 (by unfold Pl.digit; decide) (by unfold Pl.digit; decide) rfl) (by decide) (by decide) (by decide) (by decide) (by decide) (by decide) (by decide) (by decide +kernel) (by decide) (by decide) (by decide) (by decide) (by decide) rfl (by decide +kernel)
theorem read_three (w : World) (he : Env w) : Calls Tryz.prog 13 #[.string (bs [51, 46, 48])] w fun e w' => e = .returned (.tuple #[.int .u64 4613937818241073152, .int .i64 0]) ∧ Below w.heap.size w w' :=
  read_pos [51, 46, 48] 30 1 4621819117588971520 4613937818241073152 w he (mant3 (by unfold Pl.digit; decide) (by unfold Pl.digit; decide) rfl) (by decide) (by decide) (by decide) (by decide) (by decide) (by decide) (by decide) (by decide +kernel) (by decide) (by decide) (by decide) (by decide) (by decide) rfl (by decide +kernel)
theorem mant4 {a b c : UInt8} (ha : Pl.digit a) (hb : Pl.digit b) (hc : Pl.digit c) (h46 : (Pl.run [a]).dot = false) : MantOk [a, 46, b, c] := by
  refine ⟨by intro c hc; simp at hc; rcases hc with rfl | rfl | rfl | rfl; exact .inr ha; exact .inl rfl; exact .inr hb; exact .inr ‹_›, ?_⟩
  intro k h hk
  match k, h with
  | 0, _ => rfl
  | 1, _ => exact h46
  | 2, _ => simp at hk; subst hk; unfold Pl.digit at hb; exact absurd hb (by decide)
  | 3, _ => simp at hk; subst hk; unfold Pl.digit at hc; exact absurd hc (by decide)
theorem read_most (w : World) (he : Env w) : Calls Tryz.prog 13 #[.string (bs [48, 46, 55, 53])] w fun e w' => e = .returned (.tuple #[.int .u64 4604930618986332160, .int .i64 0]) ∧ Below w.heap.size w w' :=
  read_pos [48, 46, 55, 53] 75 2 4636737291354636288 4604930618986332160 w he (mant4 (by unfold Pl.digit; decide) (by unfold Pl.digit; decide) (by unfold Pl.digit; decide) rfl) (by decide) (by decide) (by decide) (by decide) (by decide) (by decide) (by decide) (by decide +kernel) (by decide) (by decide) (by decide) (by decide) (by decide) rfl (by decide +kernel)
end Go.Proofs.YtgdohmaljbggjaaGreatDoor
namespace Go.Proofs.YtgdohmaljbggjaaGreatDoor
open Go.RowKit Go.Lib
theorem read_none (w : World) : Calls Tryz.prog 13 #[.string (bs [49, 101, 53])] w fun e w' => e = .returned (.tuple #[.int .u64 0, .int .i64 100]) ∧ Below w.heap.size w w' :=
  read_no [49, 101, 53] w (by decide) (by decide +kernel)
theorem read_beyond (w : World) (he : Env w) : Calls Tryz.prog 13 #[.string (bs [49, 46, 48, 101, 52, 48, 48])] w fun e w' => e = .returned (.tuple #[.int .u64 0, .int .i64 101]) ∧ Below w.heap.size w w' := by
  refine read_far [49, 46, 48, 101, 52, 48, 48] w (by decide) (by decide +kernel) he 9218868437227405312 ?_
  intro w he
  have hr : ReadsAs (bs [49, 46, 48, 101, 52, 48, 48]) 10 399 false false 7 := by
    intro w
    exact read_pos_exp (bs [49, 46, 48, 101, 52, 48, 48]) [49, 46, 48] [52, 48, 48] w (Lib.hid rfl) (by decide) (by decide) (by intro c hc; simp at hc; rcases hc with rfl | rfl | rfl <;> (unfold Pl.digit; decide)) (by intro k h h2; match k, h with | 0, _ => rfl | 1, _ => rfl | 2, _ => rfl) (by decide) rfl (mant3 (by unfold Pl.digit; decide) (by unfold Pl.digit; decide) rfl) (by decide) (by decide) (by intro k h h2; match k, h with | 0, _ => rfl | 1, _ => rfl | 2, _ => rfl) (by decide) (by decide) (by unfold Pl.digit; decide)
  exact atof_far (bs [49, 46, 48, 101, 52, 48, 48]) 7 10 399 false w (special_bs _ (by decide) (by decide) (by decide)) hr (by decide) he (by decide)
theorem frexp_two : FrexpIs 13835058055282163712 13826050856027422720 2 := by
  refine frexp_wrap _ _ _ (fun w => ?_)
  exact frexp_core 13835058055282163712 13835058055282163712 4503599627370496 1023 true 0 w (by decide) (by decide) (by decide) (fun w => norm_big 13835058055282163712 (by decide) (by decide) (by decide) w) (by decide +kernel) (by decide) (by decide) (by decide) (by decide)
theorem truncate_minus (w : World) : Calls Tryz.prog 27 #[.int .u64 13836183955189006336] w fun en w' => en = .returned (.tuple #[lof (-2), .int .i64 0]) ∧ Below w.heap.size w w' :=
  truncate_num 13836183955189006336 13835058055282163712 13826050856027422720 14064741636278059008 2 (-4503599627370496) (-2) w (by decide) (by decide) (by decide +kernel) frexp_two (by decide) (by decide +kernel) (by decide +kernel) (by decide) (by decide) (fun _ => ⟨by decide +kernel, by decide⟩) (by decide)
theorem fraction_minus (w : World) : Calls Tryz.prog 29 #[.int .u64 13836183955189006336] w fun e w' => e = .returned (.int .u64 13826050856027422720) ∧ w = w' := by
  have h := fraction_num 13836183955189006336 13826050856027422720 w (by decide) (by decide) (by decide +kernel)
  have e : (if Fl.D.order 13826050856027422720 0 = some .eq then 0 else Fl.told 13826050856027422720 : Nat) = 13826050856027422720 := by decide +kernel
  rw [e] at h
  exact h
theorem scale_down (w : World) : Calls Tryz.prog 17 #[.int .u64 4613937818241073152, .int .i64 (-1075)] w fun e w' => e = .returned (.int .u64 2) ∧ w = w' := by
  have h := scale_any 4613937818241073152 (-1075) w (by decide)
  have e : Fl.fscale 4613937818241073152 (-1075) = 2 := by decide +kernel
  rw [e] at h
  exact h
theorem exponent_most (w : World) : Calls Tryz.prog 16 #[.int .u64 4604930618986332160] w fun e w' => e = .returned (.tuple #[.int .i64 (-1), .int .i64 0]) ∧ w = w' := by
  have h := exponent_any 4604930618986332160 w (by decide)
  have e : Fl.fexp 4604930618986332160 = some (-1) := by decide +kernel
  unfold expv at h
  rw [e] at h
  exact h
theorem add_tenths (w : World) : Calls Tryz.prog 18 #[.int .u64 4591870180066957722, .int .u64 4596373779694328218] w fun e w' => e = .returned (.int .u64 4599075939470750516) ∧ Below w.heap.size w w' := by
  have h := add_any 4591870180066957722 4596373779694328218 w
  have e : Fl.fadd 4591870180066957722 4596373779694328218 = 4599075939470750516 := by decide +kernel
  rw [e] at h
  exact h
end Go.Proofs.YtgdohmaljbggjaaGreatDoor
namespace Go.Proofs.YtgdohmaljbggjaaGreatDoor
open Go.RowKit Go.Lib
theorem run_large_eq (a b : Bool) (s t : ByteArray) (w : World) : (binOp .eql 42 (.agg #[.bool a, .string s]) (.agg #[.bool b, .string t])).run Tryz.prog w = .ok (.bool (a == b && s.toList == t.toList)) w := by
  have u1 := Tryz.underlying4
  have a1 := Tryz.isAgg4
  have z1 := Tryz.sizeOf4
  have u2 := Tryz.underlying9
  have a2 := Tryz.isAgg9
  have z2 := Tryz.sizeOf9
  have hS : Tryz.prog.underlying 42 = some (.struct (Tryz.prog.fieldsOf 42)) := by kernel_rfl
  have hp : Tryz.prog.stoodInHeld 42 = false := by kernel_rfl
  rw [run_eql_struct, show (10000 : Nat) = 9999 + 1 from rfl, run_equalIn_agg w 9999 42 _ _ hS hp]
  simp only [Program.fieldsOf, Tryz.underlying42]
  go_simp
  by_cases h1 : a = b <;> by_cases h2 : s.toList = t.toList <;> simp [h1, h2]
theorem guard_large : Tryz.prog.eqGuardType Tryz.prog.depth 42 = false := by kernel_rfl
theorem shows_one (w : World) (he : Env w) : Calls Tryz.prog 14 #[.int .u64 4607182418800017408] w fun e w' => e = .returned (.string ⟨#[49, 46, 48]⟩) ∧ Below w.heap.size w w' := by
  have h := show_any 4607182418800017408 w (by decide) (by decide) (by decide) he
  rw [show_one] at h
  exact h
theorem shows_tiny (w : World) (he : Env w) : Calls Tryz.prog 14 #[.int .u64 1] w fun e w' => e = .returned (.string ⟨#[53, 46, 48, 101, 45, 51, 50, 52]⟩) ∧ Below w.heap.size w w' := by
  have h := show_any 1 w (by decide) (by decide) (by decide) he
  rw [show_tiny] at h
  exact h
theorem shows_most (w : World) (he : Env w) : Calls Tryz.prog 14 #[.int .u64 9218868437227405311] w fun e w' => e = .returned (.string ⟨#[49, 46, 55, 57, 55, 54, 57, 51, 49, 51, 52, 56, 54, 50, 51, 49, 53, 55, 101, 51, 48, 56]⟩) ∧ Below w.heap.size w w' := by
  have h := show_any 9218868437227405311 w (by decide) (by decide) (by decide) he
  rw [show_most] at h
  exact h
theorem shows_sum (w : World) (he : Env w) : Calls Tryz.prog 14 #[.int .u64 4599075939470750516] w fun e w' => e = .returned (.string ⟨#[48, 46, 51, 48, 48, 48, 48, 48, 48, 48, 48, 48, 48, 48, 48, 48, 48, 48, 52]⟩) ∧ Below w.heap.size w w' := by
  have h := show_any 4599075939470750516 w (by decide) (by decide) (by decide) he
  rw [show_sum] at h
  exact h
theorem shows_half (w : World) (he : Env w) : Calls Tryz.prog 14 #[.int .u64 13826050856027422720] w fun e w' => e = .returned (.string ⟨#[45, 48, 46, 53]⟩) ∧ Below w.heap.size w w' := by
  have h := show_any 13826050856027422720 w (by decide) (by decide) (by decide) he
  rw [show_half] at h
  exact h
theorem shows_two (w : World) (he : Env w) : Calls Tryz.prog 14 #[.int .u64 2] w fun e w' => e = .returned (.string ⟨#[49, 46, 48, 101, 45, 51, 50, 51]⟩) ∧ Below w.heap.size w w' := by
  have h := show_any 2 w (by decide) (by decide) (by decide) he
  rw [show_two] at h
  exact h
set_option maxHeartbeats 4000000 in
theorem works_any (w : World) (he : Env w) : Calls Tryz.prog 11 #[] w fun e w' => e = .returned (.bool true) ∧ Below w.heap.size w w' := by
  obtain ⟨N, hN⟩ : ∃ N, w.heap.size = N := ⟨_, rfl⟩
  have HB0 : Hid (Below N w w) := Lib.hid (Below.refl _ _)
  have HE0 := Lib.hid he
  have HN0 := Lib.hid (Nat.le_of_eq hN.symm)
  rw [hN]
  clear hN he
  go_enter Tryz.func11, Tryz.ntmps11
  go_wp2_with fail
  refine (shows_one _ HE0.out).mono ?_
  rintro e w1 ⟨rfl, hb⟩
  have HE1 := Lib.hid (HE0.out.below hb)
  have HB1 := Lib.hid (HB0.out.trans (hb.mono HN0.out))
  have HN1 := Lib.hid (Nat.le_trans HN0.out hb.size)
  clear hb HE0 HB0 HN0
  go_wp2_with fail
  refine (shows_tiny _ HE1.out).mono ?_
  rintro e w2 ⟨rfl, hb⟩
  have HE2 := Lib.hid (HE1.out.below hb)
  have HB2 := Lib.hid (HB1.out.trans (hb.mono HN1.out))
  have HN2 := Lib.hid (Nat.le_trans HN1.out hb.size)
  clear hb HE1 HB1 HN1
  go_wp2_with fail
  refine (shows_most _ HE2.out).mono ?_
  rintro e w3 ⟨rfl, hb⟩
  have HE3 := Lib.hid (HE2.out.below hb)
  have HB3 := Lib.hid (HB2.out.trans (hb.mono HN2.out))
  have HN3 := Lib.hid (Nat.le_trans HN2.out hb.size)
  clear hb HE2 HB2 HN2
  go_wp2_with fail
  refine (read_tenth _ HE3.out).mono ?_
  rintro e w4 ⟨rfl, hb⟩
  have HE4 := Lib.hid (HE3.out.below hb)
  have HB4 := Lib.hid (HB3.out.trans (hb.mono HN3.out))
  have HN4 := Lib.hid (Nat.le_trans HN3.out hb.size)
  clear hb HE3 HB3 HN3
  go_wp2_with fail
  refine (read_fifth _ HE4.out).mono ?_
  rintro e w5 ⟨rfl, hb⟩
  have HE5 := Lib.hid (HE4.out.below hb)
  have HB5 := Lib.hid (HB4.out.trans (hb.mono HN4.out))
  have HN5 := Lib.hid (Nat.le_trans HN4.out hb.size)
  clear hb HE4 HB4 HN4
  go_wp2_with fail
  refine (add_tenths _).mono ?_
  rintro e w6 ⟨rfl, hb⟩
  have HE6 := Lib.hid (HE5.out.below hb)
  have HB6 := Lib.hid (HB5.out.trans (hb.mono HN5.out))
  have HN6 := Lib.hid (Nat.le_trans HN5.out hb.size)
  clear hb HE5 HB5 HN5
  go_wp2_with fail
  refine (shows_sum _ HE6.out).mono ?_
  rintro e w7 ⟨rfl, hb⟩
  have HE7 := Lib.hid (HE6.out.below hb)
  have HB7 := Lib.hid (HB6.out.trans (hb.mono HN6.out))
  have HN7 := Lib.hid (Nat.le_trans HN6.out hb.size)
  clear hb HE6 HB6 HN6
  go_wp2_with fail
  refine (read_none _).mono ?_
  rintro e w8 ⟨rfl, hb⟩
  have HE8 := Lib.hid (HE7.out.below hb)
  have HB8 := Lib.hid (HB7.out.trans (hb.mono HN7.out))
  have HN8 := Lib.hid (Nat.le_trans HN7.out hb.size)
  clear hb HE7 HB7 HN7
  go_wp2_with fail
  refine (read_beyond _ HE8.out).mono ?_
  rintro e w9 ⟨rfl, hb⟩
  have HE9 := Lib.hid (HE8.out.below hb)
  have HB9 := Lib.hid (HB8.out.trans (hb.mono HN8.out))
  have HN9 := Lib.hid (Nat.le_trans HN8.out hb.size)
  clear hb HE8 HB8 HN8
  go_wp2_with fail
  refine (read_minus _ HE9.out).mono ?_
  rintro e w10 ⟨rfl, hb⟩
  have HE10 := Lib.hid (HE9.out.below hb)
  have HB10 := Lib.hid (HB9.out.trans (hb.mono HN9.out))
  have HN10 := Lib.hid (Nat.le_trans HN9.out hb.size)
  clear hb HE9 HB9 HN9
  go_wp2_with fail
  refine (truncate_minus _).mono ?_
  rintro e w11 ⟨rfl, hb⟩
  have HE11 := Lib.hid (HE10.out.below hb)
  have HB11 := Lib.hid (HB10.out.trans (hb.mono HN10.out))
  have HN11 := Lib.hid (Nat.le_trans HN10.out hb.size)
  clear hb HE10 HB10 HN10
  have HL := Lib.hid (show lof (-2) = .agg #[.bool (decide ((-2 : Int) < 0)), .string (bs (Pl.dgs ((-2 : Int).natAbs)))] from rfl)
  rw [HL.out]
  generalize decide ((-2 : Int) < 0) = g at HL ⊢
  generalize bs (Pl.dgs ((-2 : Int).natAbs)) = S at HL ⊢
  go_wp2_with fail
  obtain ⟨C, hC⟩ : ∃ C, w11.heap.size = C := ⟨_, rfl⟩
  have hb : Below w11.heap.size w11 (w11.alloc (.cells #[.bool g, .string S] 42)) := (Below.refl _ _).alloc (Nat.le_refl _) _
  have hh : (w11.alloc (.cells #[.bool g, .string S] 42)).heap[w11.heap.size]? = some (.cells #[.bool g, .string S] 42) := heap_alloc_at _ _
  rw [hC] at hh ⊢
  generalize w11.alloc (.cells #[.bool g, .string S] 42) = w12 at hb hh ⊢
  have HE12 := Lib.hid (HE11.out.below hb)
  have HB12 := Lib.hid (HB11.out.trans (hb.mono HN11.out))
  have HN12 := Lib.hid (Nat.le_trans HN11.out hb.size)
  have HC12 := Lib.hid hh
  clear hb hh hC HE11 HB11 HN11
  refine (fraction_minus _).mono ?_
  rintro e w' ⟨rfl, rfl⟩
  go_wp2_with fail
  refine (shows_half _ HE12.out).mono ?_
  rintro e w13 ⟨rfl, hb⟩
  have HE13 := Lib.hid (HE12.out.below hb)
  have HB13 := Lib.hid (HB12.out.trans (hb.mono HN12.out))
  have HN13 := Lib.hid (Nat.le_trans HN12.out hb.size)
  have HC13 := Lib.hid (show w13.heap[C]? = some (.cells #[.bool g, .string S] 42) by rw [hb.block _ (Array.getElem?_eq_some_iff.1 HC12.out).1]; exact HC12.out)
  clear hb HE12 HB12 HN12 HC12
  go_wp2_with fail
  refine (read_three _ HE13.out).mono ?_
  rintro e w14 ⟨rfl, hb⟩
  have HE14 := Lib.hid (HE13.out.below hb)
  have HB14 := Lib.hid (HB13.out.trans (hb.mono HN13.out))
  have HN14 := Lib.hid (Nat.le_trans HN13.out hb.size)
  have HC14 := Lib.hid (show w14.heap[C]? = some (.cells #[.bool g, .string S] 42) by rw [hb.block _ (Array.getElem?_eq_some_iff.1 HC13.out).1]; exact HC13.out)
  clear hb HE13 HB13 HN13 HC13
  go_wp2_with fail
  refine (scale_down _).mono ?_
  rintro e w' ⟨rfl, rfl⟩
  go_wp2_with fail
  refine (shows_two _ HE14.out).mono ?_
  rintro e w15 ⟨rfl, hb⟩
  have HE15 := Lib.hid (HE14.out.below hb)
  have HB15 := Lib.hid (HB14.out.trans (hb.mono HN14.out))
  have HN15 := Lib.hid (Nat.le_trans HN14.out hb.size)
  have HC15 := Lib.hid (show w15.heap[C]? = some (.cells #[.bool g, .string S] 42) by rw [hb.block _ (Array.getElem?_eq_some_iff.1 HC14.out).1]; exact HC14.out)
  clear hb HE14 HB14 HN14 HC14
  go_wp2_with fail
  refine (read_most _ HE15.out).mono ?_
  rintro e w16 ⟨rfl, hb⟩
  have HE16 := Lib.hid (HE15.out.below hb)
  have HB16 := Lib.hid (HB15.out.trans (hb.mono HN15.out))
  have HN16 := Lib.hid (Nat.le_trans HN15.out hb.size)
  have HC16 := Lib.hid (show w16.heap[C]? = some (.cells #[.bool g, .string S] 42) by rw [hb.block _ (Array.getElem?_eq_some_iff.1 HC15.out).1]; exact HC15.out)
  clear hb HE15 HB15 HN15 HC15
  go_wp2_with fail
  refine (exponent_most _).mono ?_
  rintro e w' ⟨rfl, rfl⟩
  have hc := HC16.out
  have hCs : C < w16.heap.size := (Array.getElem?_eq_some_iff.1 hc).1
  have c0 : w16.cell? ⟨C, 0, none⟩ = some (.bool g) := by simp [World.cell?, hc]
  have c1 : w16.cell? ⟨C, 1, none⟩ = some (.string S) := by simp [World.cell?, hc]
  clear hc
  have hg := guard_large
  have heq : ∀ w, (binOp .eql 42 (.agg #[.bool g, .string S]) (.agg #[.bool g, .string S])).run Tryz.prog w = .ok (.bool true) w := fun w => by rw [run_large_eq]; simp
  have HO : Hid (∀ w, Calls Tryz.prog 33 #[.int .i64 (-2)] w fun e w' => e = .returned (.agg #[.bool g, .string S]) ∧ Below w.heap.size w w') := Lib.hid (fun w => by
    have h := ofn_any (-2) w (by decide) (by decide)
    rw [ofv_is (by decide) (by decide), HL.out] at h
    exact h)
  go_wp2_with fail
  have HFC := Lib.hid (fun (W : World) (hb : Below w16.heap.size w16 W) => show W.cell? ⟨C, 0, none⟩ = some (.bool g) ∧ W.cell? ⟨C, 1, none⟩ = some (.string S) from ⟨by rw [hb.cell (p := ⟨C, 0, none⟩) hCs]; exact c0, by rw [hb.cell (p := ⟨C, 1, none⟩) hCs]; exact c1⟩)
  go_region_held3 (fun W => W.cell? ⟨C, 0, none⟩ = some (.bool g) ∧ W.cell? ⟨C, 1, none⟩ = some (.string S)) (first | exact ⟨c0, c1⟩ | (refine ⟨?_, ?_⟩ <;> assumption)) (first | (go_at_call 33; refine (HO.out _).mono ?_; rintro e w17 ⟨rfl, hbd⟩; have hb : Below w16.heap.size w16 w17 := (Below.refl _ w16).drew.trans hbd; clear hbd; obtain ⟨d0, d1⟩ := HFC.out w17 hb))
  have HW := Lib.hid (HB16.out.trans (hb.mono HN16.out))
  clear hb
  go_wp2_with fail
  go_ret
  exact ⟨rfl, HW.out⟩
end Go.Proofs.YtgdohmaljbggjaaGreatDoor
