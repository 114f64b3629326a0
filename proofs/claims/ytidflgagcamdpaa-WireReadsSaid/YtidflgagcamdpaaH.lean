/- The document's Next. -/
import Derived.Test.YtidflgagcamdpaaG
namespace Go.Proofs.Ytidflgagcamdpaa
open Go.RowKit Go.Lib
theorem fin_none {b : ByteArray} {at_ : Int} {n : Nat} {w : World} (hf : nextOf b.data.toList at_ = ([], [], at_, n)) : NextOk b at_ w (.returned (.tuple #[.string ⟨#[]⟩, .string ⟨#[]⟩, .int .i64 at_, .int .i64 (n : Nat)])) w :=
  ⟨by rw [hf]; rfl, Below.refl _ _⟩
set_option maxHeartbeats 1000000 in
theorem rnext_any (b : ByteArray) (at_ : Int) (w : World) (hb : b.size ≤ 1099511627776) (h0 : -9223372036854775808 ≤ at_) (h1 : at_ ≤ 9223372036854775807) :
    Calls Try.prog 20 #[.string b, .int .i64 at_] w (NextOk b at_ w) := by
  have lb : b.data.toList.length = b.size := by simp
  by_cases c1 : at_ < 0
  · have HF := Lib.hid (show nextOf b.data.toList at_ = ([], [], at_, 1) from by unfold nextOf; rw [if_pos (.inl c1)])
    clear lb
    go_enter Try.func20, Try.ntmps20
    go_wp2_with fail
    exact bodyPost_ret (v := .tuple #[.string ⟨#[]⟩, .string ⟨#[]⟩, .int .i64 at_, .int .i64 1]) (by simp [results, Try.results20, go_sem]) rfl (fin_none HF.out)
  by_cases c2 : (b.size : Int) < at_
  · have HF := Lib.hid (show nextOf b.data.toList at_ = ([], [], at_, 1) from by unfold nextOf; rw [if_pos (.inr (by rw [lb]; exact c2))])
    clear lb
    go_enter Try.func20, Try.ntmps20
    go_wp2_with fail
    exact bodyPost_ret (v := .tuple #[.string ⟨#[]⟩, .string ⟨#[]⟩, .int .i64 at_, .int .i64 1]) (by simp [results, Try.results20, go_sem]) rfl (fin_none HF.out)
  obtain ⟨k, rfl⟩ := Int.eq_ofNat_of_zero_le (by omega : 0 ≤ at_)
  have hrl : (b.data.toList.drop k).length = b.size - k := by simp
  have HRL := Lib.hid hrl
  have HNE := Lib.hid (show ¬ ((k : Int) < 0 ∨ (b.data.toList.length : Int) < k) by rw [lb]; omega)
  clear lb hrl
  by_cases c3 : b.size - k < 8
  · have HF := Lib.hid (show nextOf b.data.toList k = ([], [], (k : Int), 20) from by unfold nextOf; rw [if_neg HNE.out, if_pos (by rw [Int.toNat_natCast, HRL.out]; exact c3)])
    have c3' : (b.size : Int) - k < 8 := by omega
    go_enter Try.func20, Try.ntmps20
    go_wp2_with fail
    exact bodyPost_ret (v := .tuple #[.string ⟨#[]⟩, .string ⟨#[]⟩, .int .i64 k, .int .i64 20]) (by simp [results, Try.results20, go_sem]) rfl (fin_none HF.out)
  have hk8 : k + 8 ≤ b.size := by omega
  have hsz8 : 8 ≤ (b.size : Int) - k := by omega
  go_enter Try.func20, Try.ntmps20
  go_wp2_with fail
  have hT : (b.extract k (k + 4)).data.toList = (b.data.toList.drop k).take 4 := by rw [ext_list]; simp
  have hts : (b.extract k (k + 4)).size ≤ 4 := by simp; omega
  generalize b.extract k (k + 4) = tg at hT hts ⊢
  have HT := Lib.hid hT
  clear hT
  refine (rtag_any _ _ (by unfold maxLen; omega)).mono ?_
  rintro e w' ⟨rfl, rfl⟩
  by_cases d1 : Pl.isTag tg.data.toList = false
  · have D1 := Lib.hid d1
    rw [d1]
    clear d1
    have HF := Lib.hid (show nextOf b.data.toList k = ([], [], (k : Int), 1) from by
      unfold nextOf; rw [if_neg HNE.out, Int.toNat_natCast, if_neg (by rw [HRL.out]; exact c3), if_pos (by rw [← HT.out]; exact D1.out)])
    go_wp2_with fail
    exact bodyPost_ret (v := .tuple #[.string ⟨#[]⟩, .string ⟨#[]⟩, .int .i64 k, .int .i64 1]) (by simp [results, Try.results20, go_sem]) rfl (fin_none HF.out)
  have d1' : Pl.isTag tg.data.toList = true := by simpa using d1
  have D1 := Lib.hid (show ¬ Pl.isTag ((b.data.toList.drop k).take 4) = false by rw [← HT.out, d1']; decide)
  rw [d1']
  clear d1 d1'
  go_wp2_with fail
  refine (high_any _ _ (by rw [ByteArray.size_extract]; omega)).mono ?_
  rintro e w' ⟨rfl, rfl⟩
  have hN2 : Pl.leNum (b.extract (k + 4) (k + 8)).data.toList = Pl.leNum (((b.data.toList.drop k).drop 4).take 4) := by
    rw [ext_list, List.drop_drop, show k + 8 - (k + 4) = 4 by omega]
  rw [hN2]
  clear hN2
  have hn : Pl.leNum (((b.data.toList.drop k).drop 4).take 4) < 4294967296 := by
    have h := Pl.leNum_lt (((b.data.toList.drop k).drop 4).take 4)
    have hl : (((b.data.toList.drop k).drop 4).take 4).length = 4 := by simp; omega
    rw [hl] at h; omega
  generalize hN : Pl.leNum (((b.data.toList.drop k).drop 4).take 4) = n at hn ⊢
  have HN2 := Lib.hid hN
  clear hN
  have HR2 := Lib.hid (show ((b.data.toList.drop k).drop 8).length = b.size - k - 8 by rw [List.length_drop, HRL.out])
  by_cases d2 : 16777216 < n
  · have HF := Lib.hid (show nextOf b.data.toList k = ([], [], (k : Int), 21) from by
      unfold nextOf; rw [if_neg HNE.out, Int.toNat_natCast, if_neg (by rw [HRL.out]; exact c3), if_neg D1.out, HN2.out, if_pos d2])
    go_wp2_with fail
    exact bodyPost_ret (v := .tuple #[.string ⟨#[]⟩, .string ⟨#[]⟩, .int .i64 k, .int .i64 21]) (by simp [results, Try.results20, go_sem]) rfl (fin_none HF.out)
  by_cases d3 : b.size - k - 8 < n + 4
  · have HF := Lib.hid (show nextOf b.data.toList k = ([], [], (k : Int), 20) from by
      unfold nextOf; rw [if_neg HNE.out, Int.toNat_natCast, if_neg (by rw [HRL.out]; exact c3), if_neg D1.out, HN2.out, if_neg d2, if_pos (by rw [HR2.out]; exact d3)])
    have d3' : (b.size : Int) - (k + 8) < n + 4 := by omega
    go_wp2_with fail
    exact bodyPost_ret (v := .tuple #[.string ⟨#[]⟩, .string ⟨#[]⟩, .int .i64 k, .int .i64 20]) (by simp [results, Try.results20, go_sem]) rfl (fin_none HF.out)
  have d3' : (n : Int) + 4 ≤ (b.size : Int) - (k + 8) := by omega
  have d3n : k + 8 + n + 4 ≤ b.size := by omega
  clear d3
  go_wp2_with fail
  refine (high_any _ _ (by rw [ByteArray.size_extract]; omega)).mono ?_
  rintro e w' ⟨rfl, rfl⟩
  have hC : (b.extract (k + 8) (k + 8 + n)).data.toList = ((b.data.toList.drop k).drop 8).take n := by rw [ext_list, List.drop_drop]; simp
  have hCs : (b.extract (k + 8) (k + 8 + n)).size ≤ 16777216 := by simp; omega
  generalize b.extract (k + 8) (k + 8 + n) = ct at hC hCs ⊢
  have HC := Lib.hid hC
  have hsum : tg.size + ct.size ≤ 9223372036854775807 := by omega
  clear hC
  go_wp2_with fail
  refine (rsum_any _ _ (by rw [size_app]; unfold maxLen; omega)).mono ?_
  rintro e w' ⟨rfl, rfl⟩
  go_wp2_with fail
  · have hne : ((Pl.leNum (List.take 4 (List.drop (k + 8 + n) b.data.toList)) : Nat) != ((4294967295 - Pl.crc 4294967295 (tg.data.toList ++ ct.data.toList) : Nat) : Int)) = true := by assumption
    have HF := Lib.hid (show nextOf b.data.toList k = ([], [], (k : Int), 22) from by
      unfold nextOf
      rw [if_neg HNE.out, Int.toNat_natCast, if_neg (by rw [HRL.out]; exact c3), if_neg D1.out, HN2.out, if_neg d2, if_neg (by rw [HR2.out]; omega), if_pos]
      rw [← HC.out, ← HT.out, List.drop_drop, List.drop_drop]
      simp only [bne_iff_ne, ne_eq] at hne
      rw [show k + (8 + n) = k + 8 + n by omega]
      unfold sumOf; omega)
    exact bodyPost_ret (v := .tuple #[.string ⟨#[]⟩, .string ⟨#[]⟩, .int .i64 k, .int .i64 22]) (by simp [results, Try.results20, go_sem]) rfl (fin_none HF.out)
  · have hne : ((Pl.leNum (List.take 4 (List.drop (k + 8 + n) b.data.toList)) : Nat) != ((4294967295 - Pl.crc 4294967295 (tg.data.toList ++ ct.data.toList) : Nat) : Int)) = false := by assumption
    have HF := Lib.hid (show nextOf b.data.toList k = (tg.data.toList, ct.data.toList, (k : Int) + 8 + n + 4, 0) from by
      unfold nextOf
      rw [if_neg HNE.out, Int.toNat_natCast, if_neg (by rw [HRL.out]; exact c3), if_neg D1.out, HN2.out, if_neg d2, if_neg (by rw [HR2.out]; omega), if_neg]
      · rw [← HC.out, ← HT.out]
      rw [← HC.out, ← HT.out, List.drop_drop, List.drop_drop]
      simp only [bne_eq_false_iff_eq] at hne
      rw [show k + (8 + n) = k + 8 + n by omega]
      unfold sumOf; omega)
    refine bodyPost_ret (v := .tuple #[.string tg, .string ct, .int .i64 ((k : Int) + 8 + n + 4), .int .i64 0]) (by simp [results, Try.results20, go_sem]) rfl ⟨?_, Below.refl _ _⟩
    rw [HF.out]
    simp only [bs_of]
    rfl
end Go.Proofs.Ytidflgagcamdpaa
