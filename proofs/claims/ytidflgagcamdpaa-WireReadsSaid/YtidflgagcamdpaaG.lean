/- Contracts of Next, the program's and the document's. -/
import Derived.Test.YtidflgagcamdpaaF
namespace Go.Proofs.Ytidflgagcamdpaa
open Go.RowKit Go.Lib
def NoneAt (at_ : Int) (n : Nat) (w : World) (e : Ending) (w' : World) : Prop :=
  e = .returned (.tuple #[.string ⟨#[]⟩, .string ⟨#[]⟩, .int .i64 at_, .int .i64 (n : Nat)]) ∧ ∃ m, w' = w.drewN m
set_option maxHeartbeats 400000 in
theorem refused_any (g : Nat) (at_ : Int) (n : Nat) (w : World) (hc : w.cell? ⟨g, 0, none⟩ = some (.int .i64 at_)) :
    Calls Try.prog 34 #[.int .i64 n, .pointer (some ⟨g, 0, none⟩)] w (NoneAt at_ n w) := by
  go_enter Try.func34, Try.ntmps34
  go_wp2
  go_quiet (fail)
  go_wp2
  exact bodyPost_ret (v := .tuple #[.string ⟨#[]⟩, .string ⟨#[]⟩, .int .i64 at_, .int .i64 (n : Nat)]) (by simp [results, Try.results34, go_sem]) rfl ⟨rfl, _, rfl⟩
def nextOf (b : List UInt8) (at_ : Int) : List UInt8 × List UInt8 × Int × Nat :=
  if at_ < 0 ∨ (b.length : Int) < at_ then ([], [], at_, 1)
  else if (b.drop at_.toNat).length < 8 then ([], [], at_, 20)
  else if Pl.isTag ((b.drop at_.toNat).take 4) = false then ([], [], at_, 1)
  else if 16777216 < Pl.leNum (((b.drop at_.toNat).drop 4).take 4) then ([], [], at_, 21)
  else if ((b.drop at_.toNat).drop 8).length < Pl.leNum (((b.drop at_.toNat).drop 4).take 4) + 4 then ([], [], at_, 20)
  else if Pl.leNum ((((b.drop at_.toNat).drop 8).drop (Pl.leNum (((b.drop at_.toNat).drop 4).take 4))).take 4) ≠ sumOf ((b.drop at_.toNat).take 4 ++ ((b.drop at_.toNat).drop 8).take (Pl.leNum (((b.drop at_.toNat).drop 4).take 4))) then ([], [], at_, 22)
  else ((b.drop at_.toNat).take 4, ((b.drop at_.toNat).drop 8).take (Pl.leNum (((b.drop at_.toNat).drop 4).take 4)), at_ + 8 + (Pl.leNum (((b.drop at_.toNat).drop 4).take 4) : Nat) + 4, 0)
def NextOk (b : ByteArray) (at_ : Int) (w : World) (e : Ending) (w' : World) : Prop :=
  e = .returned (.tuple #[.string (bs (nextOf b.data.toList at_).1), .string (bs (nextOf b.data.toList at_).2.1), .int .i64 (nextOf b.data.toList at_).2.2.1, .int .i64 ((nextOf b.data.toList at_).2.2.2 : Nat)]) ∧ Below w.heap.size w w'
theorem below_drewN {B : Nat} {w w' : World} (h : Below B w w') (n : Nat) : Below B w (w'.drewN n) := ⟨h.os, h.tape, h.output, h.size, h.block⟩
theorem next_none {b : ByteArray} {at_ : Int} {n : Nat} {w w1 : World} (hf : nextOf b.data.toList at_ = ([], [], at_, n)) (hb : Below w.heap.size w w1) {e : Ending} {w' : World} (h : NoneAt at_ n w1 e w') : NextOk b at_ w e w' := by
  obtain ⟨rfl, m, rfl⟩ := h
  exact ⟨by rw [hf]; rfl, below_drewN hb m⟩
set_option maxHeartbeats 400000 in
theorem next_any (b : ByteArray) (at_ : Int) (w : World) (hb : b.size ≤ 1099511627776) (h0 : -9223372036854775808 ≤ at_) (h1 : at_ ≤ 9223372036854775807) :
    Calls Try.prog 18 #[.string b, .int .i64 at_] w (NextOk b at_ w) := by
  have lb : b.data.toList.length = b.size := by simp
  have HB := Lib.hid (show Below w.heap.size w (w.alloc (.cells #[.int .i64 at_] 3)) from (Below.refl _ _).alloc (Nat.le_refl _) _)
  by_cases c1 : at_ < 0
  · have HF := Lib.hid (show nextOf b.data.toList at_ = ([], [], at_, 1) from by unfold nextOf; rw [if_pos (.inl c1)])
    clear lb
    go_enter Try.func18, Try.ntmps18
    go_wp2_with fail
    refine (refused_any _ at_ 1 _ (by simp)).mono ?_
    rintro e w' h
    obtain ⟨rfl, m, rfl⟩ := h
    go_wp2
    exact bodyPost_ret (v := .tuple #[.string ⟨#[]⟩, .string ⟨#[]⟩, .int .i64 at_, .int .i64 1]) (by simp [results, Try.results18, go_sem]) rfl (next_none HF.out HB.out ⟨rfl, m, rfl⟩)
  by_cases c2 : (b.size : Int) < at_
  · have HF := Lib.hid (show nextOf b.data.toList at_ = ([], [], at_, 1) from by unfold nextOf; rw [if_pos (.inr (by rw [lb]; exact c2))])
    clear lb
    go_enter Try.func18, Try.ntmps18
    go_wp2_with fail
    refine (refused_any _ at_ 1 _ (by simp)).mono ?_
    rintro e w' h
    obtain ⟨rfl, m, rfl⟩ := h
    go_wp2
    exact bodyPost_ret (v := .tuple #[.string ⟨#[]⟩, .string ⟨#[]⟩, .int .i64 at_, .int .i64 1]) (by simp [results, Try.results18, go_sem]) rfl (next_none HF.out HB.out ⟨rfl, m, rfl⟩)
  obtain ⟨k, rfl⟩ := Int.eq_ofNat_of_zero_le (by omega : 0 ≤ at_)
  have hr : (b.extract k b.size).data.toList = b.data.toList.drop k := by rw [ext_list, List.take_of_length_le]; simp
  have hrs : (b.extract k b.size).size = b.size - k := by simp
  have hrl : (b.data.toList.drop k).length = b.size - k := by simp
  have HNE := Lib.hid (show ¬ ((k : Int) < 0 ∨ (b.data.toList.length : Int) < k) by rw [lb]; omega)
  by_cases c3 : b.size - k < 8
  · have HF := Lib.hid (show nextOf b.data.toList k = ([], [], (k : Int), 20) from by unfold nextOf; rw [if_neg HNE.out, if_pos (by rw [Int.toNat_natCast, hrl]; exact c3)])
    have c3' : b.size < k + 8 := by omega
    clear lb hr hrs hrl
    go_enter Try.func18, Try.ntmps18
    go_wp2_with fail
    refine (refused_any _ k 20 _ (by simp)).mono ?_
    rintro e w' h
    obtain ⟨rfl, m, rfl⟩ := h
    go_wp2
    exact bodyPost_ret (v := .tuple #[.string ⟨#[]⟩, .string ⟨#[]⟩, .int .i64 k, .int .i64 20]) (by simp [results, Try.results18, go_sem]) rfl (next_none HF.out HB.out ⟨rfl, m, rfl⟩)
  have hk8 : k + 8 ≤ b.size := by omega
  have hsz8 : (b.size : Int) - k ≥ 8 := by omega
  have HR := Lib.hid hr
  have HRS := Lib.hid hrs
  have HRL := Lib.hid hrl
  clear lb hr hrs hrl
  go_enter Try.func18, Try.ntmps18
  go_wp2_with fail
  go_quiet ((go_at_call 33; exact Calls.quiet_of_same ((number_any _ _ (by rw [ByteArray.size_extract]; omega)).mono fun _ _ ⟨h1, h2⟩ => ⟨h1, h2.symm⟩)))
  have hn : Pl.leNum (List.take 4 (List.drop (k + 4) b.data.toList)) < 4294967296 := by
    have h := Pl.leNum_lt (List.take 4 (List.drop (k + 4) b.data.toList))
    have hl : (List.take 4 (List.drop (k + 4) b.data.toList)).length = 4 := by simp; omega
    rw [hl] at h; omega
  generalize hN : Pl.leNum (List.take 4 (List.drop (k + 4) b.data.toList)) = n at hn ⊢
  rw [IntWalk.wrap64_in (n : Int) ⟨by omega, by omega⟩]
  have hT : ((b.extract k b.size).extract 0 4).data.toList = (b.data.toList.drop k).take 4 := by rw [ext_list, HR.out]; simp
  have hts : ((b.extract k b.size).extract 0 4).size ≤ maxLen := by simp [maxLen]; omega
  generalize (b.extract k b.size).extract 0 4 = tg at hT hts ⊢
  have HT := Lib.hid hT
  have HN := Lib.hid hN
  clear hT hN
  go_wp2_with fail
  refine (isTag_any _ _ hts).mono ?_
  rintro e w' ⟨rfl, rfl⟩
  by_cases d1 : Pl.isTag tg.data.toList = false
  · have D1 := Lib.hid d1
    rw [d1]
    clear d1
    have HF := Lib.hid (show nextOf b.data.toList k = ([], [], (k : Int), 1) from by
      unfold nextOf; rw [if_neg HNE.out, Int.toNat_natCast, if_neg (by rw [HRL.out]; exact c3), if_pos (by rw [← HT.out]; exact D1.out)])
    go_wp2_with fail
    refine (refused_any _ k 1 _ (by simp)).mono ?_
    rintro e w' h
    obtain ⟨rfl, m, rfl⟩ := h
    go_wp2
    exact bodyPost_ret (v := .tuple #[.string ⟨#[]⟩, .string ⟨#[]⟩, .int .i64 k, .int .i64 1]) (by simp [results, Try.results18, go_sem]) rfl (next_none HF.out HB.out ⟨rfl, _, rfl⟩)
  have d1' : Pl.isTag tg.data.toList = true := by simpa using d1
  have D1 := Lib.hid (show ¬ Pl.isTag ((b.data.toList.drop k).take 4) = false by rw [← HT.out, d1']; decide)
  rw [d1']
  clear d1 d1'
  have HN2 := Lib.hid (show Pl.leNum (((b.data.toList.drop k).drop 4).take 4) = n by rw [List.drop_drop]; exact HN.out)
  by_cases d2 : 16777216 < n
  · have HF := Lib.hid (show nextOf b.data.toList k = ([], [], (k : Int), 21) from by
      unfold nextOf; rw [if_neg HNE.out, Int.toNat_natCast, if_neg (by rw [HRL.out]; exact c3), if_neg D1.out, HN2.out, if_pos d2])
    go_wp2_with fail
    refine (refused_any _ k 21 _ (by simp)).mono ?_
    rintro e w' h
    obtain ⟨rfl, m, rfl⟩ := h
    go_wp2
    exact bodyPost_ret (v := .tuple #[.string ⟨#[]⟩, .string ⟨#[]⟩, .int .i64 k, .int .i64 21]) (by simp [results, Try.results18, go_sem]) rfl (next_none HF.out HB.out ⟨rfl, _, rfl⟩)
  have HR2 := Lib.hid (show ((b.data.toList.drop k).drop 8).length = b.size - k - 8 by rw [List.length_drop, HRL.out])
  by_cases d3 : b.size - k - 8 < n + 4
  · have HF := Lib.hid (show nextOf b.data.toList k = ([], [], (k : Int), 20) from by
      unfold nextOf; rw [if_neg HNE.out, Int.toNat_natCast, if_neg (by rw [HRL.out]; exact c3), if_neg D1.out, HN2.out, if_neg d2, if_pos (by rw [HR2.out]; exact d3)])
    have d3' : ((b.size - k - 8 : Nat) : Int) < n + 4 := by omega
    go_wp2_with fail
    refine (refused_any _ k 20 _ (by simp)).mono ?_
    rintro e w' h
    obtain ⟨rfl, m, rfl⟩ := h
    go_wp2
    exact bodyPost_ret (v := .tuple #[.string ⟨#[]⟩, .string ⟨#[]⟩, .int .i64 k, .int .i64 20]) (by simp [results, Try.results18, go_sem]) rfl (next_none HF.out HB.out ⟨rfl, _, rfl⟩)
  have d3' : (n : Int) + 4 ≤ ((b.size - k - 8 : Nat) : Int) := by omega
  go_wp2_with fail
  have hr2 : ((b.extract k b.size).extract 8 (b.size - k)).data.toList = (b.data.toList.drop k).drop 8 := by
    rw [ext_list, HR.out, List.take_of_length_le]; rw [HR2.out]; omega
  have hr2s : ((b.extract k b.size).extract 8 (b.size - k)).size = b.size - k - 8 := by simp
  have hBW := below_drewN HB.out nq
  have hcw : ((w.alloc (.cells #[.int .i64 k] 3)).drewN nq).cell? ⟨w.heap.size, 0, none⟩ = some (.int .i64 k) := by simp
  generalize (b.extract k b.size).extract 8 (b.size - k) = r2 at hr2 hr2s ⊢
  generalize (w.alloc (.cells #[.int .i64 k] 3)).drewN nq = w1 at hBW hcw ⊢
  have HR2L := Lib.hid hr2
  have HBW := Lib.hid hBW
  have hr2b : n + 4 ≤ r2.size := by omega
  have hr2c : r2.size ≤ 1099511627776 := by omega
  have x1 : IntKind.i64.wrap ((n : Int) + 4) = (n : Int) + 4 := IntWalk.i64_in _ (by omega)
  have x2 : (0 : Int) ≤ (n : Int) + 4 := by omega
  have x3 : ((n : Int) + 4).toNat = n + 4 := by omega
  clear hr2 hr2s hBW d3 d3' h0 h1
  go_quiet ((first | (go_at_call 33; exact Calls.quiet_of_same ((number_any _ _ (by rw [ByteArray.size_extract]; omega)).mono fun _ _ ⟨h1, h2⟩ => ⟨h1, h2.symm⟩)) | (go_at_call 31; exact Calls.quiet_of_same ((check_any _ _ _ hts (by rw [ByteArray.size_extract]; unfold maxLen; omega)).mono fun _ _ ⟨h1, h2⟩ => ⟨h1, h2.symm⟩))))
  clear x1 x2 x3
  go_wp2_with fail
  · have hne : ((Pl.leNum (List.take 4 (List.drop n r2.data.toList)) : Nat) != ((4294967295 - Pl.crc 4294967295 (tg.data.toList ++ List.take n r2.data.toList) : Nat) : Int)) = true := by assumption
    have HF := Lib.hid (show nextOf b.data.toList k = ([], [], (k : Int), 22) from by
      unfold nextOf
      rw [if_neg HNE.out, Int.toNat_natCast, if_neg (by rw [HRL.out]; exact c3), if_neg D1.out, HN2.out, if_neg d2, if_neg (by rw [HR2.out]; omega), if_pos]
      rw [← HR2L.out, ← HT.out]
      simp only [bne_iff_ne, ne_eq] at hne
      unfold sumOf; omega)
    refine (refused_any _ k 22 _ (by simpa using hcw)).mono ?_
    rintro e w' h
    obtain ⟨rfl, m, rfl⟩ := h
    go_wp2
    exact bodyPost_ret (v := .tuple #[.string ⟨#[]⟩, .string ⟨#[]⟩, .int .i64 k, .int .i64 22]) (by simp [results, Try.results18, go_sem]) rfl (next_none HF.out HBW.out ⟨rfl, _, rfl⟩)
  · have hne : ((Pl.leNum (List.take 4 (List.drop n r2.data.toList)) : Nat) != ((4294967295 - Pl.crc 4294967295 (tg.data.toList ++ List.take n r2.data.toList) : Nat) : Int)) = false := by assumption
    have HF := Lib.hid (show nextOf b.data.toList k = (tg.data.toList, r2.data.toList.take n, (k : Int) + 8 + n + 4, 0) from by
      unfold nextOf
      rw [if_neg HNE.out, Int.toNat_natCast, if_neg (by rw [HRL.out]; exact c3), if_neg D1.out, HN2.out, if_neg d2, if_neg (by rw [HR2.out]; omega), if_neg]
      · rw [← HR2L.out, ← HT.out]
      rw [← HR2L.out, ← HT.out]
      simp only [bne_eq_false_iff_eq] at hne
      unfold sumOf; omega)
    have x1 : IntKind.i64.wrap ((k : Int) + 8) = (k : Int) + 8 := IntWalk.i64_in _ (by omega)
    have x2 : IntKind.i64.wrap ((k : Int) + 8 + n) = (k : Int) + 8 + n := IntWalk.i64_in _ (by omega)
    have x3 : IntKind.i64.wrap ((k : Int) + 8 + n + 4) = (k : Int) + 8 + n + 4 := IntWalk.i64_in _ (by omega)
    clear hne
    go_quiet (fail)
    clear x1 x2 x3
    go_wp2
    refine bodyPost_ret (v := .tuple #[.string tg, .string (r2.extract 0 n), .int .i64 ((k : Int) + 8 + n + 4), .int .i64 0]) (by simp [results, Try.results18, go_sem]) rfl ⟨?_, below_drewN (below_drewN HBW.out _) _⟩
    rw [HF.out]
    have e1 : bs tg.data.toList = tg := bs_of tg
    have e2 : bs (r2.data.toList.take n) = r2.extract 0 n := by rw [← bs_of (r2.extract 0 n), ext_list]; simp
    simp only [e1, e2]
    rfl
end Go.Proofs.Ytidflgagcamdpaa
