/- Contracts of Take and Next, the program's and the document's. -/
import Derived.Test.YtidflgagcamdpaaE
import Derived.Deep.QuietTactic
import Derived.BigQuiet
namespace Go.Proofs.Ytidflgagcamdpaa
open Go.RowKit Go.Lib
def takeOf (b : List UInt8) (at_ : Int) : Nat × Int × Nat :=
  if at_ < 0 ∨ (b.length : Int) < at_ then (0, at_, 1) else if (b.length : Int) - at_ < 8 then (0, at_, 20) else (Pl.leNum ((b.drop at_.toNat).take 8), at_ + 8, 0)
def TakeOk (b : ByteArray) (at_ : Int) (w : World) (e : Ending) (w' : World) : Prop :=
  e = .returned (.tuple #[.int .u64 ((takeOf b.data.toList at_).1 : Nat), .int .i64 (takeOf b.data.toList at_).2.1, .int .i64 ((takeOf b.data.toList at_).2.2 : Nat)]) ∧ w = w'
theorem ret_three {a b : Nat} {p q : Int} {m n : Nat} (h : a = b) (h2 : p = q) (k : m = n) : Ending.returned (.tuple #[.int .u64 (a : Nat), .int .i64 p, .int .i64 (m : Nat)]) = .returned (.tuple #[.int .u64 (b : Nat), .int .i64 q, .int .i64 (n : Nat)]) := by rw [h, h2, k]
theorem ext_list (b : ByteArray) (i j : Nat) : (b.extract i j).data.toList = (b.data.toList.drop i).take (j - i) := by
  simp [ByteArray.data_extract]
set_option maxHeartbeats 400000 in
theorem take_any (b : ByteArray) (at_ : Int) (w : World) (hb : b.size ≤ 1099511627776) (h0 : -9223372036854775808 ≤ at_) (h1 : at_ ≤ 9223372036854775807) :
    Calls Try.prog 17 #[.string b, .int .i64 at_] w (TakeOk b at_ w) := by
  have lb : b.data.toList.length = b.size := by simp
  by_cases c1 : at_ < 0
  · have HF := Lib.hid (show takeOf b.data.toList at_ = (0, at_, 1) from by unfold takeOf; rw [if_pos (.inl c1)])
    go_enter Try.func17, Try.ntmps17
    go_wp2
    go_ret3
    exact ⟨by rw [HF.out]; rfl, rfl⟩
  by_cases c2 : (b.size : Int) < at_
  · have HF := Lib.hid (show takeOf b.data.toList at_ = (0, at_, 1) from by unfold takeOf; rw [if_pos (.inr (by rw [lb]; exact c2))])
    clear lb
    go_enter Try.func17, Try.ntmps17
    go_wp2
    go_ret3
    exact ⟨by rw [HF.out]; rfl, rfl⟩
  obtain ⟨k, rfl⟩ := Int.eq_ofNat_of_zero_le (by omega : 0 ≤ at_)
  by_cases c3 : (b.size : Int) - k < 8
  · have HF := Lib.hid (show takeOf b.data.toList k = (0, (k : Int), 20) from by unfold takeOf; rw [if_neg (by rw [lb]; omega), if_pos (by rw [lb]; exact c3)])
    clear lb
    go_enter Try.func17, Try.ntmps17
    go_wp2
    go_ret3
    exact ⟨by rw [HF.out]; rfl, rfl⟩
  · have HF := Lib.hid (show takeOf b.data.toList k = (Pl.leNum ((b.data.toList.drop k).take 8), (k : Int) + 8, 0) from by unfold takeOf; rw [if_neg (by rw [lb]; omega), if_neg (by rw [lb]; omega)]; rfl)
    clear lb
    go_enter Try.func17, Try.ntmps17
    go_wp2_with fail
    refine (number_any _ _ (by rw [ByteArray.size_extract]; omega)).mono ?_
    rintro e w' ⟨rfl, rfl⟩
    rw [ext_list, show k + 8 - k = 8 by omega]
    go_wp2
    go_ret3
    exact ⟨by rw [HF.out]; rfl, rfl⟩
set_option maxHeartbeats 400000 in
theorem rtake_any (b : ByteArray) (at_ : Int) (w : World) (hb : b.size ≤ 1099511627776) (h0 : -9223372036854775808 ≤ at_) (h1 : at_ ≤ 9223372036854775807) :
    Calls Try.prog 19 #[.string b, .int .i64 at_] w (TakeOk b at_ w) := by
  have lb : b.data.toList.length = b.size := by simp
  by_cases c1 : at_ < 0
  · have HF := Lib.hid (show takeOf b.data.toList at_ = (0, at_, 1) from by unfold takeOf; rw [if_pos (.inl c1)])
    go_enter Try.func19, Try.ntmps19
    go_wp2
    go_ret3
    exact ⟨by rw [HF.out]; rfl, rfl⟩
  by_cases c2 : (b.size : Int) < at_
  · have HF := Lib.hid (show takeOf b.data.toList at_ = (0, at_, 1) from by unfold takeOf; rw [if_pos (.inr (by rw [lb]; exact c2))])
    clear lb
    go_enter Try.func19, Try.ntmps19
    go_wp2
    go_ret3
    exact ⟨by rw [HF.out]; rfl, rfl⟩
  obtain ⟨k, rfl⟩ := Int.eq_ofNat_of_zero_le (by omega : 0 ≤ at_)
  by_cases c3 : (b.size : Int) - k < 8
  · have HF := Lib.hid (show takeOf b.data.toList k = (0, (k : Int), 20) from by unfold takeOf; rw [if_neg (by rw [lb]; omega), if_pos (by rw [lb]; exact c3)])
    clear lb
    go_enter Try.func19, Try.ntmps19
    go_wp2
    go_ret3
    exact ⟨by rw [HF.out]; rfl, rfl⟩
  · have HF := Lib.hid (show takeOf b.data.toList k = (Pl.leNum ((b.data.toList.drop k).take 8), (k : Int) + 8, 0) from by unfold takeOf; rw [if_neg (by rw [lb]; omega), if_neg (by rw [lb]; omega)]; rfl)
    clear lb
    go_enter Try.func19, Try.ntmps19
    go_wp2_with fail
    refine (high_any _ _ (by rw [ByteArray.size_extract]; omega)).mono ?_
    rintro e w' ⟨rfl, rfl⟩
    rw [ext_list, show k + 8 - k = 8 by omega]
    go_wp2
    go_ret3
    exact ⟨by rw [HF.out]; rfl, rfl⟩
end Go.Proofs.Ytidflgagcamdpaa
