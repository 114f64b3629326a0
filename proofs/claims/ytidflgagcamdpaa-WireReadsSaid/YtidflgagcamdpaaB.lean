/- Contracts of the wire's scalar functions, second part: Sum, isTag, check, and the document's high, Sum, Tag. -/
import Derived.Test.YtidflgagcamdpaaA
namespace Go.Proofs.Ytidflgagcamdpaa
open Go.RowKit
theorem xor_max (x : Nat) (h : x < 4294967296) : 4294967295 ^^^ x = 4294967295 - x := by
  have e : (BitVec.allOnes 32 ^^^ BitVec.ofNat 32 x).toNat = (~~~ (BitVec.ofNat 32 x)).toNat := by
    congr 1
  rw [BitVec.toNat_xor, BitVec.toNat_allOnes, BitVec.toNat_not, BitVec.toNat_ofNat, Nat.mod_eq_of_lt h] at e
  exact e
theorem not_u32 (x : Nat) (h : x < 4294967296) : bits BinOp.xor IntKind.u32 IntKind.u32.max (x : Int) = ((4294967295 - x : Nat) : Int) := by
  have e : IntKind.u32.max = ((4294967295 : Nat) : Int) := by decide
  rw [e, u32_xor_nat _ _ (by omega) h, xor_max x h]
set_option maxHeartbeats 400000 in
theorem sum_any (s : ByteArray) (w : World) (hs : s.size ≤ maxLen) :
    Calls Try.prog 13 #[.string s] w fun e w' => e = .returned (.int .u32 (4294967295 - Pl.crc 4294967295 s.data.toList : Nat)) ∧ w = w' := by
  go_enter Try.func13, Try.ntmps13
  go_wp2_with fail
  refine (more_any 4294967295 s _ (by omega) hs).mono ?_
  rintro e w' ⟨rfl, rfl⟩
  go_wp2
  go_ret
  exact ⟨ret_int (not_u32 _ (Pl.crc_lt _ (by omega))), rfl⟩
set_option maxHeartbeats 400000 in
theorem check_any (t s : ByteArray) (w : World) (ht : t.size ≤ maxLen) (hs : s.size ≤ maxLen) :
    Calls Try.prog 31 #[.string t, .string s] w fun e w' => e = .returned (.int .u32 (4294967295 - Pl.crc 4294967295 (t.data.toList ++ s.data.toList) : Nat)) ∧ w = w' := by
  go_enter Try.func31, Try.ntmps31
  go_wp2_with fail
  refine (more_any 4294967295 t _ (by omega) ht).mono ?_
  rintro e w' ⟨rfl, rfl⟩
  go_wp2_with fail
  refine (more_any _ s _ (Pl.crc_lt _ (by omega)) hs).mono ?_
  rintro e w' ⟨rfl, rfl⟩
  go_wp2
  go_ret
  exact ⟨ret_int (by rw [not_u32 _ (Pl.crc_lt _ (Pl.crc_lt _ (by omega))), Pl.crc_append]), rfl⟩
theorem isTag_yes {l : List UInt8} {k : Nat} (h : k < l.length) (h1 : l[k].toNat < 97 ∨ 122 < l[k].toNat) : Pl.isTag l = false := by
  unfold Pl.isTag
  rw [Bool.and_eq_false_iff]; right
  rw [List.all_eq_false]
  refine ⟨l[k], List.getElem_mem h, ?_⟩
  simp [UInt8.le_iff_toNat_le]; omega
def Good (l : List UInt8) (k : Nat) : Prop := (l.take k).all (fun b => 97 ≤ b && b ≤ 122) = true
theorem Good.step {l : List UInt8} {k : Nat} (g : Good l k) (h : k < l.length) (h1 : 97 ≤ l[k].toNat) (h2 : l[k].toNat ≤ 122) : Good l (k + 1) := by
  unfold Good at *
  rw [Pl.take_snoc l k h, List.all_append, g]
  simp [UInt8.le_iff_toNat_le]; omega
theorem Good.all {l : List UInt8} {k : Nat} (g : Good l k) (h : l.length ≤ k) : Pl.isTag l = (l.length == 4) := by
  unfold Good at g
  rw [List.take_of_length_le h] at g
  unfold Pl.isTag; rw [g]; simp
set_option maxHeartbeats 400000 in
theorem isTag_any (s : ByteArray) (w : World) (hs : s.size ≤ maxLen) :
    Calls Try.prog 30 #[.string s] w fun e w' => e = .returned (.bool (Pl.isTag s.data.toList)) ∧ w = w' := by
  unfold maxLen at hs
  go_enter Try.func30, Try.ntmps30
  go_wp2
  go_loop [6] (fun i => ∃ k : Nat, k ≤ s.size ∧ i = .int .i64 k ∧ Good s.data.toList k) (fun i => s.size - (intOf i).toNat)
  case atStart => exact ⟨0, Nat.zero_le _, rfl, by simp [Good]⟩
  case round =>
    obtain ⟨k, hk, rfl, hg⟩ := hrel
    by_cases hlt : k < s.size
    · have hl : k < s.data.toList.length := by simpa using hlt
      by_cases h1 : (s[k].toNat : Int) < 97
      · go_wp2
        go_ret
        exact ⟨ret_bool (isTag_yes hl (.inl (by show s[k].toNat < 97; omega))).symm, rfl⟩
      by_cases h2 : 122 < (s[k].toNat : Int)
      · go_wp2
        go_ret
        exact ⟨ret_bool (isTag_yes hl (.inr (by show 122 < s[k].toNat; omega))).symm, rfl⟩
      · go_wp2
        go_round
        case rel => exact ⟨k + 1, by omega, by go_num, hg.step hl (by show 97 ≤ s[k].toNat; omega) (by show s[k].toNat ≤ 122; omega)⟩
        case measure => simp [intOf]; omega
    · go_wp2
      go_ret
      refine ⟨ret_bool (?_), rfl⟩
      rw [hg.all (by simp; omega)]
      have e : s.data.toList.length = s.size := by simp
      rw [e, Bool.eq_iff_iff]; simp; omega
theorem drop_cons (l : List UInt8) (k : Nat) (h : k < l.length) : l.drop k = l[k] :: l.drop (k + 1) := List.drop_eq_getElem_cons h
theorem high_step (s : ByteArray) (k : Nat) (h1 : 1 ≤ k) (h : k ≤ s.size) (h8 : s.size ≤ 8) :
    IntKind.u64.wrap (IntKind.u64.wrap (↑(Pl.leNum (List.drop k s.data.toList)) * 256) + IntKind.u64.wrap ↑s[k - 1].toNat) = ((Pl.leNum (s.data.toList.drop (k - 1)) : Nat) : Int) := by
  have hb : s[k - 1].toNat < 256 := s[k - 1].toNat_lt
  have hl := Pl.leNum_lt (s.data.toList.drop k)
  have hlen : (s.data.toList.drop k).length ≤ 7 := by simp; omega
  have hp : (256 : Nat) ^ (s.data.toList.drop k).length ≤ 256 ^ 7 := Nat.pow_le_pow_right (by omega) hlen
  rw [drop_cons s.data.toList (k - 1) (by simp; omega), show k - 1 + 1 = k by omega]
  simp only [Pl.leNum, IntKind.wrap_u64]
  have e : (s.data.toList[k - 1]'(by simp; omega)).toNat = s[k - 1].toNat := rfl
  rw [e]; omega
set_option maxHeartbeats 400000 in
theorem high_any (s : ByteArray) (w : World) (hs : s.size ≤ 8) :
    Calls Try.prog 35 #[.string s] w fun e w' => e = .returned (.int .u64 (Pl.leNum s.data.toList : Nat)) ∧ w = w' := by
  go_enter Try.func35, Try.ntmps35
  go_wp2
  go_loop [3, 4] (fun n i => ∃ k : Nat, k ≤ s.size ∧ i = .int .i64 ((k : Int) - 1) ∧ n = .int .u64 (Pl.leNum (s.data.toList.drop k) : Nat)) (fun _ i => (intOf i + 1).toNat)
  case atStart => exact ⟨s.size, Nat.le_refl _, rfl, by rw [List.drop_of_length_le (by simp)]; rfl⟩
  case round =>
    obtain ⟨k, hk, rfl, rfl⟩ := hrel
    by_cases hlt : 1 ≤ k
    · go_wp2
      go_round
      case rel => exact ⟨k - 1, by omega, by congr 1; omega, by rw [high_step s k hlt hk hs]⟩
      case measure => simp [intOf]; omega
    · obtain rfl : k = 0 := by omega
      go_wp2
      go_ret
      exact ⟨ret_int rfl, rfl⟩
theorem rsum_step (x : Nat) (hx : x < 4294967296) (h : ((x : Int) % 2 == 1) = true) :
    bits BinOp.xor IntKind.u64 ((x : Int) / 2) 3988292384 = ((Pl.crcBit x : Nat) : Int) := by
  have h1 : x % 2 = 1 := by simp at h; omega
  rw [show ((x : Int) / 2) = ((x / 2 : Nat) : Int) from by omega, show (3988292384 : Int) = ((3988292384 : Nat) : Int) from rfl, u64_xor_nat _ _ (by omega) (by omega)]
  unfold Pl.crcBit; rw [h1]
theorem rsum_step0 (x : Nat) (h : ((x : Int) % 2 == 1) = false) : ((x : Int) / 2) = ((Pl.crcBit x : Nat) : Int) := by
  have h1 : x % 2 = 0 := by simp at h; omega
  unfold Pl.crcBit; rw [h1]; simp
theorem rsum_first (x : Nat) (b : UInt8) (hx : x < 4294967296) : bits BinOp.xor IntKind.u64 (↑x) (b.toNat : Int) = ((x ^^^ b.toNat : Nat) : Int) := by
  have hb : b.toNat < 256 := b.toNat_lt
  rw [u64_xor_nat _ _ (by omega) (by omega)]
theorem rsum_last (x : Nat) (h : x < 4294967296) : bits BinOp.xor IntKind.u64 (x : Int) 4294967295 % 4294967296 = ((4294967295 - x : Nat) : Int) := by
  rw [show (4294967295 : Int) = ((4294967295 : Nat) : Int) from rfl, u64_xor_nat _ _ (by omega) (by omega), Nat.xor_comm, xor_max x h]; omega
set_option maxHeartbeats 400000 in
theorem rsum_any (s : ByteArray) (w : World) (hs : s.size ≤ maxLen) :
    Calls Try.prog 14 #[.string s] w fun e w' => e = .returned (.int .u32 (4294967295 - Pl.crc 4294967295 s.data.toList : Nat)) ∧ w = w' := by
  unfold maxLen at hs
  go_enter Try.func14, Try.ntmps14
  go_wp2
  go_loop [3, 4] (fun n i => ∃ k : Nat, k ≤ s.size ∧ i = .int .i64 k ∧ n = .int .u64 (Pl.crc 4294967295 (s.data.toList.take k) : Nat)) (fun _ i => s.size - (intOf i).toNat)
  case atStart => exact ⟨0, Nat.zero_le _, rfl, rfl⟩
  case round =>
    obtain ⟨k, hk, rfl, rfl⟩ := hrel
    have hcl := Pl.crc_lt (s.data.toList.take k) (show 4294967295 < 4294967296 by omega)
    by_cases hlt : k < s.size
    · have HS := Lib.hid (Pl.crc_snoc 4294967295 s.data.toList k (by simpa using hlt))
      have HF := Lib.hid (rsum_first (Pl.crc 4294967295 (s.data.toList.take k)) s[k] hcl)
      have hb : s[k].toNat < 256 := s[k].toNat_lt
      go_wp2
      go_loop [3, 5] (fun n i => ∃ (j : Nat), j ≤ 8 ∧ i = .int .i64 j ∧ n = .int .u64 (Pl.crcBits j (Pl.crc 4294967295 (s.data.toList.take k) ^^^ s[k].toNat) : Nat)) (fun _ i => 8 - (intOf i).toNat)
      case atStart =>
        exact ⟨0, by omega, rfl, by rw [HF.out]; rfl⟩
      case round =>
        obtain ⟨j, hj, rfl, rfl⟩ := hrel
        have hx := Pl.crcBits_lt j (Pl.xor_lt32 hcl (show s[k].toNat < 4294967296 by omega))
        by_cases hj8 : j < 8
        · go_wp2
          · go_round
            case rel => exact ⟨j + 1, by omega, by go_num, by rw [rsum_step _ hx (by assumption), Pl.crcBits_succ']⟩
            case measure => simp [intOf]; omega
          · go_round
            case rel => exact ⟨j + 1, by omega, by go_num, by rw [rsum_step0 _ (by assumption), Pl.crcBits_succ']⟩
            case measure => simp [intOf]; omega
        · obtain rfl : j = 8 := by omega
          go_wp2
          go_round
          case rel => exact ⟨k + 1, by omega, by go_num, by rw [HS.out]; rfl⟩
          case measure => simp [intOf]; omega
    · go_wp2
      go_ret
      refine ⟨ret_int ?_, rfl⟩
      rw [List.take_of_length_le (by simp; omega)]
      exact rsum_last _ (Pl.crc_lt _ (by omega))
set_option maxHeartbeats 400000 in
theorem rtag_any (s : ByteArray) (w : World) (hs : s.size ≤ maxLen) :
    Calls Try.prog 32 #[.string s] w fun e w' => e = .returned (.bool (Pl.isTag s.data.toList)) ∧ w = w' := by
  unfold maxLen at hs
  have el : s.data.toList.length = s.size := by simp
  by_cases h4 : s.size = 4
  · have h4' : ((s.size : Int) != 4) = false := by simp; omega
    have H4 := Lib.hid h4
    have hle : s.size ≤ 4 := by omega
    have hge : 4 ≤ s.size := by omega
    clear h4 el
    go_enter Try.func32, Try.ntmps32
    go_wp2
    go_loop [3] (fun i => ∃ k : Nat, k ≤ s.size ∧ i = .int .i64 k ∧ Good s.data.toList k) (fun i => s.size - (intOf i).toNat)
    case atStart => exact ⟨0, Nat.zero_le _, rfl, by simp [Good]⟩
    case round =>
      obtain ⟨k, hk, rfl, hg⟩ := hrel
      by_cases hlt : k < s.size
      · have hl : k < s.data.toList.length := by simpa using hlt
        by_cases h1 : (s[k].toNat : Int) < 97
        · go_wp2
          go_ret
          exact ⟨ret_bool (isTag_yes hl (.inl (by show s[k].toNat < 97; omega))).symm, rfl⟩
        by_cases h2 : 122 < (s[k].toNat : Int)
        · go_wp2
          go_ret
          exact ⟨ret_bool (isTag_yes hl (.inr (by show 122 < s[k].toNat; omega))).symm, rfl⟩
        · go_wp2
          go_round
          case rel => exact ⟨k + 1, by omega, by go_num, hg.step hl (by show 97 ≤ s[k].toNat; omega) (by show s[k].toNat ≤ 122; omega)⟩
          case measure => simp [intOf]; omega
      · go_wp2
        go_ret
        refine ⟨ret_bool ?_, rfl⟩
        rw [hg.all (by simp; omega)]
        have e : s.data.toList.length = s.size := by simp
        rw [e, H4.out]; rfl
  · have h4' : ((s.size : Int) != 4) = true := by simp; omega
    have H4 : Pl.isTag s.data.toList = false := by unfold Pl.isTag; rw [el]; simp [h4]
    have H4 := Lib.hid H4
    clear h4 el
    go_enter Try.func32, Try.ntmps32
    go_wp2
    go_ret
    exact ⟨ret_bool H4.out.symm, rfl⟩
end Go.Proofs.Ytidflgagcamdpaa
