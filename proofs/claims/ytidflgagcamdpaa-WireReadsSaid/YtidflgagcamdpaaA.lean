/- Contracts of the wire's scalar functions: number, more, Sum, isTag, check, and the document's high, Sum, Tag. -/
import Derived.Test.YtidflgagcamdpaaProg
import Derived.Test.YtidflgagcamdpaaPlain
import Derived.WalkKit
import Derived.WalkLawsBesides
import Derived.WalkSpells
import Derived.Lib.Hide
import Derived.Outline
namespace Go.Proofs.Ytidflgagcamdpaa
open Go.RowKit
theorem ret_int {k : IntKind} {a b : Int} (h : a = b) : Ending.returned (.int k a) = .returned (.int k b) := by rw [h]
theorem ret_bool {a b : Bool} (h : a = b) : Ending.returned (.bool a) = .returned (.bool b) := by rw [h]
theorem num_step (s : ByteArray) (k : Nat) (h : k < s.size) (h8 : s.size ≤ 8) :
    bits .or .u64 (Pl.leNum (s.data.toList.take k) : Nat) (IntKind.u64.wrap (IntKind.u64.wrap ↑s[k].toNat * 2 ^ (8 * k))) = ((Pl.leNum (s.data.toList.take (k + 1)) : Nat) : Int) := by
  have hb : s[k].toNat < 256 := s[k].toNat_lt
  have hl := Pl.leNum_lt (s.data.toList.take k)
  have hlen : (s.data.toList.take k).length = k := by simp; omega
  rw [hlen] at hl
  have hp : (256 : Nat) ^ k = 2 ^ (8 * k) := by rw [show (256 : Nat) = 2 ^ 8 from rfl, ← Nat.pow_mul]
  have hp8 : (2 : Nat) ^ (8 * k) ≤ 2 ^ 56 := Nat.pow_le_pow_right (by omega) (by omega)
  have hm : s[k].toNat * 2 ^ (8 * k) < 18446744073709551616 := by
    have : s[k].toNat * 2 ^ (8 * k) ≤ 255 * 2 ^ 56 := Nat.mul_le_mul (by omega) hp8
    omega
  have e1 : IntKind.u64.wrap ((s[k].toNat : Nat) : Int) = ((s[k].toNat : Nat) : Int) := by rw [IntKind.wrap_u64]; omega
  have e2 : ((s[k].toNat : Nat) : Int) * 2 ^ (8 * k) = ((s[k].toNat * 2 ^ (8 * k) : Nat) : Int) := by simp
  have e3 : IntKind.u64.wrap ((s[k].toNat * 2 ^ (8 * k) : Nat) : Int) = ((s[k].toNat * 2 ^ (8 * k) : Nat) : Int) := by rw [IntKind.wrap_u64]; omega
  rw [e1, e2, e3, u64_or_nat _ _ (by omega) hm, Nat.or_comm, nat_join (8 * k) _ _ (Nat.mul_mod_left _ _) (by omega)]
  rw [Pl.take_snoc _ k (by simpa using h), Pl.leNum_append, hlen, hp]
  simp only [Pl.leNum, Nat.mul_zero, Nat.add_zero]
  rw [Nat.add_comm, Nat.mul_comm]
  rfl
set_option maxHeartbeats 400000 in
theorem number_any (s : ByteArray) (w : World) (hs : s.size ≤ 8) :
    Calls Try.prog 33 #[.string s] w fun e w' => e = .returned (.int .u64 (Pl.leNum s.data.toList : Nat)) ∧ w = w' := by
  go_enter Try.func33, Try.ntmps33
  go_wp2
  go_loop [2, 6] (fun n i => ∃ k : Nat, k ≤ s.size ∧ i = .int .i64 k ∧ n = .int .u64 (Pl.leNum (s.data.toList.take k) : Nat)) (fun _ i => s.size - (intOf i).toNat)
  case atStart => exact ⟨0, Nat.zero_le _, rfl, rfl⟩
  case round =>
    obtain ⟨k, hk, rfl, rfl⟩ := hrel
    by_cases hlt : k < s.size
    · go_wp2
      go_round
      case rel => exact ⟨k + 1, by omega, by go_num, by rw [← num_step s k hlt hs]⟩
      case measure => simp [intOf]; omega
    · go_wp2
      go_ret
      exact ⟨ret_int (by rw [List.take_of_length_le (by simp; omega)]), rfl⟩
theorem crc_step (x : Nat) (hx : x < 4294967296) :
    bits BinOp.xor IntKind.u32 (↑x / 2) (3988292384 * bits BinOp.and IntKind.u32 (↑x) 1 % 4294967296) = ((Pl.crcBit x : Nat) : Int) := by
  have e1 : bits .and .u32 (x : Int) 1 = ((x % 2 : Nat) : Int) := by
    rw [show (1 : Int) = ((1 : Nat) : Int) from rfl, u32_and_nat x 1 hx (by omega), nat_mask1]
  rw [e1]
  have e2 : (3988292384 * ((x % 2 : Nat) : Int) % 4294967296) = ((3988292384 * (x % 2) : Nat) : Int) := by
    rcases Nat.mod_two_eq_zero_or_one x with e | e <;> rw [e] <;> rfl
  rw [e2, show ((x : Int) / 2) = ((x / 2 : Nat) : Int) from by omega, u32_xor_nat _ _ (by omega) (by rcases Nat.mod_two_eq_zero_or_one x with e | e <;> rw [e] <;> omega)]
  rfl
theorem crc_first (x : Nat) (b : UInt8) (hx : x < 4294967296) : bits BinOp.xor IntKind.u32 (↑x) (b.toNat : Int) = ((x ^^^ b.toNat : Nat) : Int) := by
  have hb : b.toNat < 256 := b.toNat_lt
  rw [u32_xor_nat _ _ hx (by omega)]
set_option maxHeartbeats 400000 in
theorem more_any (c : Nat) (s : ByteArray) (w : World) (hc : c < 4294967296) (hs : s.size ≤ maxLen) :
    Calls Try.prog 29 #[.int .u32 c, .string s] w fun e w' => e = .returned (.int .u32 (Pl.crc c s.data.toList : Nat)) ∧ w = w' := by
  unfold maxLen at hs
  go_enter Try.func29, Try.ntmps29
  go_wp2
  go_loop [0, 8] (fun n i => ∃ k : Nat, k ≤ s.size ∧ i = .int .i64 k ∧ n = .int .u32 (Pl.crc c (s.data.toList.take k) : Nat)) (fun _ i => s.size - (intOf i).toNat)
  case atStart => exact ⟨0, Nat.zero_le _, rfl, rfl⟩
  case round =>
    obtain ⟨k, hk, rfl, rfl⟩ := hrel
    have hcl := Pl.crc_lt (s.data.toList.take k) hc
    by_cases hlt : k < s.size
    · have HS := Lib.hid (Pl.crc_snoc c s.data.toList k (by simpa using hlt))
      have HF := Lib.hid (crc_first (Pl.crc c (s.data.toList.take k)) s[k] hcl)
      have hb : s[k].toNat < 256 := s[k].toNat_lt
      go_wp2
      go_loop [0, 17] (fun n i => ∃ (j : Nat), j ≤ 8 ∧ i = .int .i64 j ∧ n = .int .u32 (Pl.crcBits j (Pl.crc c (s.data.toList.take k) ^^^ s[k].toNat) : Nat)) (fun _ i => 8 - (intOf i).toNat)
      case atStart =>
        exact ⟨0, by omega, rfl, by rw [HF.out]; rfl⟩
      case round =>
        obtain ⟨j, hj, rfl, rfl⟩ := hrel
        have hx := Pl.crcBits_lt j (Pl.xor_lt32 hcl (show s[k].toNat < 4294967296 by omega))
        by_cases hj8 : j < 8
        · go_wp2
          go_round
          case rel => exact ⟨j + 1, by omega, by go_num, by rw [crc_step _ hx, Pl.crcBits_succ']⟩
          case measure => simp [intOf]; omega
        · obtain rfl : j = 8 := by omega
          go_wp2
          go_round
          case rel => exact ⟨k + 1, by omega, by go_num, by rw [HS.out]; rfl⟩
          case measure => simp [intOf]; omega
    · go_wp2
      go_ret
      exact ⟨ret_int (by rw [List.take_of_length_le (by simp; omega)]), rfl⟩
end Go.Proofs.Ytidflgagcamdpaa
