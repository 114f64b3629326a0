/- Plain functions and laws of the wire's bytes, sums and chunks: nothing of the program. -/
import Derived.Laws.BitsAllLaws
import Derived.Laws.Bits64
namespace Go.Proofs.Ytidflgagcamdpaa.Pl

def leNum : List UInt8 → Nat
  | [] => 0
  | b :: r => b.toNat + 256 * leNum r

def leBytes : Nat → Nat → List UInt8
  | 0, _ => []
  | k + 1, n => UInt8.ofNat n :: leBytes k (n / 256)

def crcBit (c : Nat) : Nat := (c / 2) ^^^ (3988292384 * (c % 2))
def crcBits : Nat → Nat → Nat
  | 0, c => c
  | k + 1, c => crcBits k (crcBit c)
def crcByte (c : Nat) (b : UInt8) : Nat := crcBits 8 (c ^^^ b.toNat)
def crc (c : Nat) (l : List UInt8) : Nat := l.foldl crcByte c

theorem leNum_lt : ∀ l : List UInt8, leNum l < 256 ^ l.length
  | [] => by simp [leNum]
  | b :: r => by
    have h := leNum_lt r
    have hb : b.toNat < 256 := b.toNat_lt
    simp only [leNum, List.length_cons, Nat.pow_succ]
    omega

theorem leNum_append : ∀ a b : List UInt8, leNum (a ++ b) = leNum a + 256 ^ a.length * leNum b
  | [], b => by simp [leNum]
  | x :: r, b => by
    have h := leNum_append r b
    simp only [List.cons_append, leNum, h, List.length_cons, Nat.pow_succ, Nat.mul_add]
    rw [← Nat.mul_assoc, Nat.mul_comm (256 ^ r.length) 256]; omega

theorem take_snoc (l : List UInt8) (k : Nat) (h : k < l.length) : l.take (k + 1) = l.take k ++ [l[k]] := by
  rw [List.take_succ_eq_append_getElem h]

theorem xor_lt32 {a b : Nat} (ha : a < 4294967296) (hb : b < 4294967296) : a ^^^ b < 4294967296 :=
  Nat.xor_lt_two_pow (n := 32) ha hb

theorem crcBit_lt {c : Nat} (h : c < 4294967296) : crcBit c < 4294967296 := by
  unfold crcBit
  rcases Nat.mod_two_eq_zero_or_one c with e | e <;> rw [e]
  · exact xor_lt32 (by omega) (by omega)
  · exact xor_lt32 (by omega) (by omega)
theorem crcBits_lt : ∀ (k : Nat) {c : Nat}, c < 4294967296 → crcBits k c < 4294967296
  | 0, _, h => h
  | k + 1, _, h => crcBits_lt k (crcBit_lt h)
theorem crcBits_succ' : ∀ (k c : Nat), crcBits (k + 1) c = crcBit (crcBits k c)
  | 0, _ => rfl
  | k + 1, c => crcBits_succ' k (crcBit c)
theorem crcByte_lt {c : Nat} (b : UInt8) (h : c < 4294967296) : crcByte c b < 4294967296 :=
  crcBits_lt 8 (xor_lt32 h (by have := b.toNat_lt; omega))
theorem crc_lt : ∀ (l : List UInt8) {c : Nat}, c < 4294967296 → crc c l < 4294967296
  | [], _, h => h
  | b :: r, _, h => crc_lt r (crcByte_lt b h)
theorem crc_append (c : Nat) (a b : List UInt8) : crc c (a ++ b) = crc (crc c a) b := by
  unfold crc; rw [List.foldl_append]
theorem crc_snoc (c : Nat) (l : List UInt8) (k : Nat) (h : k < l.length) : crc c (l.take (k + 1)) = crcByte (crc c (l.take k)) l[k] := by
  rw [take_snoc l k h, crc_append]; rfl

def isTag (l : List UInt8) : Bool := l.length == 4 && l.all (fun b => 97 ≤ b && b ≤ 122)
end Go.Proofs.Ytidflgagcamdpaa.Pl
