/- Plain laws of chunks: what is written is read back. -/
import Derived.Test.YtidflgagcamdpaaE
import Derived.Test.YtidflgagcamdpaaF
import Derived.Test.YtidflgagcamdpaaG
namespace Go.Proofs.Ytidflgagcamdpaa
open Go.RowKit Go.Lib
theorem leNum_leBytes : ∀ (k n : Nat), Pl.leNum (Pl.leBytes k n) = n % 256 ^ k
  | 0, n => by simp [Pl.leBytes, Pl.leNum, Nat.mod_one]
  | k + 1, n => by
    have h := leNum_leBytes k (n / 256)
    simp only [Pl.leBytes, Pl.leNum, h]
    rw [Nat.pow_succ, Nat.mul_comm (256 ^ k) 256, Nat.mod_mul]
    simp
theorem drop_at (a b : List UInt8) : (a ++ b).drop a.length = b := List.drop_left
theorem take_at (a b : List UInt8) {n : Nat} (h : n = a.length) : (a ++ b).take n = a := by rw [h]; exact List.take_left
theorem drop_at' (a b : List UInt8) {n : Nat} (h : n = a.length) : (a ++ b).drop n = b := by rw [h]; exact List.drop_left
theorem takeOf_back (b t : List UInt8) (n : Nat) (hn : n < 18446744073709551616) :
    takeOf (b ++ Pl.leBytes 8 n ++ t) (b.length : Nat) = (n, (b.length : Int) + 8, 0) := by
  unfold takeOf
  have hl : (b ++ Pl.leBytes 8 n ++ t).length = b.length + 8 + t.length := by simp [leBytes_len]; omega
  rw [if_neg (by rw [hl]; omega), if_neg (by rw [hl]; omega), Int.toNat_natCast, List.append_assoc, drop_at, take_at _ _ (by rw [leBytes_len]), leNum_leBytes, Nat.mod_eq_of_lt (by simpa using hn)]
theorem chunkOf_len (t c : List UInt8) (ht : t.length = 4) : (chunkOf t c).length = 12 + c.length := by
  simp [chunkOf, leBytes_len, ht]; omega
theorem isTag_len {t : List UInt8} (h : Pl.isTag t = true) : t.length = 4 := by
  unfold Pl.isTag at h; simp at h; exact h.1
theorem nextOf_back (b t c tl : List UInt8) (ht : Pl.isTag t = true) (hc : c.length ≤ 16777216) :
    nextOf (b ++ chunkOf t c ++ tl) (b.length : Nat) = (t, c, (b.length : Int) + (chunkOf t c).length, 0) := by
  have h4 := isTag_len ht
  have hcl := chunkOf_len t c h4
  have hD : (b ++ chunkOf t c ++ tl).drop b.length = t ++ (Pl.leBytes 4 c.length ++ (c ++ (Pl.leBytes 4 (sumOf (t ++ c)) ++ tl))) := by
    rw [List.append_assoc, drop_at]; simp [chunkOf]
  have hl : (b ++ chunkOf t c ++ tl).length = b.length + (12 + c.length) + tl.length := by rw [List.length_append, List.length_append, hcl]
  have e1 : (t ++ (Pl.leBytes 4 c.length ++ (c ++ (Pl.leBytes 4 (sumOf (t ++ c)) ++ tl)))).take 4 = t := take_at _ _ h4.symm
  have e2 : (t ++ (Pl.leBytes 4 c.length ++ (c ++ (Pl.leBytes 4 (sumOf (t ++ c)) ++ tl)))).drop 4 = Pl.leBytes 4 c.length ++ (c ++ (Pl.leBytes 4 (sumOf (t ++ c)) ++ tl)) := drop_at' _ _ h4.symm
  have e3 : (Pl.leBytes 4 c.length ++ (c ++ (Pl.leBytes 4 (sumOf (t ++ c)) ++ tl))).take 4 = Pl.leBytes 4 c.length := take_at _ _ (leBytes_len _ _).symm
  have e4 : Pl.leNum (Pl.leBytes 4 c.length) = c.length := by rw [leNum_leBytes, Nat.mod_eq_of_lt (by omega)]
  have e5 : (t ++ (Pl.leBytes 4 c.length ++ (c ++ (Pl.leBytes 4 (sumOf (t ++ c)) ++ tl)))).drop 8 = c ++ (Pl.leBytes 4 (sumOf (t ++ c)) ++ tl) := by
    rw [← List.append_assoc]; exact drop_at' _ _ (by simp [h4, leBytes_len])
  have e6 : (c ++ (Pl.leBytes 4 (sumOf (t ++ c)) ++ tl)).drop c.length = Pl.leBytes 4 (sumOf (t ++ c)) ++ tl := drop_at _ _
  have e7 : (Pl.leBytes 4 (sumOf (t ++ c)) ++ tl).take 4 = Pl.leBytes 4 (sumOf (t ++ c)) := take_at _ _ (leBytes_len _ _).symm
  have e8 : Pl.leNum (Pl.leBytes 4 (sumOf (t ++ c))) = sumOf (t ++ c) := by rw [leNum_leBytes, Nat.mod_eq_of_lt (by have := sumOf_lt (t ++ c); omega)]
  have e9 : (c ++ (Pl.leBytes 4 (sumOf (t ++ c)) ++ tl)).take c.length = c := take_at _ _ rfl
  unfold nextOf
  rw [if_neg (by rw [hl]; omega), Int.toNat_natCast, hD, e1, e2, e3, e4, e5, e6, e7, e8, e9]
  rw [if_neg (by simp [leBytes_len, h4]; omega), if_neg (by rw [ht]; decide), if_neg (by omega), if_neg (by simp [leBytes_len]), if_neg (by simp), hcl]
  congr 3
  omega
end Go.Proofs.Ytidflgagcamdpaa
