/- Plain laws: a chunk one byte of whose tag, content or sum was changed is refused by its sum. -/
import Derived.Test.YtidflgagcamdpaaL
namespace Go.Proofs.Ytidflgagcamdpaa
open Go.RowKit Go.Lib
theorem xor_rc {a b c : Nat} (h : a ^^^ c = b ^^^ c) : a = b := by
  have := congrArg (· ^^^ c) h
  simpa [Nat.xor_assoc] using this
theorem xor_lc {a b c : Nat} (h : c ^^^ a = c ^^^ b) : a = b := xor_rc (c := c) (by rw [Nat.xor_comm a, Nat.xor_comm b]; exact h)
theorem crcBit_top (x : Nat) (h : x < 4294967296) : (Pl.crcBit x).testBit 31 = (x % 2 == 1) := by
  unfold Pl.crcBit
  rw [Nat.testBit_xor]
  have h1 : (x / 2).testBit 31 = false := Nat.testBit_lt_two_pow (by omega)
  rw [h1]
  rcases Nat.mod_two_eq_zero_or_one x with e | e <;> rw [e] <;> decide
theorem crcBit_inj {x y : Nat} (hx : x < 4294967296) (hy : y < 4294967296) (h : Pl.crcBit x = Pl.crcBit y) : x = y := by
  have h1 : x % 2 = y % 2 := by
    have a := crcBit_top x hx
    have b := crcBit_top y hy
    rw [h, b] at a
    rcases Nat.mod_two_eq_zero_or_one x with e | e <;> rcases Nat.mod_two_eq_zero_or_one y with f | f <;> simp [e, f] at a ⊢
  have h2 : x / 2 = y / 2 := by
    unfold Pl.crcBit at h
    rw [h1] at h
    exact xor_rc h
  omega
theorem crcBits_inj : ∀ (k : Nat) {x y : Nat}, x < 4294967296 → y < 4294967296 → Pl.crcBits k x = Pl.crcBits k y → x = y
  | 0, _, _, _, _, h => h
  | k + 1, _, _, hx, hy, h => crcBit_inj hx hy (crcBits_inj k (Pl.crcBit_lt hx) (Pl.crcBit_lt hy) h)
theorem crcByte_inj {x y : Nat} (b : UInt8) (hx : x < 4294967296) (hy : y < 4294967296) (h : Pl.crcByte x b = Pl.crcByte y b) : x = y := by
  have hb : b.toNat < 4294967296 := by have := b.toNat_lt; omega
  have := crcBits_inj 8 (Pl.xor_lt32 hx hb) (Pl.xor_lt32 hy hb) h
  exact xor_rc this
theorem crcByte_inj2 {x : Nat} {b c : UInt8} (hx : x < 4294967296) (h : Pl.crcByte x b = Pl.crcByte x c) : b = c := by
  have hb : b.toNat < 4294967296 := by have := b.toNat_lt; omega
  have hc : c.toNat < 4294967296 := by have := c.toNat_lt; omega
  have := crcBits_inj 8 (Pl.xor_lt32 hx hb) (Pl.xor_lt32 hx hc) h
  exact UInt8.toNat_inj.1 (xor_lc this)
theorem crc_inj : ∀ (l : List UInt8) {x y : Nat}, x < 4294967296 → y < 4294967296 → Pl.crc x l = Pl.crc y l → x = y
  | [], _, _, _, _, h => h
  | b :: r, _, _, hx, hy, h => crcByte_inj b hx hy (crc_inj r (Pl.crcByte_lt b hx) (Pl.crcByte_lt b hy) h)
theorem crc_one (p q : List UInt8) (b c : UInt8) (hne : b ≠ c) : Pl.crc 4294967295 (p ++ b :: q) ≠ Pl.crc 4294967295 (p ++ c :: q) := by
  intro h
  rw [Pl.crc_append, Pl.crc_append] at h
  have hp := Pl.crc_lt p (show 4294967295 < 4294967296 by omega)
  have := crc_inj q (Pl.crcByte_lt b hp) (Pl.crcByte_lt c hp) h
  exact hne (crcByte_inj2 hp this)
theorem sumOf_one (p q : List UInt8) (b c : UInt8) (hne : b ≠ c) : sumOf (p ++ b :: q) ≠ sumOf (p ++ c :: q) := by
  have h := crc_one p q b c hne
  have h1 := Pl.crc_lt (p ++ b :: q) (show 4294967295 < 4294967296 by omega)
  have h2 := Pl.crc_lt (p ++ c :: q) (show 4294967295 < 4294967296 by omega)
  unfold sumOf; omega
theorem set_split : ∀ (l : List UInt8) (k : Nat) (x : UInt8) (h : k < l.length), ∃ p q, l = p ++ l[k] :: q ∧ l.set k x = p ++ x :: q ∧ p.length = k
  | a :: r, 0, x, _ => ⟨[], r, rfl, rfl, rfl⟩
  | a :: r, k + 1, x, h => by
    obtain ⟨p, q, h1, h2, h3⟩ := set_split r k x (by simpa using h)
    refine ⟨a :: p, q, ?_, ?_, by simp [h3]⟩
    · simp only [List.getElem_cons_succ, List.cons_append]; congr 1
    · simp [h2]
theorem leNum_inj : ∀ (a b : List UInt8), a.length = b.length → Pl.leNum a = Pl.leNum b → a = b
  | [], [], _, _ => rfl
  | x :: r, y :: s, hl, h => by
    have hx := x.toNat_lt
    have hy := y.toNat_lt
    simp only [Pl.leNum] at h
    have e : x = y := UInt8.toNat_inj.1 (by omega)
    have := leNum_inj r s (by simpa using hl) (by omega)
    rw [e, this]
theorem nextOf_harm (t c sb : List UInt8) (ht : Pl.isTag t = true) (hc : c.length ≤ 16777216) (hs : sb.length = 4) (hne : Pl.leNum sb ≠ sumOf (t ++ c)) :
    nextOf (t ++ (Pl.leBytes 4 c.length ++ (c ++ sb))) 0 = ([], [], 0, 22) := by
  have h4 := isTag_len ht
  have e1 : (t ++ (Pl.leBytes 4 c.length ++ (c ++ sb))).take 4 = t := take_at _ _ h4.symm
  have e2 : (t ++ (Pl.leBytes 4 c.length ++ (c ++ sb))).drop 4 = Pl.leBytes 4 c.length ++ (c ++ sb) := drop_at' _ _ h4.symm
  have e3 : (Pl.leBytes 4 c.length ++ (c ++ sb)).take 4 = Pl.leBytes 4 c.length := take_at _ _ (leBytes_len _ _).symm
  have e4 : Pl.leNum (Pl.leBytes 4 c.length) = c.length := by rw [leNum_leBytes, Nat.mod_eq_of_lt (by omega)]
  have e5 : (t ++ (Pl.leBytes 4 c.length ++ (c ++ sb))).drop 8 = c ++ sb := by
    rw [← List.append_assoc]; exact drop_at' _ _ (by simp [h4, leBytes_len])
  have e6 : (c ++ sb).drop c.length = sb := drop_at _ _
  have e7 : sb.take 4 = sb := List.take_of_length_le (by omega)
  have e9 : (c ++ sb).take c.length = c := take_at _ _ rfl
  unfold nextOf
  rw [if_neg (by omega), show (0 : Int).toNat = 0 from rfl, List.drop_zero, e1, e2, e3, e4, e5, e6, e7, e9]
  rw [if_neg (by simp [leBytes_len, h4]; omega), if_neg (by rw [ht]; decide), if_neg (by omega), if_neg (by simp [hs]), if_pos hne]
theorem isTag_set (t : List UInt8) (k : Nat) (x : UInt8) (h : Pl.isTag t = true) (h1 : 97 ≤ x.toNat) (h2 : x.toNat ≤ 122) : Pl.isTag (t.set k x) = true := by
  unfold Pl.isTag at h ⊢
  simp only [Bool.and_eq_true, beq_iff_eq, List.length_set, List.all_eq_true] at h ⊢
  refine ⟨h.1, fun b hb => ?_⟩
  rcases List.mem_or_eq_of_mem_set hb with hb | rfl
  · exact h.2 b hb
  · simp [UInt8.le_iff_toNat_le]; omega
/-- The law. -/
theorem harm (t c : List UInt8) (ht : Pl.isTag t = true) (hc : c.length ≤ 16777216) (k : Nat) (x : UInt8) (hk : k < 4 ∨ 8 ≤ k) (hl : k < (chunkOf t c).length) (hx : x ≠ (chunkOf t c)[k]) (hr : k < 4 → 97 ≤ x.toNat ∧ x.toNat ≤ 122) :
    nextOf ((chunkOf t c).set k x) 0 = ([], [], 0, 22) := by
  have h4 := isTag_len ht
  have hcl := chunkOf_len t c h4
  have hsl := leBytes_len 4 (sumOf (t ++ c))
  have e8 : Pl.leNum (Pl.leBytes 4 (sumOf (t ++ c))) = sumOf (t ++ c) := by rw [leNum_leBytes, Nat.mod_eq_of_lt (by have := sumOf_lt (t ++ c); omega)]
  by_cases k4 : k < 4
  · have e : (chunkOf t c).set k x = t.set k x ++ (Pl.leBytes 4 c.length ++ (c ++ Pl.leBytes 4 (sumOf (t ++ c)))) := by
      unfold chunkOf; rw [List.set_append_left _ _ (by omega)]
    rw [e]
    refine nextOf_harm _ _ _ (isTag_set t k x ht (hr k4).1 (hr k4).2) hc hsl ?_
    rw [e8]
    obtain ⟨p, q, h1, h2, h3⟩ := set_split t k x (by omega)
    have hv : (chunkOf t c)[k] = t[k] := by simp only [chunkOf]; rw [List.getElem_append_left]
    rw [h2]
    have := sumOf_one p (q ++ c) t[k] x (by rw [← hv]; exact Ne.symm hx)
    rw [show p ++ x :: q ++ c = p ++ x :: (q ++ c) by simp]
    intro hh
    apply this
    rw [← hh]
    conv => rhs; rw [h1]
    simp
  · have k8 : 8 ≤ k := by omega
    have hpre : (t ++ Pl.leBytes 4 c.length).length = 8 := by simp [h4, leBytes_len]
    by_cases kc : k < 8 + c.length
    · have e : (chunkOf t c).set k x = t ++ (Pl.leBytes 4 (c.set (k - 8) x).length ++ (c.set (k - 8) x ++ Pl.leBytes 4 (sumOf (t ++ c)))) := by
        unfold chunkOf
        rw [List.length_set, ← List.append_assoc, List.set_append_right _ _ (by omega), hpre, List.set_append_left _ _ (by omega), List.append_assoc]
      rw [e]
      refine nextOf_harm _ _ _ ht (by simpa using hc) hsl ?_
      rw [e8]
      obtain ⟨p, q, h1, h2, h3⟩ := set_split c (k - 8) x (by omega)
      have hv : (chunkOf t c)[k] = c[k - 8] := by
        simp only [chunkOf, ← List.append_assoc]
        rw [List.getElem_append_left (by simp [h4, leBytes_len]; omega), List.getElem_append_right (by omega)]
        simp only [hpre]
      rw [h2]
      have := sumOf_one (t ++ p) q c[k - 8] x (by rw [← hv]; exact Ne.symm hx)
      intro hh
      apply this
      rw [show t ++ p ++ x :: q = t ++ (p ++ x :: q) by simp, ← hh]
      conv => rhs; rw [h1]
      simp
    · have e : (chunkOf t c).set k x = t ++ (Pl.leBytes 4 c.length ++ (c ++ (Pl.leBytes 4 (sumOf (t ++ c))).set (k - 8 - c.length) x)) := by
        unfold chunkOf
        rw [← List.append_assoc, List.set_append_right _ _ (by omega), hpre, List.set_append_right _ _ (by omega), List.append_assoc]
      rw [e]
      refine nextOf_harm _ _ _ ht hc (by simpa using hsl) ?_
      intro hh
      have := leNum_inj _ _ (by simp) (hh.trans e8.symm)
      have hv : (chunkOf t c)[k] = (Pl.leBytes 4 (sumOf (t ++ c)))[k - 8 - c.length]'(by omega) := by
        simp only [chunkOf, ← List.append_assoc]
        rw [List.getElem_append_right (by simp [h4, leBytes_len]; omega)]
        congr 1
        simp [h4, leBytes_len]; omega
      apply hx
      rw [hv]
      have h5 : ((Pl.leBytes 4 (sumOf (t ++ c))).set (k - 8 - c.length) x)[k - 8 - c.length]'(by simp; omega) = x := by simp
      rw [← h5]
      exact List.getElem_of_eq this _
end Go.Proofs.Ytidflgagcamdpaa
