/- The document's marks: 'mark' is some text of its number. -/
import Derived.Test.YtidflgagcamdpaaHarm2
namespace Go.Proofs.Ytidflgagcamdpaa
open Go.RowKit Go.Lib
def markN : Nat → Nat → List UInt8
  | 0, _ => []
  | f + 1, n => (if 26 ≤ n then markN f (n / 26) else []) ++ [UInt8.ofNat (97 + n % 26)]
theorem markN_big (f n : Nat) (h : 26 ≤ n) : markN (f + 1) n = markN f (n / 26) ++ [UInt8.ofNat (97 + n % 26)] := by
  conv => lhs; unfold markN
  rw [if_pos h]
theorem markN_small (f n : Nat) (h : ¬ 26 ≤ n) : markN (f + 1) n = [UInt8.ofNat (97 + n % 26)] := by
  conv => lhs; unfold markN
  rw [if_neg h]; rfl
theorem markN_len : ∀ f n, (markN f n).length ≤ f
  | 0, _ => Nat.le_refl _
  | f + 1, n => by
    have h := markN_len f (n / 26)
    unfold markN
    split <;> simp
    omega
def markOf (z : Int) : List UInt8 := if z < 0 then 45 :: markN (z.natAbs + 1) z.natAbs else markN (z.toNat + 1) z.toNat
theorem one_string' (w : World) (x : Nat) (hx : x < 256) : (convert 40 9 (.slice (some ⟨w.heap.size, 0, none⟩) 1 1)).run Try.prog (w.alloc (.cells #[.int .u8 (x : Nat)] 5)) = .ok (.string (bs [UInt8.ofNat x])) (w.alloc (.cells #[.int .u8 (x : Nat)] 5)) := by
  have e : (x : Int) = ((UInt8.ofNat x).toNat : Nat) := by rw [UInt8.toNat_ofNat_of_lt' hx]
  have ho : Owns (w.alloc (.cells #[.int .u8 (x : Nat)] 5)) 0 5 1 (.slice (some ⟨w.heap.size, 0, none⟩) 1 1) 1 ([UInt8.ofNat x].map fun b => Value.int .u8 b.toNat) :=
    ⟨rfl, .inr ⟨w.heap.size, 1, _, (0, 0), rfl, Nat.zero_le _, heap_alloc_new w _, .inl (Nat.le_refl _), Nat.le_refl _, by decide, rfl, by rw [e]; rfl⟩⟩
  exact run_string_of_owns 40 9 Try.underlying40 Try.underlying5 Try.underlying9 ho
set_option maxHeartbeats 400000 in
theorem markN_any : ∀ (f n : Nat) (w : World), n < f → f ≤ 1099511627776 →
    Calls Try.prog 44 #[.int .i64 n] w fun e w' => e = .returned (.string (bs (markN f n))) ∧ Below w.heap.size w w'
  | 0, n, w, h, _ => by omega
  | f + 1, n, w, h, hf => by
    have ih := Lib.hid (markN_any f)
    have hc := one_string' w (97 + n % 26) (by omega)
    have hm : ((97 + n % 26 : Nat) : Int) = 97 + (n : Int) % 26 := by omega
    rw [hm] at hc
    have hm2 : (97 + (n : Int) % 26) % 256 = 97 + (n : Int) % 26 := by omega
    by_cases h26 : 26 ≤ n
    · have HF := Lib.hid (markN_big f n h26)
      have hl := markN_len f (n / 26)
      have hsum : (bs (markN f (n / 26))).size + (bs [UInt8.ofNat (97 + n % 26)]).size ≤ 9223372036854775807 := by rw [bs_size, bs_size]; simp; omega
      generalize UInt8.ofNat (97 + n % 26) = u at hc HF hsum
      clear hm
      go_enter Try.func44, Try.ntmps44
      go_wp2_with fail
      rw [show ((n : Int) / 26) = ((n / 26 : Nat) : Int) by omega]
      refine (ih.out (n / 26) _ (by omega) (by omega)).mono ?_
      rintro e w1 ⟨rfl, b1⟩
      have HB := Lib.hid (show Below w.heap.size w w1 from ((Below.refl _ _).alloc (Nat.le_refl _) _).trans (b1.mono (by simp)))
      clear b1
      go_wp2_with fail
      go_ret
      exact ⟨by rw [HF.out, bs_app]; rfl, HB.out⟩
    · have HF := Lib.hid (markN_small f n h26)
      generalize UInt8.ofNat (97 + n % 26) = u at hc HF
      clear hm
      go_enter Try.func44, Try.ntmps44
      go_wp2_with fail
      go_ret
      exact ⟨by rw [HF.out]; rfl, (Below.refl _ _).alloc (Nat.le_refl _) _⟩
theorem mark_any (z : Int) (w : World) (h0 : -549755813888 ≤ z) (h1 : z ≤ 549755813888) :
    Calls Try.prog 44 #[.int .i64 z] w fun e w' => e = .returned (.string (bs (markOf z))) ∧ Below w.heap.size w w' := by
  by_cases hz : z < 0
  · have HF := Lib.hid (show markOf z = [45] ++ markN (z.natAbs + 1) z.natAbs by unfold markOf; rw [if_pos hz]; rfl)
    have hl := markN_len (z.natAbs + 1) z.natAbs
    have hsum : (⟨#[45]⟩ : ByteArray).size + (bs (markN (z.natAbs + 1) z.natAbs)).size ≤ 9223372036854775807 := by
      rw [bs_size, show (⟨#[45]⟩ : ByteArray).size = 1 from rfl]; omega
    go_enter Try.func44, Try.ntmps44
    go_wp2_with fail
    rw [show -z = ((z.natAbs : Nat) : Int) by omega]
    refine (markN_any (z.natAbs + 1) z.natAbs _ (by omega) (by omega)).mono ?_
    rintro e w1 ⟨rfl, b1⟩
    go_wp2_with fail
    go_ret
    exact ⟨by rw [HF.out, bs_app]; rfl, b1⟩
  · obtain ⟨n, rfl⟩ := Int.eq_ofNat_of_zero_le (show 0 ≤ z by omega)
    refine (markN_any (n + 1) n w (by omega) (by omega)).mono ?_
    rintro e w1 ⟨rfl, b1⟩
    exact ⟨by unfold markOf; rw [if_neg hz]; rfl, b1⟩
end Go.Proofs.Ytidflgagcamdpaa
