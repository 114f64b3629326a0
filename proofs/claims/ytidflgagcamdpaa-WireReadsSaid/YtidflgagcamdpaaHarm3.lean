/- WireHarm returns true, third part: the same from a place below nought. -/
import Derived.Test.YtidflgagcamdpaaHarm2
namespace Go.Proofs.Ytidflgagcamdpaa
open Go.RowKit Go.Lib
set_option maxRecDepth 100000 in
set_option maxHeartbeats 2000000 in
theorem harm_good2 (t c : ByteArray) (at_ : Int) (m k0 y : Nat) (w : World) (h0 : c.size ≤ 16777216) (ht : Pl.isTag t.data.toList = true) (hy0 : 1 ≤ y) (hy : y < 256) (_hm : m ≤ 9223372036854775807)
    (hk : m % (c.size + 8) = k0) (hat : at_ < 0) (hlo : -9223372036854775808 ≤ at_) (hneg : -(at_ + 1) = (m : Int)) :
    Calls Try.prog 5 #[.string t, .string c, .int .i64 at_, .int .u8 y] w (Yes w) := by
  have lc : c.data.toList.length = c.size := by simp
  have hts : t.size = 4 := tagSize ht
  have HT : Hid (chunkText t.data.toList c.data.toList = chunkOf t.data.toList c.data.toList) := by
    unfold Hid chunkText; rw [lc]; rw [if_pos ht, if_neg (by omega)]
  have HE : Hid (chunkErr t.data.toList c.data.toList = 0) := by
    unfold Hid chunkErr; rw [lc]; rw [if_pos ht, if_neg (by omega)]
  have HC := Lib.hid (chunkOf_len t.data.toList c.data.toList (isTag_len ht))
  have hy' : (((y : Nat) : Int) == 0) = false := by simp; omega
  have hmod : (m : Int) % ((c.size : Int) + 8) = (k0 : Int) := by subst hk; simp
  have hk0 : k0 < c.size + 8 := by rw [← hk]; exact Nat.mod_lt _ (by omega)
  have hts4 : t.size ≤ 4 := by omega
  have HTG := Lib.hid ht
  have HL := Lib.hid lc
  clear lc hk ht hts
  go_enter Try.func5, Try.ntmps5
  go_wp2_with fail
  refine (works_any _).mono ?_
  rintro e w1 ⟨rfl, b1⟩
  have B1 := Lib.hid b1
  clear b1
  go_wp2_with fail
  refine (chunk_any t c _ (by unfold maxLen; omega) (by omega)).mono ?_
  rintro e w2 ⟨rfl, b2⟩
  have B2 := Lib.hid (B1.out.trans (b2.mono B1.out.size))
  clear b2
  rw [HT.out, HE.out]
  have hcs : (bs (chunkOf t.data.toList c.data.toList)).size = 12 + c.size := by rw [bs_size, HC.out, HL.out]
  have hcl : (bs (chunkOf t.data.toList c.data.toList)).data.toList = chunkOf t.data.toList c.data.toList := bs_list _
  generalize bs (chunkOf t.data.toList c.data.toList) = C at hcs hcl ⊢
  have HCL := Lib.hid hcl
  clear hcl
  by_cases k4 : k0 < 4
  · have hkC : k0 < C.size := by omega
    have hX : bits BinOp.xor IntKind.u8 (C[k0].toNat : Int) (y : Int) = ((C[k0] ^^^ UInt8.ofNat y).toNat : Nat) := xor_u8 _ y hy
    have HNE := Lib.hid (xor_ne C[k0] y hy0 hy)
    have hXl : (C[k0] ^^^ UInt8.ofNat y).toNat < 256 := UInt8.toNat_lt _
    generalize C[k0] ^^^ UInt8.ofNat y = X at hX HNE hXl
    by_cases x1 : (X.toNat : Int) < 97
    · go_wp2_with fail
      go_ret
      exact ⟨rfl, B2.out⟩
    by_cases x2 : 122 < (X.toNat : Int)
    · go_wp2_with fail
      go_ret
      exact ⟨rfl, B2.out⟩
    go_wp2_with fail
    have hcv := one_string w2 X
    have x1' : IntKind.i64.wrap ((k0 : Int) + 1) = (k0 : Int) + 1 := IntWalk.i64_in _ (by omega)
    have x3' : ((k0 : Int) + 1).toNat = k0 + 1 := by omega
    have f1 : min k0 (12 + c.size) = k0 := by omega
    have f2 : ¬ (9223372036854775807 < k0 + 1) := by omega
    have f3 : ¬ (9223372036854775807 < k0 + 1 + (12 + c.size - (k0 + 1))) := by omega
    have f4 : (k0 : Int) ≤ 12 + (c.size : Int) := by omega
    have f5 : (0 : Int) ≤ (k0 : Int) + 1 ∧ (k0 : Int) + 1 ≤ 12 + (c.size : Int) := by omega
    have hNX := next_harm t c C k0 X HTG.out h0 hcs HCL.out (.inl k4) hkC HNE.out (fun _ => ⟨by omega, by omega⟩)
    go_region_with (go_at_call 18; refine (hNX _).mono ?_; rintro e w3 ⟨rfl, b3⟩)
    clear hNX
    have B3 := Lib.hid (show Below w.heap.size w w3 from B2.out.trans ((((Below.refl w2.heap.size w2).alloc (Nat.le_refl _) _).drew.trans (b3.mono (by simp))).mono B2.out.size))
    clear b3
    go_wp2_with fail
    go_ret
    exact ⟨rfl, B3.out⟩
  · have hkC : k0 + 4 < C.size := by omega
    have hX : bits BinOp.xor IntKind.u8 (C[k0 + 4].toNat : Int) (y : Int) = ((C[k0 + 4] ^^^ UInt8.ofNat y).toNat : Nat) := xor_u8 _ y hy
    have HNE := Lib.hid (xor_ne C[k0 + 4] y hy0 hy)
    have hXl : (C[k0 + 4] ^^^ UInt8.ofNat y).toNat < 256 := UInt8.toNat_lt _
    generalize C[k0 + 4] ^^^ UInt8.ofNat y = X at hX HNE hXl
    go_wp2_with fail
    have hcv := one_string w2 X
    have x1' : IntKind.i64.wrap ((k0 : Int) + 4 + 1) = (k0 : Int) + 4 + 1 := IntWalk.i64_in _ (by omega)
    have x3' : ((k0 : Int) + 4 + 1).toNat = k0 + 4 + 1 := by omega
    have x4' : ((k0 : Int) + 4).toNat = k0 + 4 := by omega
    have f1 : min (k0 + 4) (12 + c.size) = k0 + 4 := by omega
    have f2 : ¬ (9223372036854775807 < k0 + 4 + 1) := by omega
    have f3 : ¬ (9223372036854775807 < k0 + 4 + 1 + (12 + c.size - (k0 + 4 + 1))) := by omega
    have f4 : (k0 : Int) + 4 ≤ 12 + (c.size : Int) := by omega
    have f5 : (0 : Int) ≤ (k0 : Int) + 4 + 1 ∧ (k0 : Int) + 4 + 1 ≤ 12 + (c.size : Int) := by omega
    have f6 : (0 : Int) ≤ (k0 : Int) + 4 := by omega
    have hNX := next_harm t c C (k0 + 4) X HTG.out h0 hcs HCL.out (.inr (by omega)) hkC HNE.out (fun h => by omega)
    go_region_with (go_at_call 18; refine (hNX _).mono ?_; rintro e w3 ⟨rfl, b3⟩)
    clear hNX
    have B3 := Lib.hid (show Below w.heap.size w w3 from B2.out.trans ((((Below.refl w2.heap.size w2).alloc (Nat.le_refl _) _).drew.trans (b3.mono (by simp))).mono B2.out.size))
    clear b3
    go_wp2_with fail
    go_ret
    exact ⟨rfl, B3.out⟩
theorem wf_i64 {a : Int} (h : (Lit.int .i64 a).wf = true) : -9223372036854775808 ≤ a ∧ a ≤ 9223372036854775807 := by
  simp [Lit.wf, IntKind.min, IntKind.max, IntKind.bits, IntKind.signed] at h; omega
theorem wf_u8 {a : Int} (h : (Lit.int .u8 a).wf = true) : 0 ≤ a ∧ a < 256 := by
  simp [Lit.wf, IntKind.min, IntKind.max, IntKind.bits, IntKind.signed] at h; omega
theorem wireHarm_walk (a0 : ByteArray) (a1 : ByteArray) (a2 : Int) (a3 : Int) (w0 : a0.size ≤ maxLen) (w1 : a1.size ≤ maxLen) (w2 : (Lit.int .i64 a2).wf = true) (w3 : (Lit.int .u8 a3).wf = true) (w : World) :
    Calls Try.prog 5 #[.string a0, .string a1, .int .i64 a2, .int .u8 a3] w fun e w' => e = .returned (.bool true) ∧ Below w.heap.size w w' := by
  obtain ⟨h1, h2⟩ := wf_i64 w2
  obtain ⟨h3, h4⟩ := wf_u8 w3
  have _u0 := w0
  have _u1 := w1
  by_cases hf : 33554431 < a1.size ∨ 33554431 < a0.size ∨ a3 = 0
  · exact harm_far a0 a1 a2 a3 w hf
  by_cases hb : Pl.isTag a0.data.toList = false ∨ 16777216 < a1.size
  · exact harm_bad a0 a1 a2 a3 w (by omega) (by omega) (by simp; omega) hb
  obtain ⟨y, rfl⟩ := Int.eq_ofNat_of_zero_le h3
  have ht : Pl.isTag a0.data.toList = true := by
    cases h : Pl.isTag a0.data.toList
    · exact absurd (.inl h) hb
    · rfl
  by_cases hn : a2 < 0
  · obtain ⟨m, hm⟩ := Int.eq_ofNat_of_zero_le (show 0 ≤ -(a2 + 1) by omega)
    exact harm_good2 a0 a1 a2 m _ y w (by omega) ht (by omega) (by omega) (by omega) rfl hn h1 hm
  · obtain ⟨m, rfl⟩ := Int.eq_ofNat_of_zero_le (show 0 ≤ a2 by omega)
    exact harm_good a0 a1 m _ y w (by omega) ht (by omega) (by omega) (by omega) rfl
end Go.Proofs.Ytidflgagcamdpaa
