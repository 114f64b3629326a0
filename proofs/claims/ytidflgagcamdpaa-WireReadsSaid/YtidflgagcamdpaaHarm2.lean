/- WireHarm returns true, second part: the way on which a chunk is made and changed. -/
import Derived.Test.YtidflgagcamdpaaHarm
namespace Go.Proofs.Ytidflgagcamdpaa
open Go.RowKit Go.Lib
def placeOf (k0 : Nat) : Nat := if k0 < 4 then k0 else k0 + 4
theorem one_string (w : World) (X : UInt8) : (convert 40 9 (.slice (some ⟨w.heap.size, 0, none⟩) 1 1)).run Try.prog (w.alloc (.cells #[.int .u8 X.toNat] 5)).drew = .ok (.string ⟨#[X]⟩) (w.alloc (.cells #[.int .u8 X.toNat] 5)).drew := by
  have ho : Owns (w.alloc (.cells #[.int .u8 X.toNat] 5)).drew 0 5 1 (.slice (some ⟨w.heap.size, 0, none⟩) 1 1) 1 ([X].map fun b => Value.int .u8 b.toNat) :=
    ⟨rfl, .inr ⟨w.heap.size, 1, _, (0, 0), rfl, Nat.zero_le _, heap_alloc_new w _, .inl (Nat.le_refl _), Nat.le_refl _, by decide, rfl, rfl⟩⟩
  exact run_string_of_owns 40 9 Try.underlying40 Try.underlying5 Try.underlying9 ho
theorem xor_u8 (b : UInt8) (y : Nat) (hy : y < 256) : bits BinOp.xor IntKind.u8 (b.toNat : Int) (y : Int) = ((b ^^^ UInt8.ofNat y).toNat : Nat) := by
  rw [u8_xor_nat _ _ b.toNat_lt hy, UInt8.toNat_xor, UInt8.toNat_ofNat_of_lt' hy]
theorem xor_ne (b : UInt8) (y : Nat) (h1 : 1 ≤ y) (hy : y < 256) : (b ^^^ UInt8.ofNat y) ≠ b := by
  intro h
  have := congrArg UInt8.toNat h
  rw [UInt8.toNat_xor, UInt8.toNat_ofNat_of_lt' hy] at this
  have h2 : b.toNat ^^^ y = b.toNat ^^^ 0 := by rw [this]; simp
  have := xor_lc h2
  omega
theorem set_cat (l : List UInt8) (k : Nat) (x : UInt8) (h : k < l.length) : l.take k ++ [x] ++ l.drop (k + 1) = l.set k x := by
  rw [List.set_eq_take_append_cons_drop, if_pos h]; simp
theorem next_harm (t c C : ByteArray) (k : Nat) (X : UInt8) (ht : Pl.isTag t.data.toList = true) (hc : c.size ≤ 16777216) (hcs : C.size = 12 + c.size) (hcl : C.data.toList = chunkOf t.data.toList c.data.toList)
    (hk : k < 4 ∨ 8 ≤ k) (hkC : k < C.size) (hne : X ≠ C[k]) (hr : k < 4 → 97 ≤ X.toNat ∧ X.toNat ≤ 122) (w : World) :
    Calls Try.prog 18 #[.string (C.extract 0 k ++ ⟨#[X]⟩ ++ C.extract (k + 1) (12 + c.size)), .int .i64 0] w fun e w' => e = .returned (.tuple #[.string ⟨#[]⟩, .string ⟨#[]⟩, .int .i64 0, .int .i64 22]) ∧ Below w.heap.size w w' := by
  have hll : (chunkOf t.data.toList c.data.toList).length = C.size := by rw [← hcl]; simp
  have e : (C.extract 0 k ++ ⟨#[X]⟩ ++ C.extract (k + 1) (12 + c.size)).data.toList = (chunkOf t.data.toList c.data.toList).set k X := by
    rw [list_app, list_app, ext_list, ext_list, hcl, ← set_cat _ _ _ (by omega)]
    rw [List.drop_zero, Nat.sub_zero, List.take_of_length_le (l := List.drop (k + 1) _)]
    rw [List.length_drop, hll]; omega
  refine (next_any _ _ w ?_ (by omega) (by omega)).mono ?_
  · have : (C.extract 0 k ++ ⟨#[X]⟩ ++ C.extract (k + 1) (12 + c.size)).size = (C.extract 0 k ++ ⟨#[X]⟩ ++ C.extract (k + 1) (12 + c.size)).data.toList.length := (Array.length_toList).symm
    rw [this, e, List.length_set, hll]; omega
  · rintro en w' ⟨rfl, hb⟩
    refine ⟨?_, hb⟩
    rw [e, harm _ _ ht (by simpa using hc) k X hk (by omega) ?_ hr]
    · rfl
    · intro h
      apply hne
      rw [h]
      have : C[k] = C.data.toList[k]'(by simpa using hkC) := rfl
      rw [this]
      exact (List.getElem_of_eq hcl _).symm
set_option maxRecDepth 100000 in
set_option maxHeartbeats 2000000 in
theorem harm_good (t c : ByteArray) (m k0 y : Nat) (w : World) (h0 : c.size ≤ 16777216) (ht : Pl.isTag t.data.toList = true) (hy0 : 1 ≤ y) (hy : y < 256) (hm : m ≤ 9223372036854775807)
    (hk : m % (c.size + 8) = k0) :
    Calls Try.prog 5 #[.string t, .string c, .int .i64 m, .int .u8 y] w (Yes w) := by
  have lc : c.data.toList.length = c.size := by simp
  have hts : t.size = 4 := tagSize ht
  have HT : Hid (chunkText t.data.toList c.data.toList = chunkOf t.data.toList c.data.toList) := by
    unfold Hid chunkText; rw [lc]; rw [if_pos ht, if_neg (by omega)]
  have HE : Hid (chunkErr t.data.toList c.data.toList = 0) := by
    unfold Hid chunkErr; rw [lc]; rw [if_pos ht, if_neg (by omega)]
  have HC := Lib.hid (chunkOf_len t.data.toList c.data.toList (isTag_len ht))
  have hy' : (((y : Nat) : Int) == 0) = false := by simp; omega
  have hmod : (m : Int) % ((c.size : Int) + 8) = (k0 : Int) := by subst hk; simp
  have hk0 : k0 < c.size + 8 := by rw [← hk]; exact Nat.mod_lt _ (by omega)
  have hts4 : t.size ≤ 4 := by omega
  have HTG := Lib.hid ht
  have HL := Lib.hid lc
  clear lc hk ht hts
  go_enter Try.func5, Try.ntmps5
  go_wp2_with fail
  refine (works_any _).mono ?_
  rintro e w1 ⟨rfl, b1⟩
  have B1 := Lib.hid b1
  clear b1
  go_wp2_with fail
  refine (chunk_any t c _ (by unfold maxLen; omega) (by omega)).mono ?_
  rintro e w2 ⟨rfl, b2⟩
  have B2 := Lib.hid (B1.out.trans (b2.mono B1.out.size))
  clear b2
  rw [HT.out, HE.out]
  have hcs : (bs (chunkOf t.data.toList c.data.toList)).size = 12 + c.size := by rw [bs_size, HC.out, HL.out]
  have hcl : (bs (chunkOf t.data.toList c.data.toList)).data.toList = chunkOf t.data.toList c.data.toList := bs_list _
  generalize bs (chunkOf t.data.toList c.data.toList) = C at hcs hcl ⊢
  have HCL := Lib.hid hcl
  clear hcl
  by_cases k4 : k0 < 4
  · have hkC : k0 < C.size := by omega
    have hX : bits BinOp.xor IntKind.u8 (C[k0].toNat : Int) (y : Int) = ((C[k0] ^^^ UInt8.ofNat y).toNat : Nat) := xor_u8 _ y hy
    have HNE := Lib.hid (xor_ne C[k0] y hy0 hy)
    have hXl : (C[k0] ^^^ UInt8.ofNat y).toNat < 256 := UInt8.toNat_lt _
    generalize C[k0] ^^^ UInt8.ofNat y = X at hX HNE hXl
    by_cases x1 : (X.toNat : Int) < 97
    · go_wp2_with fail
      go_ret
      exact ⟨rfl, B2.out⟩
    by_cases x2 : 122 < (X.toNat : Int)
    · go_wp2_with fail
      go_ret
      exact ⟨rfl, B2.out⟩
    go_wp2_with fail
    have hcv := one_string w2 X
    have x1' : IntKind.i64.wrap ((k0 : Int) + 1) = (k0 : Int) + 1 := IntWalk.i64_in _ (by omega)
    have x3' : ((k0 : Int) + 1).toNat = k0 + 1 := by omega
    have f1 : min k0 (12 + c.size) = k0 := by omega
    have f2 : ¬ (9223372036854775807 < k0 + 1) := by omega
    have f3 : ¬ (9223372036854775807 < k0 + 1 + (12 + c.size - (k0 + 1))) := by omega
    have f4 : (k0 : Int) ≤ 12 + (c.size : Int) := by omega
    have f5 : (0 : Int) ≤ (k0 : Int) + 1 ∧ (k0 : Int) + 1 ≤ 12 + (c.size : Int) := by omega
    have hNX := next_harm t c C k0 X HTG.out h0 hcs HCL.out (.inl k4) hkC HNE.out (fun _ => ⟨by omega, by omega⟩)
    go_region_with (go_at_call 18; refine (hNX _).mono ?_; rintro e w3 ⟨rfl, b3⟩)
    clear hNX
    have B3 := Lib.hid (show Below w.heap.size w w3 from B2.out.trans ((((Below.refl w2.heap.size w2).alloc (Nat.le_refl _) _).drew.trans (b3.mono (by simp))).mono B2.out.size))
    clear b3
    go_wp2_with fail
    go_ret
    exact ⟨rfl, B3.out⟩
  · have hkC : k0 + 4 < C.size := by omega
    have hX : bits BinOp.xor IntKind.u8 (C[k0 + 4].toNat : Int) (y : Int) = ((C[k0 + 4] ^^^ UInt8.ofNat y).toNat : Nat) := xor_u8 _ y hy
    have HNE := Lib.hid (xor_ne C[k0 + 4] y hy0 hy)
    have hXl : (C[k0 + 4] ^^^ UInt8.ofNat y).toNat < 256 := UInt8.toNat_lt _
    generalize C[k0 + 4] ^^^ UInt8.ofNat y = X at hX HNE hXl
    go_wp2_with fail
    have hcv := one_string w2 X
    have x1' : IntKind.i64.wrap ((k0 : Int) + 4 + 1) = (k0 : Int) + 4 + 1 := IntWalk.i64_in _ (by omega)
    have x3' : ((k0 : Int) + 4 + 1).toNat = k0 + 4 + 1 := by omega
    have x4' : ((k0 : Int) + 4).toNat = k0 + 4 := by omega
    have f1 : min (k0 + 4) (12 + c.size) = k0 + 4 := by omega
    have f2 : ¬ (9223372036854775807 < k0 + 4 + 1) := by omega
    have f3 : ¬ (9223372036854775807 < k0 + 4 + 1 + (12 + c.size - (k0 + 4 + 1))) := by omega
    have f4 : (k0 : Int) + 4 ≤ 12 + (c.size : Int) := by omega
    have f5 : (0 : Int) ≤ (k0 : Int) + 4 + 1 ∧ (k0 : Int) + 4 + 1 ≤ 12 + (c.size : Int) := by omega
    have f6 : (0 : Int) ≤ (k0 : Int) + 4 := by omega
    have hNX := next_harm t c C (k0 + 4) X HTG.out h0 hcs HCL.out (.inr (by omega)) hkC HNE.out (fun h => by omega)
    go_region_with (go_at_call 18; refine (hNX _).mono ?_; rintro e w3 ⟨rfl, b3⟩)
    clear hNX
    have B3 := Lib.hid (show Below w.heap.size w w3 from B2.out.trans ((((Below.refl w2.heap.size w2).alloc (Nat.le_refl _) _).drew.trans (b3.mono (by simp))).mono B2.out.size))
    clear b3
    go_wp2_with fail
    go_ret
    exact ⟨rfl, B3.out⟩
end Go.Proofs.Ytidflgagcamdpaa
