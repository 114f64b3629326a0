/- WireWrites returns true: words, sums and chunks are written just as the document says. -/
import Derived.Test.YtidflgagcamdpaaN
import Derived.Test.YtidflgagcamdpaaBack
namespace Go.Proofs.Ytidflgagcamdpaa
open Go.RowKit Go.Lib
set_option maxRecDepth 100000 in
set_option maxHeartbeats 1000000 in
theorem writes_far (s : ByteArray) (a : Option Addr) (len cap : Nat) (t c : ByteArray) (w : World) (hm : len ≤ maxLen) (h : 33554431 < s.size ∨ 33554431 < len ∨ 33554431 < t.size ∨ 33554431 < c.size) :
    Calls Try.prog 3 #[.string s, .slice a len cap, .string t, .string c] w (Yes w) := by
  unfold maxLen at hm
  by_cases h0 : 33554431 < (s.size : Int)
  · go_enter Try.func3, Try.ntmps3
    go_wp2_with fail
    refine (works_any _).mono ?_
    rintro e w1 ⟨rfl, b1⟩
    go_wp2_with fail
    go_ret
    exact ⟨rfl, b1⟩
  by_cases h2 : 33554431 < (len : Int)
  · go_enter Try.func3, Try.ntmps3
    go_wp2_with fail
    refine (works_any _).mono ?_
    rintro e w1 ⟨rfl, b1⟩
    go_wp2_with fail
    go_ret
    exact ⟨rfl, b1⟩
  by_cases h3 : 33554431 < (t.size : Int)
  · go_enter Try.func3, Try.ntmps3
    go_wp2_with fail
    refine (works_any _).mono ?_
    rintro e w1 ⟨rfl, b1⟩
    go_wp2_with fail
    go_ret
    exact ⟨rfl, b1⟩
  have h4 : 33554431 < (c.size : Int) := by omega
  go_enter Try.func3, Try.ntmps3
  go_wp2_with fail
  refine (works_any _).mono ?_
  rintro e w1 ⟨rfl, b1⟩
  go_wp2_with fail
  go_ret
  exact ⟨rfl, b1⟩
theorem Words.below {w w' : World} {a : Option Addr} {zs : List Nat} (h : Words w a zs) (hb : Below w.heap.size w w') : Words w' a zs := by
  rcases h with h | ⟨b, off, h1, h2, h3⟩
  · exact .inl h
  · exact .inr ⟨b, off, h1, Nat.lt_of_lt_of_le h2 hb.size, fun i hi => ⟨(hb.cell h2).trans (h3 i hi).1, (h3 i hi).2⟩⟩
theorem ucells_at (zs : List Nat) (r : List Value) {i : Nat} (h : i < zs.length) : (ucells zs ++ r)[i]? = some (.int .u64 (zs[i] : Nat)) := by
  rw [List.getElem?_append_left (by simpa [ucells] using h)]
  simp [ucells, h]
theorem ucells_behind (zs : List Nat) (r : List Value) (i : Nat) : (ucells zs ++ r)[zs.length + i]? = r[i]? := by
  rw [List.getElem?_append_right (by simp [ucells])]
  simp [ucells]
theorem Lent.words {w : World} {B g : Nat} {zs : List Nat} (h : w.ownsRow B 34 1 (.slice (some ⟨g, 0, none⟩) (zs.length + 2) (zs.length + 2)) (zs.length + 2) (ucells zs ++ [.int .u64 8999229, .int .u64 8999228])) (hz : ∀ z ∈ zs, z < 18446744073709551616) :
    Words w (some ⟨g, 0, none⟩) zs ∧ w.cell? ⟨g, zs.length, none⟩ = some (.int .u64 8999229) ∧ w.cell? ⟨g, zs.length + 1, none⟩ = some (.int .u64 8999228) := by
  have hc := h.cells (g := g) rfl
  have hlt := (h.lt g rfl).2
  refine ⟨.inr ⟨g, 0, rfl, hlt, fun i hi => ⟨?_, hz _ (List.getElem_mem hi)⟩⟩, ?_, ?_⟩
  · have := hc i _ (ucells_at zs _ hi)
    rw [Addr.add_lit] at this
    exact this
  · have := hc (zs.length + 0) _ (ucells_behind zs _ 0)
    rw [Addr.add_lit] at this
    simpa using this
  · have := hc (zs.length + 1) _ (ucells_behind zs _ 1)
    rw [Addr.add_lit] at this
    simpa using this
set_option maxRecDepth 100000 in
set_option maxHeartbeats 2000000 in
theorem writes_near (s : ByteArray) (a : Option Addr) (cap : Nat) (zs : List Nat) (t c : ByteArray) (w : World) (hw : Words w a zs) (hz : ∀ z ∈ zs, z < 18446744073709551616) (hnil : a = none → cap = 0)
    (h0 : s.size ≤ 33554431) (h1 : zs.length ≤ 33554431) (h2 : t.size ≤ 33554431) (h3 : c.size ≤ 33554431) :
    Calls Try.prog 3 #[.string s, .slice a zs.length cap, .string t, .string c] w (Yes w) := by
  have HW := Lib.hid hw
  have HN := Lib.hid hnil
  have HZ := Lib.hid hz
  clear hw hnil hz
  go_enter Try.func3, Try.ntmps3
  go_wp2_with fail
  refine (works_any _).mono ?_
  rintro e w1 ⟨rfl, b1⟩
  have B1 := Lib.hid b1
  clear b1
  go_wp2_with fail
  refine (lent_any a cap zs _ (HW.out.below B1.out) HN.out h1).mono ?_
  rintro e w2 ⟨g, rfl, hg, ho2, b2⟩
  have B2 := Lib.hid (B1.out.trans (b2.mono B1.out.size))
  obtain ⟨l1, l2, l3⟩ := Lent.words ho2 HZ.out
  have HO2 := Lib.hid ho2
  have L1 := Lib.hid l1
  have L2 := Lib.hid l2
  have L3 := Lib.hid l3
  clear b2 l1 l2 l3 ho2
  go_wp2_with fail
  refine (wput_any s (some ⟨g, 0, none⟩) (zs.length + 2) zs _ L1.out (by omega)).mono ?_
  rintro e w3 ⟨rfl, b3⟩
  have B3 := Lib.hid (B2.out.trans (b3.mono B2.out.size))
  have BB3 := Lib.hid b3
  have hgl : g < w2.heap.size := (HO2.out.lt g rfl).2
  clear b3
  go_wp2_with fail
  refine (whole_any g a cap zs _ (L1.out.below BB3.out) (HW.out.below B3.out) h1 ((BB3.out.cell hgl).trans L2.out) ((BB3.out.cell hgl).trans L3.out)).mono ?_
  rintro e w4 ⟨rfl, n4, rfl⟩
  have B4 := Lib.hid (below_drewN B3.out n4)
  generalize w3.drewN n4 = w4 at B4 ⊢
  go_wp2_with fail
  refine (rput_any s a cap zs _ (HW.out.below B4.out) (by omega)).mono ?_
  rintro e w5 ⟨rfl, b5⟩
  have B5 := Lib.hid (B4.out.trans (b5.mono B4.out.size))
  clear b5
  generalize bs (s.data.toList ++ putAll zs) = P
  go_wp2_with fail
  refine (sum_any c _ (by unfold maxLen; omega)).mono ?_
  rintro e w' ⟨rfl, rfl⟩
  go_wp2_with fail
  refine (rsum_any c _ (by unfold maxLen; omega)).mono ?_
  rintro e w' ⟨rfl, rfl⟩
  generalize 4294967295 - Pl.crc 4294967295 c.data.toList = S
  go_wp2_with fail
  refine (chunk_any t c _ (by unfold maxLen; omega) (by omega)).mono ?_
  rintro e w6 ⟨rfl, b6⟩
  have B6 := Lib.hid (B5.out.trans (b6.mono B5.out.size))
  clear b6
  go_wp2_with fail
  refine (rchunk_any t c _ (by unfold maxLen; omega) (by omega)).mono ?_
  rintro e w7 ⟨rfl, b7⟩
  have B7 := Lib.hid (B6.out.trans (b7.mono B6.out.size))
  clear b7
  generalize bs (chunkText t.data.toList c.data.toList) = T
  generalize chunkErr t.data.toList c.data.toList = E
  go_wp2_with fail
  go_ret
  exact ⟨rfl, B7.out⟩
theorem spot_none {w : World} {x : Addr} {v : Value} (h : w.cell? (x.add 0) = some v) : ∃ b off, x = ⟨b, off, none⟩ := by
  obtain ⟨b, off, sp⟩ := x
  have hsp : sp = none := by simpa [Addr.add] using World.cell?_spot h
  exact ⟨b, off, by rw [hsp]⟩
theorem wireWrites_row (a0 : ByteArray) (x : Addr) (len1 cap1 : Nat) (z1 : List Int) (a2 a3 : ByteArray) (w : World) (hl : len1 ≤ cap1) (hm : cap1 ≤ maxLen) (hz : z1.length = cap1)
    (hc : ∀ i, i < z1.length → w.cell? (x.add i) = some (.int .u64 (z1.getD i 0))) (hw : ∀ n ∈ z1, (Lit.int .u64 n).wf = true) :
    Calls Try.prog 3 #[.string a0, .slice (some x) len1 cap1, .string a2, .string a3] w (Yes w) := by
  by_cases hf : 33554431 < a0.size ∨ 33554431 < len1 ∨ 33554431 < a2.size ∨ 33554431 < a3.size
  · exact writes_far a0 (some x) len1 cap1 a2 a3 w (by omega) hf
  have hlen : ((z1.take len1).map Int.toNat).length = len1 := by simp; omega
  have hmem : ∀ z ∈ (z1.take len1).map Int.toNat, z < 18446744073709551616 := by
    intro z hzz
    simp only [List.mem_map] at hzz
    obtain ⟨n, hn, rfl⟩ := hzz
    have := wf_u64 (hw n (List.mem_of_mem_take hn))
    omega
  have hW : Words w (some x) ((z1.take len1).map Int.toNat) := by
    rcases Nat.eq_zero_or_pos len1 with h0 | h0
    · left; subst h0; rfl
    · have h00 := hc 0 (by omega)
      obtain ⟨b, off, rfl⟩ := spot_none h00
      have hblt : b < w.heap.size := World.block_lt_of_cell? w _ h00
      refine .inr ⟨b, off, rfl, hblt, fun i hi => ?_⟩
      rw [hlen] at hi
      have h1 := hc i (by omega)
      rw [Addr.add_lit] at h1
      have hv : (((z1.take len1).map Int.toNat)[i]'(by rw [hlen]; exact hi) : Int) = z1.getD i 0 := by
        have hwf := wf_u64 (hw z1[i] (List.getElem_mem (by omega)))
        simp [List.getD, List.getElem?_eq_getElem (show i < z1.length by omega)]
        omega
      exact ⟨by rw [hv]; exact h1, hmem _ (List.getElem_mem _)⟩
  have h := writes_near a0 (some x) cap1 _ a2 a3 w hW hmem (fun h => by cases h) (by omega) (by omega) (by omega) (by omega)
  rw [hlen] at h
  exact h
theorem wireWrites_nil (a0 a2 a3 : ByteArray) (w : World) : Calls Try.prog 3 #[.string a0, .slice none 0 0, .string a2, .string a3] w (Yes w) := by
  by_cases hf : 33554431 < a0.size ∨ 33554431 < 0 ∨ 33554431 < a2.size ∨ 33554431 < a3.size
  · exact writes_far a0 none 0 0 a2 a3 w (by unfold maxLen; omega) hf
  · exact writes_near a0 none 0 [] a2 a3 w (.inl rfl) (by simp) (fun _ => rfl) (by omega) (by simp) (by omega) (by omega)
end Go.Proofs.Ytidflgagcamdpaa
