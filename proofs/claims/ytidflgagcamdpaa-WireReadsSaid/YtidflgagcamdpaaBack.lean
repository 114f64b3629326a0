/- WireBack returns true: what is written is read back, whatever stands ahead of it and behind it. -/
import Derived.Test.YtidflgagcamdpaaW
import Derived.Test.YtidflgagcamdpaaL
namespace Go.Proofs.Ytidflgagcamdpaa
open Go.RowKit Go.Lib
theorem wf_u64 {a : Int} (h : (Lit.int .u64 a).wf = true) : 0 ≤ a ∧ a < 18446744073709551616 := by
  simp [Lit.wf, IntKind.min, IntKind.max, IntKind.bits, IntKind.signed] at h; omega
def Yes (w : World) (e : Ending) (w' : World) : Prop := e = .returned (.bool true) ∧ Below w.heap.size w w'
set_option maxRecDepth 100000 in
set_option maxHeartbeats 1000000 in
theorem back_far (a0 : ByteArray) (a1 : Nat) (a2 a3 a4 : ByteArray) (w : World) (w0 : a0.size ≤ maxLen) (w2 : a2.size ≤ maxLen) (w3 : a3.size ≤ maxLen) (w4 : a4.size ≤ maxLen)
    (h : 33554431 < a0.size ∨ 33554431 < a2.size ∨ 33554431 < a3.size ∨ 33554431 < a4.size) :
    Calls Try.prog 4 #[.string a0, .int .u64 a1, .string a2, .string a3, .string a4] w (Yes w) := by
  unfold maxLen at *
  by_cases h0 : 33554431 < (a0.size : Int)
  · go_enter Try.func4, Try.ntmps4
    go_wp2_with fail
    refine (works_any _).mono ?_
    rintro e w1 ⟨rfl, b1⟩
    go_wp2_with fail
    go_ret
    exact ⟨rfl, b1⟩
  by_cases h2 : 33554431 < (a2.size : Int)
  · go_enter Try.func4, Try.ntmps4
    go_wp2_with fail
    refine (works_any _).mono ?_
    rintro e w1 ⟨rfl, b1⟩
    go_wp2_with fail
    go_ret
    exact ⟨rfl, b1⟩
  by_cases h3 : 33554431 < (a3.size : Int)
  · go_enter Try.func4, Try.ntmps4
    go_wp2_with fail
    refine (works_any _).mono ?_
    rintro e w1 ⟨rfl, b1⟩
    go_wp2_with fail
    go_ret
    exact ⟨rfl, b1⟩
  have h4 : 33554431 < (a4.size : Int) := by omega
  go_enter Try.func4, Try.ntmps4
  go_wp2_with fail
  refine (works_any _).mono ?_
  rintro e w1 ⟨rfl, b1⟩
  go_wp2_with fail
  go_ret
  exact ⟨rfl, b1⟩
theorem put1 (s : ByteArray) (n : Nat) (w : World) (g : Nat) (hc : w.cell? ⟨g, 0, none⟩ = some (.int .u64 (n : Nat))) (hg : g < w.heap.size) (hn : n < 18446744073709551616) (hs : s.size ≤ 2147483647) :
    Calls Try.prog 10 #[.string s, .slice (some ⟨g, 0, none⟩) 1 1] w fun e w' => e = .returned (.string (s ++ bs (Pl.leBytes 8 n))) ∧ Below w.heap.size w w' := by
  refine (wput_any s (some ⟨g, 0, none⟩) 1 [n] w (.inr ⟨g, 0, rfl, hg, fun i h => ?_⟩) (by simp; omega)).mono ?_
  · have : i = 0 := by simp at h; omega
    subst this
    exact ⟨hc, by simpa using hn⟩
  · rintro e w' ⟨rfl, hb⟩
    refine ⟨?_, hb⟩
    rw [bs_app, bs_of]
    simp [putAll]
theorem take_back (s t : ByteArray) (n : Nat) (w : World) (hn : n < 18446744073709551616) (hs : s.size ≤ 33554431) (ht : t.size ≤ 33554431) :
    Calls Try.prog 17 #[.string (s ++ bs (Pl.leBytes 8 n) ++ t), .int .i64 (s.size : Nat)] w fun e w' => e = .returned (.tuple #[.int .u64 (n : Nat), .int .i64 ((s.size : Int) + 8), .int .i64 0]) ∧ w = w' := by
  refine (take_any _ _ w (by rw [size_app, size_app, bs_size, leBytes_len]; omega) (by omega) (by omega)).mono ?_
  rintro e w' ⟨rfl, rfl⟩
  have h := takeOf_back s.data.toList t.data.toList n hn
  have hl : s.data.toList.length = s.size := by simp
  rw [hl] at h
  have e : (s ++ bs (Pl.leBytes 8 n) ++ t).data.toList = s.data.toList ++ Pl.leBytes 8 n ++ t.data.toList := by simp [bs]
  exact ⟨by rw [e, h]; rfl, rfl⟩
theorem next_back (s t c tl : ByteArray) (w : World) (hs : s.size ≤ 33554431) (htl : tl.size ≤ 33554431) (ht : Pl.isTag t.data.toList = true) (hc : c.size ≤ 16777216) :
    Calls Try.prog 18 #[.string (s ++ bs (chunkOf t.data.toList c.data.toList) ++ tl), .int .i64 (s.size : Nat)] w fun e w' => e = .returned (.tuple #[.string t, .string c, .int .i64 ((s.size : Int) + (12 + c.size : Nat)), .int .i64 0]) ∧ Below w.heap.size w w' := by
  have hcl := chunkOf_len t.data.toList c.data.toList (isTag_len ht)
  have lc : c.data.toList.length = c.size := by simp
  refine (next_any _ _ w (by rw [size_app, size_app, bs_size, hcl, lc]; omega) (by omega) (by omega)).mono ?_
  rintro e w' ⟨rfl, hb⟩
  have h := nextOf_back s.data.toList t.data.toList c.data.toList tl.data.toList ht (by rw [lc]; exact hc)
  have hl : s.data.toList.length = s.size := by simp
  rw [hl, hcl, lc] at h
  have e : (s ++ bs (chunkOf t.data.toList c.data.toList) ++ tl).data.toList = s.data.toList ++ chunkOf t.data.toList c.data.toList ++ tl.data.toList := by simp [bs]
  refine ⟨?_, hb⟩
  rw [e, h]
  simp only [bs_of]
  rfl
set_option maxRecDepth 100000 in
set_option maxHeartbeats 2000000 in
theorem back_near (a0 : ByteArray) (a1 : Nat) (a2 a3 a4 : ByteArray) (w : World) (hn : a1 < 18446744073709551616)
    (h0 : a0.size ≤ 33554431) (h2 : a2.size ≤ 33554431) (h3 : a3.size ≤ 33554431) (h4 : a4.size ≤ 33554431) :
    Calls Try.prog 4 #[.string a0, .int .u64 a1, .string a2, .string a3, .string a4] w (Yes w) := by
  have z1 : (a0 ++ bs (Pl.leBytes 8 a1)).size + a4.size ≤ 9223372036854775807 := by rw [size_app, bs_size, leBytes_len]; omega
  go_enter Try.func4, Try.ntmps4
  go_wp2_with fail
  refine (works_any _).mono ?_
  rintro e w1 ⟨rfl, b1⟩
  have B1 := Lib.hid b1
  clear b1
  go_wp2_with fail
  refine (put1 a0 a1 _ _ (by simp) (by simp) hn (by omega)).mono ?_
  rintro e w2 ⟨rfl, b2⟩
  have B2 := Lib.hid (B1.out.trans (((Below.refl w1.heap.size w1).alloc (Nat.le_refl _) _).trans (b2.mono (by simp)) |>.mono B1.out.size))
  clear b2
  go_wp2_with fail
  refine (take_back a0 a4 a1 _ hn h0 h4).mono ?_
  rintro e w' ⟨rfl, rfl⟩
  have ht : a2.size ≤ maxLen := by unfold maxLen; omega
  go_wp2_with fail
  refine (chunk_any a2 a3 _ ht (by omega)).mono ?_
  rintro e w3 ⟨rfl, b3⟩
  have B3 := Lib.hid (B2.out.trans (b3.mono B2.out.size))
  clear b3
  have lc : a3.data.toList.length = a3.size := by simp
  by_cases d1 : Pl.isTag a2.data.toList = true
  · by_cases d2 : 16777216 < a3.size
    · rw [show chunkText a2.data.toList a3.data.toList = [] from by unfold chunkText; rw [lc]; simp [d1, d2], show chunkErr a2.data.toList a3.data.toList = 21 from by unfold chunkErr; rw [lc]; simp [d1, d2]]
      clear lc d1
      rw [show bs [] = ⟨#[]⟩ from rfl]
      go_wp2_with fail
      go_ret
      exact ⟨rfl, B3.out⟩
    · have hcl := chunkOf_len a2.data.toList a3.data.toList (isTag_len d1)
      rw [lc] at hcl
      rw [show chunkText a2.data.toList a3.data.toList = chunkOf a2.data.toList a3.data.toList from by unfold chunkText; rw [lc]; simp [d1, d2], show chunkErr a2.data.toList a3.data.toList = 0 from by unfold chunkErr; rw [lc]; simp [d1, d2]]
      have y1 : a0.size + (bs (chunkOf a2.data.toList a3.data.toList)).size ≤ 9223372036854775807 := by rw [bs_size, hcl]; omega
      have y2 : (a0 ++ bs (chunkOf a2.data.toList a3.data.toList)).size + a4.size ≤ 9223372036854775807 := by rw [size_app, bs_size, hcl]; omega
      have D1 := Lib.hid d1
      have HCL := Lib.hid hcl
      have hsz : (bs (chunkOf a2.data.toList a3.data.toList)).size = 12 + a3.size := by rw [bs_size, hcl]
      clear lc d1 hcl
      go_wp2_with fail
      refine (next_back a0 a2 a3 a4 _ h0 h4 D1.out (by omega)).mono ?_
      rintro e w4 ⟨rfl, b4⟩
      have B4 := Lib.hid (B3.out.trans (b4.mono B3.out.size))
      clear b4
      go_wp2_with fail
      go_ret
      exact ⟨rfl, B4.out⟩
  · rw [show chunkText a2.data.toList a3.data.toList = [] from by unfold chunkText; simp [d1], show chunkErr a2.data.toList a3.data.toList = 1 from by unfold chunkErr; simp [d1]]
    clear lc d1
    rw [show bs [] = ⟨#[]⟩ from rfl]
    go_wp2_with fail
    go_ret
    exact ⟨rfl, B3.out⟩
theorem wireBack_walk (a0 : ByteArray) (a1 : Int) (a2 : ByteArray) (a3 : ByteArray) (a4 : ByteArray) (w0 : a0.size ≤ maxLen) (w1 : (Lit.int .u64 a1).wf = true) (w2 : a2.size ≤ maxLen) (w3 : a3.size ≤ maxLen) (w4 : a4.size ≤ maxLen) (w : World) :
    Calls Try.prog 4 #[.string a0, .int .u64 a1, .string a2, .string a3, .string a4] w fun e w' => e = .returned (.bool true) ∧ Below w.heap.size w w' := by
  obtain ⟨n, rfl⟩ := Int.eq_ofNat_of_zero_le (wf_u64 w1).1
  by_cases h : 33554431 < a0.size ∨ 33554431 < a2.size ∨ 33554431 < a3.size ∨ 33554431 < a4.size
  · exact back_far a0 n a2 a3 a4 w w0 w2 w3 w4 h
  · exact back_near a0 n a2 a3 a4 w (by have := (wf_u64 w1).2; omega) (by omega) (by omega) (by omega) (by omega)
end Go.Proofs.Ytidflgagcamdpaa
