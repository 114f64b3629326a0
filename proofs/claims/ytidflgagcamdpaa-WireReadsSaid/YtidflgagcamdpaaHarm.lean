/- WireHarm returns true: a chunk one byte of whose tag, content or sum was changed is refused. -/
import Derived.Test.YtidflgagcamdpaaW
import Derived.Test.YtidflgagcamdpaaM
import Derived.Test.YtidflgagcamdpaaBack
import Derived.Deep.RegionWith
namespace Go.Proofs.Ytidflgagcamdpaa
open Go.RowKit Go.Lib
set_option maxRecDepth 100000 in
set_option maxHeartbeats 1000000 in
theorem harm_far (t c : ByteArray) (at_ y : Int) (w : World) (h : 33554431 < c.size ∨ 33554431 < t.size ∨ y = 0) :
    Calls Try.prog 5 #[.string t, .string c, .int .i64 at_, .int .u8 y] w (Yes w) := by
  by_cases h0 : 33554431 < (c.size : Int)
  · go_enter Try.func5, Try.ntmps5
    go_wp2_with fail
    refine (works_any _).mono ?_
    rintro e w1 ⟨rfl, b1⟩
    go_wp2_with fail
    go_ret
    exact ⟨rfl, b1⟩
  by_cases h2 : 33554431 < (t.size : Int)
  · go_enter Try.func5, Try.ntmps5
    go_wp2_with fail
    refine (works_any _).mono ?_
    rintro e w1 ⟨rfl, b1⟩
    go_wp2_with fail
    go_ret
    exact ⟨rfl, b1⟩
  obtain rfl : y = 0 := by omega
  go_enter Try.func5, Try.ntmps5
  go_wp2_with fail
  refine (works_any _).mono ?_
  rintro e w1 ⟨rfl, b1⟩
  go_wp2_with fail
  go_ret
  exact ⟨rfl, b1⟩
set_option maxRecDepth 100000 in
set_option maxHeartbeats 1000000 in
theorem harm_bad (t c : ByteArray) (at_ y : Int) (w : World) (h0 : c.size ≤ 33554431) (h2 : t.size ≤ 33554431) (hy : (y == 0) = false) (h : Pl.isTag t.data.toList = false ∨ 16777216 < c.size) :
    Calls Try.prog 5 #[.string t, .string c, .int .i64 at_, .int .u8 y] w (Yes w) := by
  have lc : c.data.toList.length = c.size := by simp
  have HT : Hid (chunkText t.data.toList c.data.toList = []) := by
    unfold Hid chunkText; rw [lc]; rcases h with h | h <;> simp [h]
  have HE : Hid (chunkErr t.data.toList c.data.toList = 1 ∨ chunkErr t.data.toList c.data.toList = 21) := by
    unfold Hid chunkErr; rw [lc]
    rcases h with h | h
    · left; simp [h]
    · by_cases h1 : Pl.isTag t.data.toList = true
      · right; simp [h, h1]
      · left; simp [h1]
  clear lc h
  go_enter Try.func5, Try.ntmps5
  go_wp2_with fail
  refine (works_any _).mono ?_
  rintro e w1 ⟨rfl, b1⟩
  have B1 := Lib.hid b1
  clear b1
  go_wp2_with fail
  refine (chunk_any t c _ (by unfold maxLen; omega) (by omega)).mono ?_
  rintro e w2 ⟨rfl, b2⟩
  have B2 := Lib.hid (B1.out.trans (b2.mono B1.out.size))
  clear b2
  rw [HT.out, show bs [] = ⟨#[]⟩ from rfl]
  rcases HE.out with he | he
  · rw [he]
    clear he
    go_wp2_with fail
    go_ret
    exact ⟨rfl, B2.out⟩
  · rw [he]
    clear he
    go_wp2_with fail
    go_ret
    exact ⟨rfl, B2.out⟩
end Go.Proofs.Ytidflgagcamdpaa
