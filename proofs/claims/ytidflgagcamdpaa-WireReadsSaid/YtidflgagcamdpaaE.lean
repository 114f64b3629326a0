/- Contracts of Chunk, the program's and the document's. -/
import Derived.Test.YtidflgagcamdpaaD
namespace Go.Proofs.Ytidflgagcamdpaa
open Go.RowKit Go.Lib
/-- The check of a tag and a content. -/
def sumOf (l : List UInt8) : Nat := 4294967295 - Pl.crc 4294967295 l
def chunkOf (t c : List UInt8) : List UInt8 := t ++ (Pl.leBytes 4 c.length ++ (c ++ Pl.leBytes 4 (sumOf (t ++ c))))
def chunkErr (t c : List UInt8) : Nat := if Pl.isTag t then (if 16777216 < c.length then 21 else 0) else 1
def chunkText (t c : List UInt8) : List UInt8 := if Pl.isTag t then (if 16777216 < c.length then [] else chunkOf t c) else []
theorem sumOf_lt (l : List UInt8) : sumOf l < 4294967296 := by unfold sumOf; omega
def ChunkOk (w : World) (t c : ByteArray) (e : Ending) (w' : World) : Prop :=
  e = .returned (.tuple #[.string (bs (chunkText t.data.toList c.data.toList)), .int .i64 (chunkErr t.data.toList c.data.toList : Nat)]) ∧ Below w.heap.size w w'
theorem tagSize {s : ByteArray} (h : Pl.isTag s.data.toList = true) : s.size = 4 := by
  unfold Pl.isTag at h
  simp at h
  exact h.1
theorem ret_two {a b : List UInt8} {m n : Nat} (h : a = b) (k : m = n) : Ending.returned (.tuple #[.string ⟨a.toArray⟩, .int .i64 (m : Nat)]) = .returned (.tuple #[.string (bs b), .int .i64 (n : Nat)]) := by rw [h, k]; rfl
/-- 'put', the lengths as numbers of their own. -/
theorem put_at (base : Nat) (v : Value) (l : List UInt8) (k n many : Nat) (w : World) (hk : l.length = k) (hown : Owns w base 5 1 v k (bc l)) (hb : base ≤ w.heap.size) (hn : n < 18446744073709551616) (hl : k + many ≤ 140737488355328) :
    Calls Try.prog 26 #[v, .int .u64 n, .int .i64 many] w fun e w' => ∃ a c, e = .returned (.slice a (k + many) c) ∧ Owns w' base 5 1 (.slice a (k + many) c) (k + many) (bc (l ++ Pl.leBytes many n)) ∧ Grow w v w' (.slice a (k + many) c) := by
  subst hk
  refine (put_any base v l n many w hown hb hn hl).mono ?_
  rintro e w' ⟨v', rfl, ho, hg⟩
  obtain ⟨a, c, rfl⟩ := ho.form
  rw [List.length_append, leBytes_len] at ho hg ⊢
  exact ⟨a, c, rfl, ho, hg⟩
set_option maxHeartbeats 400000 in
theorem chunk_any (t c : ByteArray) (w : World) (ht : t.size ≤ maxLen) (hc : c.size ≤ 2147483647) :
    Calls Try.prog 15 #[.string t, .string c] w (ChunkOk w t c) := by
  have lc : c.data.toList.length = c.size := by simp
  by_cases h1 : Pl.isTag t.data.toList = true
  · have hts := tagSize h1
    by_cases h2 : 16777216 < c.size
    · have HF := Lib.hid (show chunkText t.data.toList c.data.toList = [] ∧ chunkErr t.data.toList c.data.toList = 21 from by
        unfold chunkText chunkErr; rw [lc]; simp [h1, h2])
      have H1 := Lib.hid h1
      clear h1 lc hts
      go_enter Try.func15, Try.ntmps15
      go_wp2_with fail
      refine (isTag_any t _ ht).mono ?_
      rintro e w' ⟨rfl, rfl⟩
      rw [H1.out]
      go_wp2_with fail
      go_ret2
      exact ⟨ret_two HF.out.1.symm HF.out.2.symm, Below.refl _ _⟩
    · have HF := Lib.hid (show chunkText t.data.toList c.data.toList = chunkOf t.data.toList c.data.toList ∧ chunkErr t.data.toList c.data.toList = 0 from by
        unfold chunkText chunkErr; rw [lc]; simp [h1, h2])
      have H1 := Lib.hid h1
      have hts' : t.size ≤ 4 := by omega
      have HTS := Lib.hid hts
      have HL := Lib.hid lc
      clear h1 lc hts
      have HO := Lib.hid (Owns.ofString w w.heap.size 5 t (by unfold maxLen; omega) (Nat.le_refl _))
      have HB := Lib.hid (bytesWorld_below w 5 t)
      go_enter Try.func15, Try.ntmps15
      go_wp2_with fail
      refine (isTag_any t _ ht).mono ?_
      rintro e w' ⟨rfl, rfl⟩
      rw [H1.out]
      go_wp2_with (refine wpList_bytes_of_string rfl (.tmp 15) 9 40 rfl t rfl 5 Try.underlying9 Try.underlying40 Try.underlying5 ?_)
      generalize bytesWorld w 5 t = w1 at *
      generalize grownCap w t.size 0 5 = c1 at *
      go_wp2_with fail
      refine (put_at w.heap.size _ t.data.toList t.size c.size 4 _ (by simp) HO.out HB.out.size (by omega) (by omega)).mono ?_
      rintro e w2 ⟨a2, c2, rfl, ho, hg⟩
      have hs2 : w.heap.size ≤ w2.heap.size := Nat.le_trans HB.out.size hg.1.size
      have HO2 := Lib.hid ho
      have HB2 := Lib.hid (hg.below HB.out HB.out.size (fun j hj => (HO.out.lt j hj).1))
      clear ho hg
      obtain ⟨i0, hi, hz0, hz1, hz2⟩ := info_parts info5
      go_wp2_with (at_builtin; refine wpList_append_owns_string rfl (.tmp 21) (.tmp 22) 40 9 rfl w.heap.size 5 i0 Try.underlying40 Try.underlying9 hi hz0 hz1 hz2 _ _ _ rfl HO2.out c rfl ?c1 ?c2 ?c3 ?_)
      case c1 => unfold maxLen; omega
      case c2 => omega
      case c3 => exact hs2
      intro v3 w3 ho3 hg3
      have hs3 : w.heap.size ≤ w3.heap.size := Nat.le_trans hs2 hg3.1.size
      obtain ⟨a3, c3, rfl⟩ := ho3.form
      have HO3 := Lib.hid ho3
      have HB3 := Lib.hid (hg3.below HB2.out hs2 (fun j hj => (HO2.out.lt j hj).1))
      clear ho3 hg3
      go_wp2_with fail
      refine (check_any t c _ ht (by unfold maxLen; omega)).mono ?_
      rintro e w' ⟨rfl, rfl⟩
      go_wp2_with fail
      have ho4 := HO3.out
      rw [show strCells c = bc c.data.toList from rfl, ← bc_app] at ho4
      refine (put_at w.heap.size _ _ _ _ 4 _ (by simp [leBytes_len]; omega) ho4 hs3 (by omega) (by omega)).mono ?_
      rintro e w4 ⟨a4, c4, rfl, ho, hg⟩
      have HB4 := Lib.hid (hg.below HB3.out hs3 (fun j hj => (HO3.out.lt j hj).1))
      have hcv := run_string_of_owns (P := Try.prog) 40 9 Try.underlying40 Try.underlying5 Try.underlying9 ho
      clear ho hg ho4
      go_wp2_with fail
      go_ret2
      refine ⟨ret_two ?_ HF.out.2.symm, HB4.out⟩
      rw [HF.out.1]
      simp [chunkOf, sumOf, HL.out]
  · have HF := Lib.hid (show chunkText t.data.toList c.data.toList = [] ∧ chunkErr t.data.toList c.data.toList = 1 from by
      unfold chunkText chunkErr; simp [h1])
    have h1' : Pl.isTag t.data.toList = false := by simpa using h1
    have H1 := Lib.hid h1'
    clear h1 lc h1'
    go_enter Try.func15, Try.ntmps15
    go_wp2_with fail
    refine (isTag_any t _ ht).mono ?_
    rintro e w' ⟨rfl, rfl⟩
    rw [H1.out]
    go_wp2_with fail
    go_ret2
    exact ⟨ret_two HF.out.1.symm HF.out.2.symm, Below.refl _ _⟩
theorem size_app (a b : ByteArray) : (a ++ b).size = a.size + b.size := ByteArray.size_append
theorem list_app (a b : ByteArray) : (a ++ b).data.toList = a.data.toList ++ b.data.toList := by simp
set_option maxHeartbeats 400000 in
theorem rchunk_any (t c : ByteArray) (w : World) (ht : t.size ≤ maxLen) (hc : c.size ≤ 2147483647) :
    Calls Try.prog 16 #[.string t, .string c] w (ChunkOk w t c) := by
  have lc : c.data.toList.length = c.size := by simp
  by_cases h1 : Pl.isTag t.data.toList = true
  · have hts := tagSize h1
    by_cases h2 : 16777216 < c.size
    · have HF := Lib.hid (show chunkText t.data.toList c.data.toList = [] ∧ chunkErr t.data.toList c.data.toList = 21 from by
        unfold chunkText chunkErr; rw [lc]; simp [h1, h2])
      have H1 := Lib.hid h1
      clear h1 lc hts
      go_enter Try.func16, Try.ntmps16
      go_wp2_with fail
      refine (rtag_any t _ ht).mono ?_
      rintro e w' ⟨rfl, rfl⟩
      rw [H1.out]
      go_wp2_with fail
      go_ret2
      exact ⟨ret_two HF.out.1.symm HF.out.2.symm, Below.refl _ _⟩
    · have HF := Lib.hid (show chunkText t.data.toList c.data.toList = chunkOf t.data.toList c.data.toList ∧ chunkErr t.data.toList c.data.toList = 0 from by
        unfold chunkText chunkErr; rw [lc]; simp [h1, h2])
      have H1 := Lib.hid h1
      have hts' : t.size ≤ 4 := by omega
      have HL := Lib.hid lc
      clear h1 lc hts
      have z1 : t.size + (bs (Pl.leBytes 4 c.size)).size ≤ 9223372036854775807 := by rw [bs_size, leBytes_len]; omega
      have z2 : (t ++ bs (Pl.leBytes 4 c.size)).size + c.size ≤ 9223372036854775807 := by rw [size_app, bs_size, leBytes_len]; omega
      have z3 : t.size + c.size ≤ 9223372036854775807 := by omega
      have z4 : (t ++ bs (Pl.leBytes 4 c.size) ++ c).size + (bs (Pl.leBytes 4 (sumOf (t.data.toList ++ c.data.toList)))).size ≤ 9223372036854775807 := by rw [size_app, size_app, bs_size, leBytes_len, bs_size, leBytes_len]; omega
      go_enter Try.func16, Try.ntmps16
      go_wp2_with fail
      refine (rtag_any t _ ht).mono ?_
      rintro e w' ⟨rfl, rfl⟩
      rw [H1.out]
      go_wp2_with fail
      refine (low_any c.size 4 _ (by omega) (by omega)).mono ?_
      rintro e w1 ⟨rfl, hb1⟩
      have HB1 := Lib.hid hb1
      clear hb1
      go_wp2_with fail
      refine (rsum_any _ _ (by rw [size_app]; unfold maxLen; omega)).mono ?_
      rintro e w' ⟨rfl, rfl⟩
      rw [list_app]
      go_wp2_with fail
      refine (low_any (sumOf (t.data.toList ++ c.data.toList)) 4 _ (by have := sumOf_lt (t.data.toList ++ c.data.toList); omega) (by omega)).mono ?_
      rintro e w2 ⟨rfl, hb2⟩
      have HB2 := Lib.hid hb2
      clear hb2
      go_wp2_with fail
      go_ret2
      refine ⟨?_, HB1.out.trans (HB2.out.mono HB1.out.size)⟩
      rw [HF.out.1, HF.out.2]
      have e : t ++ bs (Pl.leBytes 4 c.size) ++ c ++ bs (Pl.leBytes 4 (sumOf (t.data.toList ++ c.data.toList))) = bs (chunkOf t.data.toList c.data.toList) := by
        apply ByteArray.ext; simp [bs, chunkOf]
      rw [← e]
      rfl
  · have HF := Lib.hid (show chunkText t.data.toList c.data.toList = [] ∧ chunkErr t.data.toList c.data.toList = 1 from by
      unfold chunkText chunkErr; simp [h1])
    have h1' : Pl.isTag t.data.toList = false := by simpa using h1
    have H1 := Lib.hid h1'
    clear h1 lc h1'
    go_enter Try.func16, Try.ntmps16
    go_wp2_with fail
    refine (rtag_any t _ ht).mono ?_
    rintro e w' ⟨rfl, rfl⟩
    rw [H1.out]
    go_wp2_with fail
    go_ret2
    exact ⟨ret_two HF.out.1.symm HF.out.2.symm, Below.refl _ _⟩
end Go.Proofs.Ytidflgagcamdpaa
