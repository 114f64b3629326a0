/- WireOne returns true, second part: the way on which a chunk is read at the place. -/
import Derived.Test.YtidflgagcamdpaaOne
namespace Go.Proofs.Ytidflgagcamdpaa
open Go.RowKit Go.Lib
set_option maxRecDepth 100000 in
set_option maxHeartbeats 4000000 in
theorem one_good (b : ByteArray) (at_ : Int) (w : World) (hb : b.size ≤ 33554431) (hE : (nextOf b.data.toList at_).2.2.2 = 0) :
    Calls Try.prog 7 #[.string b, .int .i64 at_] w (Yes w) := by
  have HLAW := Lib.hid (chunksOf_law b.data.toList)
  have lb : b.data.toList.length = b.size := by simp
  obtain ⟨h0, hto, hg⟩ := nextOf_good b.data.toList at_ hE
  obtain ⟨k, rfl⟩ := Int.eq_ofNat_of_zero_le h0
  rw [Int.toNat_natCast] at hg
  have hfit := hg.fits
  rw [lb] at hfit
  have HTAG := Lib.hid hg.tag
  have HLEN := Lib.hid hg.len
  have HFORM := Lib.hid hg.form
  have HE := Lib.hid hE
  have HTO := Lib.hid hto
  clear hg lb hto hE
  go_enter Try.func7, Try.ntmps7
  go_wp2_with fail
  refine (works_any _).mono ?_
  rintro e w1 ⟨rfl, b1⟩
  have B1 := Lib.hid b1
  clear b1
  go_wp2_with fail
  refine (next_any b k _ (by omega) (by omega) (by omega)).mono ?_
  rintro e w2 ⟨rfl, b2⟩
  have B2 := Lib.hid (B1.out.trans (b2.mono B1.out.size))
  clear b2
  rw [HE.out, HTO.out]
  clear HE HTO
  generalize (nextOf b.data.toList k).1 = t at HTAG HFORM ⊢
  generalize (nextOf b.data.toList k).2.1 = c at HLEN HFORM hfit ⊢
  have hEq : b.extract k (k + (12 + c.length)) = bs (chunkOf t c) := by
    rw [← HFORM.out, ← bs_of (b.extract k (k + (12 + c.length))), ext_list]; congr 2; omega
  go_wp2_with fail
  refine (chunk_good t c HTAG.out HLEN.out _).mono ?_
  rintro e w4 ⟨rfl, b4⟩
  have B4 := Lib.hid (B2.out.trans (b4.mono B2.out.size))
  clear b4
  go_wp2_with fail
  refine (chunks_any b _ hb).mono ?_
  rintro e w3 ⟨v, rfl, ho, b3⟩
  have B3 := Lib.hid (B4.out.trans (b3.mono B4.out.size))
  clear b3
  rcases hC : chunksOf b.data.toList with ⟨fs, E2, A2⟩
  rw [hC] at ho HLAW
  obtain ⟨a1, c1, rfl⟩ := ho.form
  have HO := Lib.hid ho
  have HOK := Lib.hid (law_ok HLAW.out)
  have HCAT := Lib.hid (law_cat HLAW.out (by simpa using hb))
  have hfs : fs.length ≤ 33554431 := Nat.le_trans (catC_len fs) HCAT.out
  clear ho hC
  simp only
  go_wp2_with fail
  go_loopw [14, 15] (fun s i wr => ∃ k : Nat, k ≤ fs.length ∧ i = .int .i64 k ∧ s = .string (bs (catC (fs.take k))) ∧ Below w.heap.size w wr ∧ Below w3.heap.size w3 wr) (fun _ i _ => fs.length - (intOf i).toNat)
  case atStart => exact ⟨0, Nat.zero_le _, rfl, rfl, B3.out, Below.refl _ _⟩
  case round =>
    obtain ⟨k, hk, rfl, rfl, hB, hB3⟩ := hrel
    have HB := Lib.hid hB
    have HB3 := Lib.hid hB3
    clear hB hB3
    by_cases hlt : k < fs.length
    · obtain ⟨g, c1, hv, q1, q2⟩ := (HO.out.below HB3.out (fun j hj => (HO.out.lt j hj).2)).file hlt
      injection hv with hv1 _ hv2
      subst hv1 hv2
      obtain ⟨t1, t2⟩ := HOK.out fs[k] (List.getElem_mem hlt)
      have HS := Lib.hid (catC_snoc fs k hlt)
      have HL := Lib.hid (catC_take fs k hlt)
      generalize fs[k] = f at q1 q2 t1 t2 HS HL
      have hki : (k : Int) < (fs.length : Int) := by omega
      have T1 := Lib.hid t1
      have T2 := Lib.hid t2
      clear t1 t2
      go_wp2_with fail
      have hCG := chunk_good f.1 f.2 T1.out T2.out
      have hsum : (bs (catC (fs.take k))).size + (bs (chunkOf f.1 f.2)).size ≤ 9223372036854775807 := by
        have h1 := HL.out
        have h2 := HCAT.out
        rw [bs_size, bs_size]; omega
      go_region_with (go_at_call 15; refine (hCG _).mono ?_; rintro e w4 ⟨rfl, b4⟩)
      all_goals
        clear hCG
        have HB4 := Lib.hid (show Below wr.heap.size wr w4 from (Below.refl _ wr).drew.trans b4)
        clear b4
        go_wp2_with fail
        go_roundw
        case rel => exact ⟨k + 1, by omega, by go_num, by rw [HS.out, bs_app], HB.out.trans (HB4.out.mono HB.out.size), HB3.out.trans (HB4.out.mono HB3.out.size)⟩
        case measure => simp [intOf]; omega
    · obtain rfl : k = fs.length := by omega
      rw [List.take_length]
      by_cases hz : E2 = 0
      · subst hz
        have hall : bs (catC fs) = b := by rw [(HLAW.out.1 rfl).1, bs_of]
        go_wp2_with fail
        go_ret
        exact ⟨rfl, HB.out⟩
      · have hf : fs = [] := HLAW.out.2 hz
        subst hf
        have hz1 : ((E2 : Int) == 0) = false := by simp; omega
        have hz2 : ((E2 : Int) != 0) = true := by simp; omega
        clear hz
        go_wp2_with fail
        go_ret
        exact ⟨rfl, HB.out⟩
theorem wireOne_walk (a0 : ByteArray) (a1 : Int) (w0 : a0.size ≤ maxLen) (w1 : (Lit.int .i64 a1).wf = true) (w : World) :
    Calls Try.prog 7 #[.string a0, .int .i64 a1] w fun e w' => e = .returned (.bool true) ∧ Below w.heap.size w w' := by
  obtain ⟨h1, h2⟩ := wf_i64 w1
  have _u0 := w0
  by_cases hf : 33554431 < (a0.size : Int)
  · exact one_far a0 a1 w hf
  by_cases hE : (nextOf a0.data.toList a1).2.2.2 = 0
  · exact one_good a0 a1 w (by omega) hE
  · exact one_bad a0 a1 w (by omega) h1 h2 hE
end Go.Proofs.Ytidflgagcamdpaa
