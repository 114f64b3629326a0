/- WireOne returns true: a chunk has one form, and chunks one behind the other are read as these. -/
import Derived.Test.YtidflgagcamdpaaQ
import Derived.Test.YtidflgagcamdpaaHarm3
namespace Go.Proofs.Ytidflgagcamdpaa
open Go.RowKit Go.Lib
theorem fcells_at : ∀ (fs : List Fl) (i : Nat) (h : i < fs.length), (fcells fs)[2 * i]? = some (.string (bs fs[i].1)) ∧ (fcells fs)[2 * i + 1]? = some (.string (bs fs[i].2))
  | f :: r, 0, _ => by simp [fcells, fcell]
  | f :: r, i + 1, h => by
    have := fcells_at r i (by simpa using h)
    have e : fcells (f :: r) = .string (bs f.1) :: .string (bs f.2) :: fcells r := by simp [fcells, fcell]
    rw [e, show 2 * (i + 1) = 2 * i + 1 + 1 by omega]
    simpa using this
theorem Owns.file {w : World} {B : Nat} {v : Value} {fs : List Fl} (h : Owns w B 60 2 v fs.length (fcells fs)) {i : Nat} (hi : i < fs.length) :
    ∃ g c, v = .slice (some ⟨g, 0, none⟩) fs.length c ∧ w.cell? ⟨g, i * 2, none⟩ = some (.string (bs fs[i].1)) ∧ w.cell? ⟨g, i * 2 + 1, none⟩ = some (.string (bs fs[i].2)) := by
  rcases h.2 with ⟨_, h0⟩ | ⟨g, cap, cur, fz, rfl, _⟩
  · omega
  · have hc := h.cells (g := g) rfl
    obtain ⟨h1, h2⟩ := fcells_at fs i hi
    have k1 := hc _ _ h1
    have k2 := hc _ _ h2
    rw [Addr.add_lit, Nat.zero_add, Nat.mul_comm] at k1 k2
    exact ⟨g, cap, rfl, k1, k2⟩
theorem catC_snoc (fs : List Fl) (k : Nat) (h : k < fs.length) : catC (fs.take (k + 1)) = catC (fs.take k) ++ chunkOf fs[k].1 fs[k].2 := by
  rw [List.take_succ_eq_append_getElem h]; unfold catC; rw [List.flatMap_append, List.flatMap_singleton]
theorem catC_take (fs : List Fl) (k : Nat) (h : k < fs.length) : (catC (fs.take k)).length + (chunkOf fs[k].1 fs[k].2).length ≤ (catC fs).length := by
  have e : catC fs = catC (fs.take (k + 1)) ++ catC (fs.drop (k + 1)) := by
    unfold catC; rw [← List.flatMap_append, List.take_append_drop]
  rw [e, catC_snoc fs k h]; simp
theorem catC_len : ∀ fs : List Fl, fs.length ≤ (catC fs).length
  | [] => by simp
  | f :: r => by
    have h := catC_len r
    have e : catC (f :: r) = chunkOf f.1 f.2 ++ catC r := rfl
    have h2 : 1 ≤ (chunkOf f.1 f.2).length := by simp [chunkOf, leBytes_len]; omega
    rw [e, List.length_append, List.length_cons]; omega
theorem law_ok {b : List UInt8} {fs : List Fl} {E A : Nat} (h : ((fs, E, A).2.1 = 0 → catC (fs, E, A).1 = b ∧ OkC (fs, E, A).1) ∧ ((fs, E, A).2.1 ≠ 0 → (fs, E, A).1 = [])) : OkC fs := by
  by_cases h0 : E = 0
  · exact (h.1 h0).2
  · have : fs = [] := h.2 h0
    subst this
    intro f hf; cases hf
theorem law_cat {b : List UInt8} {fs : List Fl} {E A : Nat} (h : ((fs, E, A).2.1 = 0 → catC (fs, E, A).1 = b ∧ OkC (fs, E, A).1) ∧ ((fs, E, A).2.1 ≠ 0 → (fs, E, A).1 = [])) (hb : b.length ≤ 33554431) : (catC fs).length ≤ 33554431 := by
  by_cases h0 : E = 0
  · have := (h.1 h0).1
    simp only at this
    rw [this]; exact hb
  · have : fs = [] := h.2 h0
    subst this
    simp [catC]
theorem chunk_good (t c : List UInt8) (ht : Pl.isTag t = true) (hc : c.length ≤ 16777216) (w : World) :
    Calls Try.prog 15 #[.string (bs t), .string (bs c)] w fun e w' => e = .returned (.tuple #[.string (bs (chunkOf t c)), .int .i64 0]) ∧ Below w.heap.size w w' := by
  refine (chunk_any (bs t) (bs c) w (by rw [bs_size, isTag_len ht]; unfold maxLen; omega) (by rw [bs_size]; omega)).mono ?_
  rintro e w' ⟨rfl, hb⟩
  refine ⟨?_, hb⟩
  rw [bs_list, bs_list, show chunkText t c = chunkOf t c from by unfold chunkText; rw [if_pos ht, if_neg (by omega)], show chunkErr t c = 0 from by unfold chunkErr; rw [if_pos ht, if_neg (by omega)]]
  rfl
set_option maxRecDepth 100000 in
set_option maxHeartbeats 1000000 in
theorem one_far (b : ByteArray) (at_ : Int) (w : World) (h : 33554431 < (b.size : Int)) : Calls Try.prog 7 #[.string b, .int .i64 at_] w (Yes w) := by
  go_enter Try.func7, Try.ntmps7
  go_wp2_with fail
  refine (works_any _).mono ?_
  rintro e w1 ⟨rfl, b1⟩
  go_wp2_with fail
  go_ret
  exact ⟨rfl, b1⟩
set_option maxRecDepth 100000 in
set_option maxHeartbeats 2000000 in
theorem one_bad (b : ByteArray) (at_ : Int) (w : World) (hb : b.size ≤ 33554431) (h0 : -9223372036854775808 ≤ at_) (h1 : at_ ≤ 9223372036854775807) (hE : (nextOf b.data.toList at_).2.2.2 ≠ 0) :
    Calls Try.prog 7 #[.string b, .int .i64 at_] w (Yes w) := by
  have hne : (((nextOf b.data.toList at_).2.2.2 : Nat) == (0 : Int)) = false := by simp; omega
  clear hE
  have HLAW := Lib.hid (chunksOf_law b.data.toList)
  go_enter Try.func7, Try.ntmps7
  go_wp2_with fail
  refine (works_any _).mono ?_
  rintro e w1 ⟨rfl, b1⟩
  have B1 := Lib.hid b1
  clear b1
  go_wp2_with fail
  refine (next_any b at_ _ (by omega) h0 h1).mono ?_
  rintro e w2 ⟨rfl, b2⟩
  have B2 := Lib.hid (B1.out.trans (b2.mono B1.out.size))
  clear b2
  generalize (nextOf b.data.toList at_).2.2.2 = E at hne ⊢
  generalize (nextOf b.data.toList at_).2.2.1 = to
  generalize (nextOf b.data.toList at_).1 = t
  generalize (nextOf b.data.toList at_).2.1 = c
  go_wp2_with fail
  refine (chunks_any b _ hb).mono ?_
  rintro e w3 ⟨v, rfl, ho, b3⟩
  have B3 := Lib.hid (B2.out.trans (b3.mono B2.out.size))
  clear b3
  rcases hC : chunksOf b.data.toList with ⟨fs, E2, A2⟩
  rw [hC] at ho HLAW
  obtain ⟨a1, c1, rfl⟩ := ho.form
  have HO := Lib.hid ho
  have HOK := Lib.hid (law_ok HLAW.out)
  have HCAT := Lib.hid (law_cat HLAW.out (by simpa using hb))
  have hfs : fs.length ≤ 33554431 := Nat.le_trans (catC_len fs) HCAT.out
  clear ho hC
  simp only
  go_wp2_with fail
  go_loopw [14, 15] (fun s i wr => ∃ k : Nat, k ≤ fs.length ∧ i = .int .i64 k ∧ s = .string (bs (catC (fs.take k))) ∧ Below w.heap.size w wr ∧ Below w3.heap.size w3 wr) (fun _ i _ => fs.length - (intOf i).toNat)
  case atStart => exact ⟨0, Nat.zero_le _, rfl, rfl, B3.out, Below.refl _ _⟩
  case round =>
    obtain ⟨k, hk, rfl, rfl, hB, hB3⟩ := hrel
    have HB := Lib.hid hB
    have HB3 := Lib.hid hB3
    clear hB hB3
    by_cases hlt : k < fs.length
    · obtain ⟨g, c1, hv, q1, q2⟩ := (HO.out.below HB3.out (fun j hj => (HO.out.lt j hj).2)).file hlt
      injection hv with hv1 _ hv2
      subst hv1 hv2
      obtain ⟨t1, t2⟩ := HOK.out fs[k] (List.getElem_mem hlt)
      have HS := Lib.hid (catC_snoc fs k hlt)
      have HL := Lib.hid (catC_take fs k hlt)
      generalize fs[k] = f at q1 q2 t1 t2 HS HL
      have hki : (k : Int) < (fs.length : Int) := by omega
      have T1 := Lib.hid t1
      have T2 := Lib.hid t2
      clear t1 t2
      go_wp2_with fail
      have hCG := chunk_good f.1 f.2 T1.out T2.out
      have hsum : (bs (catC (fs.take k))).size + (bs (chunkOf f.1 f.2)).size ≤ 9223372036854775807 := by
        have h1 := HL.out
        have h2 := HCAT.out
        rw [bs_size, bs_size]; omega
      go_region_with (go_at_call 15; refine (hCG _).mono ?_; rintro e w4 ⟨rfl, b4⟩)
      all_goals
        clear hCG
        have HB4 := Lib.hid (show Below wr.heap.size wr w4 from (Below.refl _ wr).drew.trans b4)
        clear b4
        go_wp2_with fail
        go_roundw
        case rel => exact ⟨k + 1, by omega, by go_num, by rw [HS.out, bs_app], HB.out.trans (HB4.out.mono HB.out.size), HB3.out.trans (HB4.out.mono HB3.out.size)⟩
        case measure => simp [intOf]; omega
    · obtain rfl : k = fs.length := by omega
      rw [List.take_length]
      by_cases hz : E2 = 0
      · subst hz
        have hall : bs (catC fs) = b := by rw [(HLAW.out.1 rfl).1, bs_of]
        go_wp2_with fail
        go_ret
        exact ⟨rfl, HB.out⟩
      · have hf : fs = [] := HLAW.out.2 hz
        subst hf
        have hz1 : ((E2 : Int) == 0) = false := by simp; omega
        have hz2 : ((E2 : Int) != 0) = true := by simp; omega
        clear hz
        go_wp2_with fail
        go_ret
        exact ⟨rfl, HB.out⟩
end Go.Proofs.Ytidflgagcamdpaa
