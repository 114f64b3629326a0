/- The document's Unpack. (Printed by gen_rux.py.) LendLit: literals with one place more behind each list. -/
import Derived.Test.YtoklnpoacckbfaaGreatDoorKuad
import Derived.Test.YtoklnpoacckbfaaGreatDoorKaak
import Derived.Test.YtoklnpoacckbfaaGreatDoorKabj
import Derived.Test.YtoklnpoacckbfaaGreatDoorKuab
import Derived.Test.YtoklnpoacckbfaaGreatDoorKaai
namespace Go.Proofs.YtoklnpoacckbfaaGreatDoor
open Go Go.RowKit Go.Lib
set_option maxRecDepth 100000 in
set_option maxHeartbeats 16000000 in
theorem runpack_any {B : Nat} {w : World} {sel b : ByteArray} {lits : List Pl.Lit} {L : Value} (hL : LitsAt B w lits L) (hBw : B ≤ w.heap.size) (hsel : sel.size ≤ 140737488355328) (hbs : b.size ≤ 140737488355328) (hbig : Pl.litsBig lits ≤ 262144) :
    Calls Tryz.prog 19 #[.string sel, L, .string b] w (RunEnd sel lits b L w) := by
  have HL := Lib.hid hL
  obtain ⟨Al, capl, Vl, rfl, _⟩ := hL.out
  clear hL
  obtain ⟨l, hl⟩ : ∃ l, Pl.sb b = l := ⟨_, rfl⟩
  have HSB := Lib.hid hl
  have hll : l.length = b.size := by rw [← hl, Pl.sb_size]
  have HV := Lib.hid (show ∀ i, Pl.nxV l i < 256 from fun i => Pl.nxV_lt (by rw [← hl]; exact Pl.sb_lt b) i)
  have HNO := Lib.hid (fun (h : Pl.rdQ (fun _ => true) l = none) => Pl.unpackC_not_any (sel := sel) (lits := lits) (b := b) (by rw [hl]; exact h))
  have HBAD := Lib.hid (fun (p : Int) (us : List Pl.Unt) (h : Pl.rdQ (fun _ => true) l = some (p, us)) => Pl.unpackC_any_bad (sel := sel) (lits := lits) (b := b) (by rw [hl]; exact h))
  have HYES := Lib.hid (fun (p : Int) (us : List Pl.Unt) (h : Pl.rdQ (fun _ => true) l = some (p, us)) => Pl.unpackC_of_any (sel := sel) (lits := lits) (b := b) (by rw [hl]; exact h))
  clear hl
  obtain ⟨P, hP⟩ : ∃ P, w.heap.size + 1 = P := ⟨_, rfl⟩
  obtain ⟨C, hC⟩ : ∃ C, w.heap.size + 2 = C := ⟨_, rfl⟩
  have HP := Lib.hid hP
  have HC := Lib.hid hC
  have HR1 := Lib.hid (show CodBox ((w.alloc (.cells #[.string ⟨#[]⟩, .int .i64 0, .slice none 0 0, .slice none 0 0] 25)).alloc (.cells #[.string b, .int .i64 0, .bool false] 89)) w.heap.size (.string ⟨#[]⟩) (.int .i64 0) (.slice none 0 0) (.slice none 0 0) from ⟨by simp [go_sem], by simp [go_sem], by simp [go_sem], by simp [go_sem], by simp [go_sem], by simp [go_sem], by simp [go_sem], by simp [go_sem], by simp; omega⟩)
  have HD1 := Lib.hid (show DS (fun g => g = P) ((w.alloc (.cells #[.string ⟨#[]⟩, .int .i64 0, .slice none 0 0, .slice none 0 0] 25)).alloc (.cells #[.string b, .int .i64 0, .bool false] 89)) ((w.alloc (.cells #[.string ⟨#[]⟩, .int .i64 0, .slice none 0 0, .slice none 0 0] 25)).alloc (.cells #[.string b, .int .i64 0, .bool false] 89)) P b 0 false from by
    subst hP
    exact ⟨⟨by simp [go_sem], by simp [go_sem], by simp [go_sem], by simp [go_sem], by simp [go_sem]⟩, by simp, Save.refl _ _⟩)
  have HB1 := Lib.hid (show Below w.heap.size w ((w.alloc (.cells #[.string ⟨#[]⟩, .int .i64 0, .slice none 0 0, .slice none 0 0] 25)).alloc (.cells #[.string b, .int .i64 0, .bool false] 89)) from ((Below.refl _ _).alloc (Nat.le_refl _) _).alloc (by simp) _)
  have hz1 : ((w.alloc (.cells #[.string ⟨#[]⟩, .int .i64 0, .slice none 0 0, .slice none 0 0] 25)).alloc (.cells #[.string b, .int .i64 0, .bool false] 89)).heap.size = w.heap.size + 2 := by simp
  go_enter Tryz.func19, Tryz.ntmps19
  go_wp2_with fail
  generalize (w.alloc (.cells #[.string ⟨#[]⟩, .int .i64 0, .slice none 0 0, .slice none 0 0] 25)).alloc (.cells #[.string b, .int .i64 0, .bool false] 89) = w1 at HR1 HD1 HB1 hz1 ⊢
  try rw [hP]
  refine (nextD HSB.out HD1.out rfl hbs).mono ?_
  rintro e w2 ⟨hv0, rfl, hr, hbt⟩
  obtain ⟨p, hp⟩ : ∃ p, Pl.nxV l 0 = p := ⟨_, rfl⟩
  obtain ⟨i1, hi1⟩ : ∃ x, Pl.nxI l 0 = x := ⟨_, rfl⟩
  obtain ⟨b1, hb1⟩ : ∃ x, Pl.nxB l 0 false = x := ⟨_, rfl⟩
  rw [hp] at hv0 ⊢
  rw [hi1, hb1] at hr
  have hz2 := hbt.size
  have HR2 := Lib.hid (HR1.out.save hbt.save (by omega))
  have HD2 := Lib.hid (hr.alloc (.cells #[.string sel, .int .i64 (p : Int), .slice Al lits.length capl, .slice none 0 0] 25))
  have HHP := Lib.hid hp
  have HH1 := Lib.hid hi1
  have HG1 := Lib.hid hb1
  have hw2C : w2.heap.size = C := by omega
  have HB3 := Lib.hid (HB1.out.trans (hr.s.below (by omega) (fun j hj => by omega)))
  clear hr hbt hp hi1 hb1 HR1 HD1 HB1
  go_wp2_with fail
  have HR3 := Lib.hid (HR2.out.save ((Save.refl (fun _ => False) w2).alloc (.cells #[.string sel, .int .i64 (p : Int), .slice Al lits.length capl, .slice none 0 0] 25)) (fun f => f))
  have HC3 := Lib.hid (show CodBox (w2.alloc (.cells #[.string sel, .int .i64 (p : Int), .slice Al lits.length capl, .slice none 0 0] 25)) C (.string sel) (.int .i64 (p : Int)) (.slice Al lits.length capl) (.slice none 0 0) from by
    rw [← hw2C]
    exact ⟨by simp [go_sem], by simp [go_sem], by simp [go_sem], by simp [go_sem], by simp [go_sem], by simp [go_sem], by simp [go_sem], by simp [go_sem], by simp⟩)
  have HB3b := Lib.hid (HB3.out.alloc (by omega) (.cells #[.string sel, .int .i64 (p : Int), .slice Al lits.length capl, .slice none 0 0] 25))
  have HD3 := Lib.hid (show DS (fun g => g = P ∨ g = C) (w2.alloc (.cells #[.string sel, .int .i64 (p : Int), .slice Al lits.length capl, .slice none 0 0] 25)) (w2.alloc (.cells #[.string sel, .int .i64 (p : Int), .slice Al lits.length capl, .slice none 0 0] 25)) P b i1 b1 from HD2.out.self)
  have hz3 : (w2.alloc (.cells #[.string sel, .int .i64 (p : Int), .slice Al lits.length capl, .slice none 0 0] 25)).heap.size = C + 1 := by simp; omega
  try rw [hw2C]
  generalize w2.alloc (.cells #[.string sel, .int .i64 (p : Int), .slice Al lits.length capl, .slice none 0 0] 25) = w3 at HR3 HC3 HB3b HD3 hz3 ⊢
  refine (nextD HSB.out HD3.out (.inl rfl) hbs).mono ?_
  rintro e w4 ⟨hv1, rfl, hr, hbt⟩
  obtain ⟨N, hN⟩ : ∃ N, Pl.nxV l i1 = N := ⟨_, rfl⟩
  obtain ⟨i2, hi2⟩ : ∃ x, Pl.nxI l i1 = x := ⟨_, rfl⟩
  obtain ⟨b2, hb2⟩ : ∃ x, Pl.nxB l i1 b1 = x := ⟨_, rfl⟩
  rw [hN] at hv1 ⊢
  rw [hi2, hb2] at hr
  have HC4 := Lib.hid (HC3.out.save hbt.save (show ¬ C = P by omega))
  have HR4 := Lib.hid (HR3.out.save hbt.save (show ¬ w.heap.size = P by omega))
  have HD4 := Lib.hid hr
  have hPC : ¬ P = C := by omega
  have HTF := Lib.hid (show b2 = false → l = p :: N :: l.drop 2 ∧ i2 = 2 from fun e => by
    have h := Pl.two_false (l := l) (by rw [HH1.out, HG1.out, hb2]; exact e)
    rw [HH1.out, HHP.out, hN, hi2] at h
    exact ⟨h.2.2, h.2.1⟩)
  have HTT := Lib.hid (show b2 = true → Pl.rdQ (fun _ => true) l = none from fun e => Pl.rdQ_few (Pl.two_true (l := l) (by rw [HH1.out, HG1.out, hb2]; exact e)))
  have hi2l : i2 ≤ l.length := by rw [← hi2]; exact Pl.nxI_le (by rw [← HH1.out]; exact Pl.nxI_le (Nat.zero_le _))
  have HO4 := Lib.hid (Owns.nil w4 w3.heap.size 58 5)
  clear hr hbt hN hi2 hb2
  go_wp2_with fail
  generalize hq0 : Value.slice none 0 0 = q0 at HC4 HO4
  clear hq0
  go_loopw [11] (fun iv wr => ∃ (k : Nat) (ps : List (Pl.Unt × Value)) (i : Nat) (bad : Bool) (U : Value), iv = .int .i64 k ∧ k ≤ N ∧ ps.length = k ∧ i ≤ l.length ∧ (bad = true → Pl.rdQ (fun _ => true) l = none) ∧
      (bad = false → l = p :: N :: l.drop 2 ∧ Pl.rdMany (Pl.rdUnt fun _ => true) N (l.drop 2) = Pl.glue (ps.map (·.1)) (Pl.rdMany (Pl.rdUnt fun _ => true) (N - k) (l.drop i))) ∧ (∀ x ∈ ps, Pl.UntW x.1) ∧
      DS (fun g => g = P ∨ g = C) w3 wr P b i bad ∧ CodBox wr C (.string sel) (.int .i64 (p : Int)) (.slice Al lits.length capl) U ∧ Owns wr w3.heap.size 58 5 U ps.length (rowOf untCells ps) ∧
      (∀ (i : Nat) (x : Pl.Unt × Value), ps[i]? = some x → InssOf (fun g => w3.heap.size ≤ g ∧ U.ownBlock ≠ some g) wr x.1.code x.2)) (fun iv _ => N - (RowKit.intOf iv).toNat)
  case atStart => exact ⟨0, [], i2, b2, q0, rfl, Nat.zero_le _, rfl, hi2l, HTT.out, fun e => ⟨(HTF.out e).1, by rw [(HTF.out e).2]; exact (Pl.glue_nil _).symm⟩, by simp, HD4.out, HC4.out, HO4.out, by simp⟩
  case round =>
    obtain ⟨k, ps, i, bad, U, rfl, hk, hpl, hil, hbt, hbf, hpw, hD, hCB, hO, hI⟩ := hrel
    have HBT := Lib.hid hbt
    have HBF := Lib.hid hbf
    have HPW := Lib.hid hpw
    have HD := Lib.hid hD
    have HCB := Lib.hid hCB
    have HO := Lib.hid hO
    have HI := Lib.hid hI
    have hz := hD.s.size
    have HR := Lib.hid (HR3.out.save hD.s (show ¬ (w.heap.size = P ∨ w.heap.size = C) by omega))
    have HBW := Lib.hid (HB3b.out.trans (hD.s.below (by omega) (fun j hj => by omega)))
    obtain ⟨r0, r1, r2, g1, g2⟩ := hD.r
    have hPl : P < wr.heap.size := by omega
    clear hbt hbf hpw hD hCB hO hI HC4 HR4 HD4 HO4
    subst hpl
    by_cases hgo : ps.length < N ∧ bad = false
    · obtain ⟨hlt, rfl⟩ := hgo
      obtain ⟨wo, hwo⟩ : ∃ z, z = wr := ⟨wr, rfl⟩
      subst hwo
      have hltI : (ps.length : Int) < (N : Int) := by omega
      obtain ⟨Ub, hUb⟩ : ∃ x, wo.heap.size = x := ⟨_, rfl⟩
      have hPU : ¬ P = Ub := by omega
      have HU0 := Lib.hid (UntBox.new wo 0 0 0 0 (.slice none 0 0))
      have HDa := Lib.hid ((HD.out.self (T := fun g => g = P)).alloc (.cells #[.int .i64 0, .int .i64 0, .int .i64 0, .int .i64 0, .slice none 0 0] 58))
      rw [hUb] at HU0
      go_wp2_with fail
      try rw [hUb]
      clear r0 r1 r2 g1 g2
      generalize wo.alloc (.cells #[.int .i64 0, .int .i64 0, .int .i64 0, .int .i64 0, .slice none 0 0] 58) = wa at HU0 HDa ⊢
      refine (nextD HSB.out HDa.out rfl hbs).mono ?_
      rintro e w10 ⟨hv0, rfl, hr, hbt⟩
      obtain ⟨v0, hv0e⟩ : ∃ x, Pl.nxV l i = x := ⟨_, rfl⟩
      obtain ⟨j1, hj1⟩ : ∃ x, Pl.nxI l i = x := ⟨_, rfl⟩
      obtain ⟨d1, hd1⟩ : ∃ x, Pl.nxB l i false = x := ⟨_, rfl⟩
      rw [hv0e] at hv0 ⊢
      rw [hj1, hd1] at hr
      have hl1 : j1 ≤ l.length := by rw [← hj1]; exact Pl.nxI_le hil
      have HV0 := Lib.hid hv0e
      have HJ1 := Lib.hid hj1
      have HE1 := Lib.hid hd1
      have HU1 := Lib.hid (HU0.out.save hbt.save (show ¬ Ub = P by omega))
      have hs1 := hr.s.size
      clear HDa hv0e hj1 hd1 hbt
      have HDa := Lib.hid hr
      clear hr
      obtain ⟨q0, q1, q2, q3, q4, f0, f1, f2, f3, f4, hUl⟩ := HU1.out
      go_wp2_with fail
      clear q0 q1 q2 q3 q4 f0 f1 f2 f3 f4 hUl
      refine (nextD HSB.out (HDa.out.set Ub 0 _ hPU (fun h => absurd h (by omega))) rfl hbs).mono ?_
      rintro e w11 ⟨hv1, rfl, hr, hbt⟩
      obtain ⟨v1, hv1e⟩ : ∃ x, Pl.nxV l j1 = x := ⟨_, rfl⟩
      obtain ⟨j2, hj2⟩ : ∃ x, Pl.nxI l j1 = x := ⟨_, rfl⟩
      obtain ⟨d2, hd2⟩ : ∃ x, Pl.nxB l j1 d1 = x := ⟨_, rfl⟩
      rw [hv1e] at hv1 ⊢
      rw [hj2, hd2] at hr
      have hl2 : j2 ≤ l.length := by rw [← hj2]; exact Pl.nxI_le hl1
      have HV1 := Lib.hid hv1e
      have HJ2 := Lib.hid hj2
      have HE2 := Lib.hid hd2
      have HU2 := Lib.hid ((HU1.out.set0 _).save hbt.save (show ¬ Ub = P by omega))
      have hs2 := hr.s.size
      clear HDa hv1e hj2 hd2 hbt
      have HDa := Lib.hid hr
      clear hr
      obtain ⟨q0, q1, q2, q3, q4, f0, f1, f2, f3, f4, hUl⟩ := HU2.out
      go_wp2_with fail
      clear q0 q1 q2 q3 q4 f0 f1 f2 f3 f4 hUl
      refine (nextD HSB.out (HDa.out.set Ub 1 _ hPU (fun h => absurd h (by omega))) rfl hbs).mono ?_
      rintro e w12 ⟨hv2, rfl, hr, hbt⟩
      obtain ⟨v2, hv2e⟩ : ∃ x, Pl.nxV l j2 = x := ⟨_, rfl⟩
      obtain ⟨j3, hj3⟩ : ∃ x, Pl.nxI l j2 = x := ⟨_, rfl⟩
      obtain ⟨d3, hd3⟩ : ∃ x, Pl.nxB l j2 d2 = x := ⟨_, rfl⟩
      rw [hv2e] at hv2 ⊢
      rw [hj3, hd3] at hr
      have hl3 : j3 ≤ l.length := by rw [← hj3]; exact Pl.nxI_le hl2
      have HV2 := Lib.hid hv2e
      have HJ3 := Lib.hid hj3
      have HE3 := Lib.hid hd3
      have HU3 := Lib.hid ((HU2.out.set1 _).save hbt.save (show ¬ Ub = P by omega))
      have hs3 := hr.s.size
      clear HDa hv2e hj3 hd3 hbt
      have HDa := Lib.hid hr
      clear hr
      obtain ⟨q0, q1, q2, q3, q4, f0, f1, f2, f3, f4, hUl⟩ := HU3.out
      go_wp2_with fail
      clear q0 q1 q2 q3 q4 f0 f1 f2 f3 f4 hUl
      refine (nextD HSB.out (HDa.out.set Ub 2 _ hPU (fun h => absurd h (by omega))) rfl hbs).mono ?_
      rintro e w13 ⟨hv3, rfl, hr, hbt⟩
      obtain ⟨v3, hv3e⟩ : ∃ x, Pl.nxV l j3 = x := ⟨_, rfl⟩
      obtain ⟨j4, hj4⟩ : ∃ x, Pl.nxI l j3 = x := ⟨_, rfl⟩
      obtain ⟨d4, hd4⟩ : ∃ x, Pl.nxB l j3 d3 = x := ⟨_, rfl⟩
      rw [hv3e] at hv3 ⊢
      rw [hj4, hd4] at hr
      have hl4 : j4 ≤ l.length := by rw [← hj4]; exact Pl.nxI_le hl3
      have HV3 := Lib.hid hv3e
      have HJ4 := Lib.hid hj4
      have HE4 := Lib.hid hd4
      have HU4 := Lib.hid ((HU3.out.set2 _).save hbt.save (show ¬ Ub = P by omega))
      have hs4 := hr.s.size
      clear HDa hv3e hj4 hd4 hbt
      have HDa := Lib.hid hr
      clear hr
      obtain ⟨q0, q1, q2, q3, q4, f0, f1, f2, f3, f4, hUl⟩ := HU4.out
      go_wp2_with fail
      clear q0 q1 q2 q3 q4 f0 f1 f2 f3 f4 hUl
      refine (nextD HSB.out (HDa.out.set Ub 3 _ hPU (fun h => absurd h (by omega))) rfl hbs).mono ?_
      rintro e w14 ⟨hv4, rfl, hr, hbt⟩
      obtain ⟨v4, hv4e⟩ : ∃ x, Pl.nxV l j4 = x := ⟨_, rfl⟩
      obtain ⟨j5, hj5⟩ : ∃ x, Pl.nxI l j4 = x := ⟨_, rfl⟩
      obtain ⟨d5, hd5⟩ : ∃ x, Pl.nxB l j4 d4 = x := ⟨_, rfl⟩
      rw [hv4e] at hv4 ⊢
      rw [hj5, hd5] at hr
      have hl5 : j5 ≤ l.length := by rw [← hj5]; exact Pl.nxI_le hl4
      have HV4 := Lib.hid hv4e
      have HJ5 := Lib.hid hj5
      have HE5 := Lib.hid hd5
      have HU5 := Lib.hid ((HU4.out.set3 _).save hbt.save (show ¬ Ub = P by omega))
      have hs5 := hr.s.size
      clear HDa hv4e hj5 hd5 hbt
      have HDa := Lib.hid hr
      clear hr
      go_wp2_with fail
      refine (nextD HSB.out HDa.out rfl hbs).mono ?_
      rintro e w15 ⟨hv5, rfl, hr, hbt⟩
      obtain ⟨v5, hv5e⟩ : ∃ x, Pl.nxV l j5 = x := ⟨_, rfl⟩
      obtain ⟨j6, hj6⟩ : ∃ x, Pl.nxI l j5 = x := ⟨_, rfl⟩
      obtain ⟨d6, hd6⟩ : ∃ x, Pl.nxB l j5 d5 = x := ⟨_, rfl⟩
      rw [hv5e] at hv5 ⊢
      rw [hj6, hd6] at hr
      have hl6 : j6 ≤ l.length := by rw [← hj6]; exact Pl.nxI_le hl5
      have HV5 := Lib.hid hv5e
      have HJ6 := Lib.hid hj6
      have HE6 := Lib.hid hd6
      have HU6 := Lib.hid (HU5.out.save hbt.save (show ¬ Ub = P by omega))
      have hs6 := hr.s.size
      clear HDa hv5e hj6 hd6 hbt
      have HDa := Lib.hid hr
      clear hr
      obtain ⟨M, hM⟩ : ∃ M, v4 + 256 * v5 = M := ⟨_, rfl⟩
      have hMI : (v4 : Int) + 256 * (v5 : Int) = (M : Int) := by omega
      have hM2 : M < 65536 := by omega
      have HM := Lib.hid (show M = Pl.nxV l (Pl.nxI l (Pl.nxI l (Pl.nxI l (Pl.nxI l i)))) + 256 * Pl.nxV l (Pl.nxI l (Pl.nxI l (Pl.nxI l (Pl.nxI l (Pl.nxI l i))))) from by rw [HJ1.out, HJ2.out, HJ3.out, HJ4.out, HJ5.out, HV4.out, HV5.out]; exact hM.symm)
      have HSX := Lib.hid (show Pl.six l i = d6 from by unfold Pl.six; rw [HJ1.out, HJ2.out, HJ3.out, HJ4.out, HJ5.out, HE1.out, HE2.out, HE3.out, HE4.out, HE5.out, HE6.out])
      have HJX := Lib.hid (show d6 = false → j6 = i + 6 from fun e => by
        have := (Pl.six_false (HSX.out.trans e)).2.1
        rw [HJ1.out, HJ2.out, HJ3.out, HJ4.out, HJ5.out, HJ6.out] at this
        exact this)
      have HUQ := Lib.hid (show (⟨(Pl.nxV l i : Nat), (Pl.nxV l (Pl.nxI l i) : Nat), (Pl.nxV l (Pl.nxI l (Pl.nxI l i)) : Nat), (Pl.nxV l (Pl.nxI l (Pl.nxI l (Pl.nxI l i))) : Nat), []⟩ : Pl.Unt) = ⟨v0, v1, v2, v3, []⟩ from by rw [HJ1.out, HJ2.out, HJ3.out, HV0.out, HV1.out, HV2.out, HV3.out])
      obtain ⟨wm, hwm⟩ : ∃ z, z = w15 := ⟨w15, rfl⟩
      subst hwm
      have HOI := Lib.hid (Owns.nil wm wm.heap.size 61 3)
      generalize hq1 : Value.slice none 0 0 = q1 at HU6 HOI
      clear hq1
      have hUm := HU6.out.lt
      have hPm : P < wm.heap.size := Nat.lt_of_lt_of_le HDa.out.hP HDa.out.s.size
      go_wp2_with fail
      try rw [hMI]
      go_loopw [14] (fun kv wr => ∃ (k : Nat) (xs : List Pl.Ins) (j : Nat) (bd : Bool) (q : Value), kv = .int .i64 k ∧ k ≤ M ∧ xs.length = k ∧ j ≤ l.length ∧ (bd = true → Pl.rdUnt (fun _ => true) (l.drop i) = none) ∧
          (bd = false → Pl.six l i = false ∧ Pl.rdMany (Pl.rdIns fun _ => true) M (l.drop (i + 6)) = Pl.glue xs (Pl.rdMany (Pl.rdIns fun _ => true) (M - k) (l.drop j))) ∧ (∀ x ∈ xs, Pl.InsW x) ∧
          DS (fun g => g = P ∨ g = Ub) wm wr P b j bd ∧ UntBox wr Ub v0 v1 v2 v3 q ∧ Owns wr wm.heap.size 61 3 q xs.length (insRow xs)) (fun kv _ => M - (RowKit.intOf kv).toNat)
      case atStart => exact ⟨0, [], j6, d6, q1, rfl, Nat.zero_le _, rfl, hl6, fun e => Pl.six_true (HSX.out.trans e) _, fun e => ⟨HSX.out.trans e, by rw [HJX.out e]; exact (Pl.glue_nil _).symm⟩, by simp, HDa.out.self, HU6.out, HOI.out⟩
      case round =>
        obtain ⟨k, xs, j, bd, q, rfl, hk2, hxl, hjl, hdt, hdf, hxw, hD2, hU2, hO2⟩ := hrel
        have HDT := Lib.hid hdt
        have HDF := Lib.hid hdf
        have HXW := Lib.hid hxw
        have HD2 := Lib.hid hD2
        have HU2 := Lib.hid hU2
        have HO2 := Lib.hid hO2
        have hz2 := hD2.s.size
        have hOB := Lib.hid hO2.lt
        obtain ⟨r0, r1, r2, g1, g2⟩ := hD2.r
        have hPl2 : P < wr.heap.size := by omega
        clear hdt hdf hxw hD2 hU2 hO2 HU6 HOI
        subst hxl
        by_cases hgo2 : xs.length < M ∧ bd = false
        · obtain ⟨hlt2, rfl⟩ := hgo2
          have hltI2 : (xs.length : Int) < (M : Int) := by omega
          obtain ⟨wk, hwk⟩ : ∃ z, z = wr := ⟨wr, rfl⟩
          subst hwk
          have HDk := Lib.hid (HD2.out.self (T := fun g => g = P))
          go_wp2_with fail
          clear r0 r1 r2 g1 g2
          refine (nextD HSB.out HDk.out rfl hbs).mono ?_
          rintro e w20 ⟨hop, rfl, hr, hbt⟩
          obtain ⟨op, hope⟩ : ∃ x, Pl.nxV l j = x := ⟨_, rfl⟩
          rw [hope] at hop ⊢
          have hopI : (op : Int) < 256 := by omega
          have HOP := Lib.hid hope
          clear HDk hope
          have hszk := hbt.size
          have HDk := Lib.hid (hr.alloc (.cells #[.int .u8 op, .int .i64 0, .int .i64 0] 61))
          obtain ⟨X, hX⟩ : ∃ x, w20.heap.size = x := ⟨_, rfl⟩
          have HX := Lib.hid (InsBox.new w20 op 0 0)
          rw [hX] at HX
          have hPX : ¬ P = X := by omega
          have hXk : wk.heap.size = X := by omega
          clear hr hbt
          go_wp2_with fail
          try rw [hX]
          generalize w20.alloc (.cells #[.int .u8 op, .int .i64 0, .int .i64 0] 61) = w21 at HDk HX ⊢
          obtain ⟨x0, x1, x2, xf1, xf2, hXl⟩ := HX.out
          have HIM := Lib.hid (Pl.ins_more (l := l) (i0 := i) (i := j) hlt2 HM.out (HDF.out trivial).1 (HDF.out trivial).2)
          have HMT := Lib.hid (show Pl.six l i = false from (HDF.out trivial).1)
          have hjs : (Pl.stIns l j false).2.1 ≤ l.length := Pl.stIns_le hjl false
          have h3 : Pl.bytesA op = 0 ∨ Pl.bytesA op = 1 ∨ Pl.bytesA op = 2 := by have := Pl.bytesA_le op; omega
          rcases h3 with hF | hF | hF
          · cases hT : Pl.two op
            · have HT := Lib.hid hT
              go_wp2_with (go_at_call 41; refine (first_any op _).mono ?_; rintro e w7 ⟨rfl, rfl⟩; rw [hF])
              have HOk := Lib.hid (HO2.out.save HDk.out.s (fun g hg e => by have := (hOB.out g hg).1; omega))
              have HUk := Lib.hid (HU2.out.save HDk.out.s (show ¬ Ub = P by omega))
              have u4 := HUk.out.c4
              have uf4 := HUk.out.f4
              have ul4 := HUk.out.lt
              have hsz6 := HDk.out.s.size
              have hst : Pl.stIns l j false = (⟨op, 0, 0⟩, (Pl.nxI l j), (Pl.nxB l j false)) := by unfold Pl.stIns Pl.stA Pl.stB; simp [HOP.out, hF, HT.out]
              have HST := Lib.hid hst
              clear hst
              go_wp2_with (first | (go_at_call 42; refine (second_any op _).mono ?_; rintro e w8 ⟨rfl, rfl⟩; rw [hT]) | (at_builtin; go_loud (refine wpList_appI rfl (.tmp 98) (.tmp 100) rfl wm.heap.size _ xs rfl HOk.out ⟨op, 0, 0⟩ _ rfl rfl (by omega) (by omega) ?_)))
              intro q1 w30 hq1 hg1
              have SG := Lib.hid (show Save (fun g => q.ownBlock = some g) _ w30 from (Save.refl _ _).grow hg1 (fun g hg _ => hg))
              have HU30 := Lib.hid (HUk.out.save SG.out (fun e => by have := (hOB.out _ e).1; omega))
              have HD30 := Lib.hid ((HDk.out.lift HD2.out.s hPm (fun g _ e => .inl e)).save SG.out (fun e => by have := (hOB.out _ e).1; omega) (fun g hg e => by have := (hOB.out _ e).1; omega))
              obtain ⟨qa, qc, hqf⟩ := hq1.form
              subst hqf
              have HQL := Lib.hid hq1.lt
              have HQ1 := Lib.hid hq1
              obtain ⟨_, _, _, _, p4, _, _, _, _, pf4, pl⟩ := HU30.out
              clear hq1 hg1 u4 uf4 ul4
              go_wp2_with fail
              go_roundw
              case rel =>
                have SE := (Save.refl (fun g => g = Ub) w30).set ⟨Ub, 4, none⟩ (.slice qa (xs.length + 1) qc) (fun _ => rfl)
                refine ⟨xs.length + 1, xs ++ [(Pl.stIns l j false).1], (Pl.stIns l j false).2.1, (Pl.stIns l j false).2.2, .slice qa (xs.length + 1) qc, by go_num, by omega, by simp, hjs, HIM.out.1, fun e => ⟨HMT.out, HIM.out.2 e⟩, ?_, ?_, HU30.out.set _, ?_⟩
                · intro y hy
                  rcases List.mem_append.1 hy with hy | hy
                  · exact HXW.out y hy
                  · rw [HST.out] at hy
                    simp at hy
                    subst hy
                    exact ⟨hop, by show (-9223372036854775808 : Int) ≤ (0 : Int); omega, by show (0 : Int) ≤ (9223372036854775807 : Int); omega, by show (-9223372036854775808 : Int) ≤ (0 : Int); omega, by show (0 : Int) ≤ (9223372036854775807 : Int); omega⟩
                · rw [HST.out]
                  exact HD30.out.save SE (show ¬ P = Ub by omega) (fun g _ e => .inr e)
                · rw [List.length_append, HST.out]
                  exact HQ1.out.save SE (fun g hg e => by have := (HQL.out g hg).1; omega)
              case measure => simp [RowKit.intOf]; omega
            · have HT := Lib.hid hT
              go_wp2_with (go_at_call 41; refine (first_any op _).mono ?_; rintro e w7 ⟨rfl, rfl⟩; rw [hF])
              go_wp2_with (go_at_call 42; refine (second_any op _).mono ?_; rintro e w8 ⟨rfl, rfl⟩; rw [hT])
              clear x0 x1 x2 xf1 xf2 hXl
              refine (nextD HSB.out HDk.out rfl hbs).mono ?_
              rintro e w22 ⟨hva2, rfl, hr, hbt⟩
              have HDk2 := Lib.hid hr
              have HX2 := Lib.hid (HX.out.save hbt.save (show ¬ X = P by omega))
              obtain ⟨y0, y1, y2, yf1, yf2, yl⟩ := HX2.out
              clear hr hbt HDk HX
              go_upto_region 25 with (fail)
              clear y0 y1 y2 yf1 yf2 yl
              have HDk := Lib.hid (HDk2.out.set X 2 (.int .i64 (Pl.nxV l (Pl.nxI l j) : Nat)) hPX (fun h => absurd h (by omega)))
              have HX := Lib.hid (HX2.out.setB (Pl.nxV l (Pl.nxI l j) : Nat))
              generalize w22.setCell ⟨X, 2, none⟩ (.int .i64 (Pl.nxV l (Pl.nxI l j) : Nat)) = w26 at HDk HX ⊢
              clear HDk2 HX2
              obtain ⟨x0, x1, x2, xf1, xf2, xl⟩ := HX.out
              have HOk := Lib.hid (HO2.out.save HDk.out.s (fun g hg e => by have := (hOB.out g hg).1; omega))
              have HUk := Lib.hid (HU2.out.save HDk.out.s (show ¬ Ub = P by omega))
              have u4 := HUk.out.c4
              have uf4 := HUk.out.f4
              have ul4 := HUk.out.lt
              have hsz6 := HDk.out.s.size
              have hst : Pl.stIns l j false = (⟨op, 0, (Pl.nxV l (Pl.nxI l j) : Nat)⟩, (Pl.nxI l (Pl.nxI l j)), (Pl.nxB l (Pl.nxI l j) (Pl.nxB l j false))) := by unfold Pl.stIns Pl.stA Pl.stB; simp [HOP.out, hF, HT.out]
              have HST := Lib.hid hst
              clear hst
              go_wp2_with (at_builtin; go_loud (refine wpList_appI rfl (.tmp 98) (.tmp 100) rfl wm.heap.size _ xs rfl HOk.out ⟨op, 0, (Pl.nxV l (Pl.nxI l j) : Nat)⟩ _ rfl rfl (by omega) (by omega) ?_))
              intro q1 w30 hq1 hg1
              have SG := Lib.hid (show Save (fun g => q.ownBlock = some g) _ w30 from (Save.refl _ _).grow hg1 (fun g hg _ => hg))
              have HU30 := Lib.hid (HUk.out.save SG.out (fun e => by have := (hOB.out _ e).1; omega))
              have HD30 := Lib.hid ((HDk.out.lift HD2.out.s hPm (fun g _ e => .inl e)).save SG.out (fun e => by have := (hOB.out _ e).1; omega) (fun g hg e => by have := (hOB.out _ e).1; omega))
              obtain ⟨qa, qc, hqf⟩ := hq1.form
              subst hqf
              have HQL := Lib.hid hq1.lt
              have HQ1 := Lib.hid hq1
              obtain ⟨_, _, _, _, p4, _, _, _, _, pf4, pl⟩ := HU30.out
              clear hq1 hg1 u4 uf4 ul4
              go_wp2_with fail
              go_roundw
              case rel =>
                have SE := (Save.refl (fun g => g = Ub) w30).set ⟨Ub, 4, none⟩ (.slice qa (xs.length + 1) qc) (fun _ => rfl)
                refine ⟨xs.length + 1, xs ++ [(Pl.stIns l j false).1], (Pl.stIns l j false).2.1, (Pl.stIns l j false).2.2, .slice qa (xs.length + 1) qc, by go_num, by omega, by simp, hjs, HIM.out.1, fun e => ⟨HMT.out, HIM.out.2 e⟩, ?_, ?_, HU30.out.set _, ?_⟩
                · intro y hy
                  rcases List.mem_append.1 hy with hy | hy
                  · exact HXW.out y hy
                  · rw [HST.out] at hy
                    simp at hy
                    subst hy
                    exact ⟨hop, by show (-9223372036854775808 : Int) ≤ (0 : Int); omega, by show (0 : Int) ≤ (9223372036854775807 : Int); omega, by show (-9223372036854775808 : Int) ≤ ((Pl.nxV l (Pl.nxI l j) : Nat) : Int); omega, by show ((Pl.nxV l (Pl.nxI l j) : Nat) : Int) ≤ (9223372036854775807 : Int); omega⟩
                · rw [HST.out]
                  exact HD30.out.save SE (show ¬ P = Ub by omega) (fun g _ e => .inr e)
                · rw [List.length_append, HST.out]
                  exact HQ1.out.save SE (fun g hg e => by have := (HQL.out g hg).1; omega)
              case measure => simp [RowKit.intOf]; omega
          · cases hT : Pl.two op
            · have HT := Lib.hid hT
              go_wp2_with (go_at_call 41; refine (first_any op _).mono ?_; rintro e w7 ⟨rfl, rfl⟩; rw [hF])
              clear x0 x1 x2 xf1 xf2 hXl
              refine (nextD HSB.out HDk.out rfl hbs).mono ?_
              rintro e w22 ⟨hva0, rfl, hr, hbt⟩
              have HDk2 := Lib.hid hr
              have HX2 := Lib.hid (HX.out.save hbt.save (show ¬ X = P by omega))
              obtain ⟨y0, y1, y2, yf1, yf2, yl⟩ := HX2.out
              clear hr hbt HDk HX
              go_wp2_with fail
              clear y0 y1 y2 yf1 yf2 yl
              have HDk := Lib.hid (HDk2.out.set X 1 (.int .i64 (Pl.nxV l (Pl.nxI l j) : Nat)) hPX (fun h => absurd h (by omega)))
              have HX := Lib.hid (HX2.out.setA (Pl.nxV l (Pl.nxI l j) : Nat))
              generalize w22.setCell ⟨X, 1, none⟩ (.int .i64 (Pl.nxV l (Pl.nxI l j) : Nat)) = w23 at HDk HX ⊢
              clear HDk2 HX2
              obtain ⟨x0, x1, x2, xf1, xf2, xl⟩ := HX.out
              have HOk := Lib.hid (HO2.out.save HDk.out.s (fun g hg e => by have := (hOB.out g hg).1; omega))
              have HUk := Lib.hid (HU2.out.save HDk.out.s (show ¬ Ub = P by omega))
              have u4 := HUk.out.c4
              have uf4 := HUk.out.f4
              have ul4 := HUk.out.lt
              have hsz6 := HDk.out.s.size
              have hst : Pl.stIns l j false = (⟨op, (Pl.nxV l (Pl.nxI l j) : Nat), 0⟩, (Pl.nxI l (Pl.nxI l j)), (Pl.nxB l (Pl.nxI l j) (Pl.nxB l j false))) := by unfold Pl.stIns Pl.stA Pl.stB; simp [HOP.out, hF, HT.out]
              have HST := Lib.hid hst
              clear hst
              go_wp2_with (first | (go_at_call 42; refine (second_any op _).mono ?_; rintro e w8 ⟨rfl, rfl⟩; rw [hT]) | (at_builtin; go_loud (refine wpList_appI rfl (.tmp 98) (.tmp 100) rfl wm.heap.size _ xs rfl HOk.out ⟨op, (Pl.nxV l (Pl.nxI l j) : Nat), 0⟩ _ rfl rfl (by omega) (by omega) ?_)))
              intro q1 w30 hq1 hg1
              have SG := Lib.hid (show Save (fun g => q.ownBlock = some g) _ w30 from (Save.refl _ _).grow hg1 (fun g hg _ => hg))
              have HU30 := Lib.hid (HUk.out.save SG.out (fun e => by have := (hOB.out _ e).1; omega))
              have HD30 := Lib.hid ((HDk.out.lift HD2.out.s hPm (fun g _ e => .inl e)).save SG.out (fun e => by have := (hOB.out _ e).1; omega) (fun g hg e => by have := (hOB.out _ e).1; omega))
              obtain ⟨qa, qc, hqf⟩ := hq1.form
              subst hqf
              have HQL := Lib.hid hq1.lt
              have HQ1 := Lib.hid hq1
              obtain ⟨_, _, _, _, p4, _, _, _, _, pf4, pl⟩ := HU30.out
              clear hq1 hg1 u4 uf4 ul4
              go_wp2_with fail
              go_roundw
              case rel =>
                have SE := (Save.refl (fun g => g = Ub) w30).set ⟨Ub, 4, none⟩ (.slice qa (xs.length + 1) qc) (fun _ => rfl)
                refine ⟨xs.length + 1, xs ++ [(Pl.stIns l j false).1], (Pl.stIns l j false).2.1, (Pl.stIns l j false).2.2, .slice qa (xs.length + 1) qc, by go_num, by omega, by simp, hjs, HIM.out.1, fun e => ⟨HMT.out, HIM.out.2 e⟩, ?_, ?_, HU30.out.set _, ?_⟩
                · intro y hy
                  rcases List.mem_append.1 hy with hy | hy
                  · exact HXW.out y hy
                  · rw [HST.out] at hy
                    simp at hy
                    subst hy
                    exact ⟨hop, by show (-9223372036854775808 : Int) ≤ ((Pl.nxV l (Pl.nxI l j) : Nat) : Int); omega, by show ((Pl.nxV l (Pl.nxI l j) : Nat) : Int) ≤ (9223372036854775807 : Int); omega, by show (-9223372036854775808 : Int) ≤ (0 : Int); omega, by show (0 : Int) ≤ (9223372036854775807 : Int); omega⟩
                · rw [HST.out]
                  exact HD30.out.save SE (show ¬ P = Ub by omega) (fun g _ e => .inr e)
                · rw [List.length_append, HST.out]
                  exact HQ1.out.save SE (fun g hg e => by have := (HQL.out g hg).1; omega)
              case measure => simp [RowKit.intOf]; omega
            · have HT := Lib.hid hT
              go_wp2_with (go_at_call 41; refine (first_any op _).mono ?_; rintro e w7 ⟨rfl, rfl⟩; rw [hF])
              clear x0 x1 x2 xf1 xf2 hXl
              refine (nextD HSB.out HDk.out rfl hbs).mono ?_
              rintro e w22 ⟨hva0, rfl, hr, hbt⟩
              have HDk2 := Lib.hid hr
              have HX2 := Lib.hid (HX.out.save hbt.save (show ¬ X = P by omega))
              obtain ⟨y0, y1, y2, yf1, yf2, yl⟩ := HX2.out
              clear hr hbt HDk HX
              go_wp2_with fail
              clear y0 y1 y2 yf1 yf2 yl
              have HDk := Lib.hid (HDk2.out.set X 1 (.int .i64 (Pl.nxV l (Pl.nxI l j) : Nat)) hPX (fun h => absurd h (by omega)))
              have HX := Lib.hid (HX2.out.setA (Pl.nxV l (Pl.nxI l j) : Nat))
              generalize w22.setCell ⟨X, 1, none⟩ (.int .i64 (Pl.nxV l (Pl.nxI l j) : Nat)) = w23 at HDk HX ⊢
              clear HDk2 HX2
              obtain ⟨x0, x1, x2, xf1, xf2, xl⟩ := HX.out
              go_wp2_with (go_at_call 42; refine (second_any op _).mono ?_; rintro e w8 ⟨rfl, rfl⟩; rw [hT])
              clear x0 x1 x2 xf1 xf2 xl
              refine (nextD HSB.out HDk.out rfl hbs).mono ?_
              rintro e w22 ⟨hva2, rfl, hr, hbt⟩
              have HDk2 := Lib.hid hr
              have HX2 := Lib.hid (HX.out.save hbt.save (show ¬ X = P by omega))
              obtain ⟨y0, y1, y2, yf1, yf2, yl⟩ := HX2.out
              clear hr hbt HDk HX
              go_upto_region 25 with (fail)
              clear y0 y1 y2 yf1 yf2 yl
              have HDk := Lib.hid (HDk2.out.set X 2 (.int .i64 (Pl.nxV l (Pl.nxI l (Pl.nxI l j)) : Nat)) hPX (fun h => absurd h (by omega)))
              have HX := Lib.hid (HX2.out.setB (Pl.nxV l (Pl.nxI l (Pl.nxI l j)) : Nat))
              generalize w22.setCell ⟨X, 2, none⟩ (.int .i64 (Pl.nxV l (Pl.nxI l (Pl.nxI l j)) : Nat)) = w26 at HDk HX ⊢
              clear HDk2 HX2
              obtain ⟨x0, x1, x2, xf1, xf2, xl⟩ := HX.out
              have HOk := Lib.hid (HO2.out.save HDk.out.s (fun g hg e => by have := (hOB.out g hg).1; omega))
              have HUk := Lib.hid (HU2.out.save HDk.out.s (show ¬ Ub = P by omega))
              have u4 := HUk.out.c4
              have uf4 := HUk.out.f4
              have ul4 := HUk.out.lt
              have hsz6 := HDk.out.s.size
              have hst : Pl.stIns l j false = (⟨op, (Pl.nxV l (Pl.nxI l j) : Nat), (Pl.nxV l (Pl.nxI l (Pl.nxI l j)) : Nat)⟩, (Pl.nxI l (Pl.nxI l (Pl.nxI l j))), (Pl.nxB l (Pl.nxI l (Pl.nxI l j)) (Pl.nxB l (Pl.nxI l j) (Pl.nxB l j false)))) := by unfold Pl.stIns Pl.stA Pl.stB; simp [HOP.out, hF, HT.out]
              have HST := Lib.hid hst
              clear hst
              go_wp2_with (at_builtin; go_loud (refine wpList_appI rfl (.tmp 98) (.tmp 100) rfl wm.heap.size _ xs rfl HOk.out ⟨op, (Pl.nxV l (Pl.nxI l j) : Nat), (Pl.nxV l (Pl.nxI l (Pl.nxI l j)) : Nat)⟩ _ rfl rfl (by omega) (by omega) ?_))
              intro q1 w30 hq1 hg1
              have SG := Lib.hid (show Save (fun g => q.ownBlock = some g) _ w30 from (Save.refl _ _).grow hg1 (fun g hg _ => hg))
              have HU30 := Lib.hid (HUk.out.save SG.out (fun e => by have := (hOB.out _ e).1; omega))
              have HD30 := Lib.hid ((HDk.out.lift HD2.out.s hPm (fun g _ e => .inl e)).save SG.out (fun e => by have := (hOB.out _ e).1; omega) (fun g hg e => by have := (hOB.out _ e).1; omega))
              obtain ⟨qa, qc, hqf⟩ := hq1.form
              subst hqf
              have HQL := Lib.hid hq1.lt
              have HQ1 := Lib.hid hq1
              obtain ⟨_, _, _, _, p4, _, _, _, _, pf4, pl⟩ := HU30.out
              clear hq1 hg1 u4 uf4 ul4
              go_wp2_with fail
              go_roundw
              case rel =>
                have SE := (Save.refl (fun g => g = Ub) w30).set ⟨Ub, 4, none⟩ (.slice qa (xs.length + 1) qc) (fun _ => rfl)
                refine ⟨xs.length + 1, xs ++ [(Pl.stIns l j false).1], (Pl.stIns l j false).2.1, (Pl.stIns l j false).2.2, .slice qa (xs.length + 1) qc, by go_num, by omega, by simp, hjs, HIM.out.1, fun e => ⟨HMT.out, HIM.out.2 e⟩, ?_, ?_, HU30.out.set _, ?_⟩
                · intro y hy
                  rcases List.mem_append.1 hy with hy | hy
                  · exact HXW.out y hy
                  · rw [HST.out] at hy
                    simp at hy
                    subst hy
                    exact ⟨hop, by show (-9223372036854775808 : Int) ≤ ((Pl.nxV l (Pl.nxI l j) : Nat) : Int); omega, by show ((Pl.nxV l (Pl.nxI l j) : Nat) : Int) ≤ (9223372036854775807 : Int); omega, by show (-9223372036854775808 : Int) ≤ ((Pl.nxV l (Pl.nxI l (Pl.nxI l j)) : Nat) : Int); omega, by show ((Pl.nxV l (Pl.nxI l (Pl.nxI l j)) : Nat) : Int) ≤ (9223372036854775807 : Int); omega⟩
                · rw [HST.out]
                  exact HD30.out.save SE (show ¬ P = Ub by omega) (fun g _ e => .inr e)
                · rw [List.length_append, HST.out]
                  exact HQ1.out.save SE (fun g hg e => by have := (HQL.out g hg).1; omega)
              case measure => simp [RowKit.intOf]; omega
          · cases hT : Pl.two op
            · have HT := Lib.hid hT
              go_wp2_with (go_at_call 41; refine (first_any op _).mono ?_; rintro e w7 ⟨rfl, rfl⟩; rw [hF])
              clear x0 x1 x2 xf1 xf2 hXl
              refine (nextD HSB.out HDk.out rfl hbs).mono ?_
              rintro e w22 ⟨hva0, rfl, hr, hbt⟩
              have HDk2 := Lib.hid hr
              have HX2 := Lib.hid (HX.out.save hbt.save (show ¬ X = P by omega))
              obtain ⟨y0, y1, y2, yf1, yf2, yl⟩ := HX2.out
              clear hr hbt HDk HX
              go_wp2_with fail
              clear y0 y1 y2 yf1 yf2 yl
              have HDk := Lib.hid (HDk2.out.set X 1 (.int .i64 (Pl.nxV l (Pl.nxI l j) : Nat)) hPX (fun h => absurd h (by omega)))
              have HX := Lib.hid (HX2.out.setA (Pl.nxV l (Pl.nxI l j) : Nat))
              generalize w22.setCell ⟨X, 1, none⟩ (.int .i64 (Pl.nxV l (Pl.nxI l j) : Nat)) = w23 at HDk HX ⊢
              clear HDk2 HX2
              obtain ⟨x0, x1, x2, xf1, xf2, xl⟩ := HX.out
              first | go_region_with (go_at_call 45; refine (nextD HSB.out (by first | exact HDk.out | exact HDk.out.drew) (by exact rfl) hbs).mono ?_; rintro e w24 ⟨hva1, rfl, hr, hbt⟩; have HX2 := Lib.hid ((by first | exact HX.out.save hbt.save (show ¬ X = P by omega) | exact HX.out.drew.save hbt.save (show ¬ X = P by omega)) : InsBox w24 X op (Pl.nxV l (Pl.nxI l j) : Nat) 0); have HDk2 := Lib.hid hr; obtain ⟨y0, y1, y2, yf1, yf2, yl⟩ := HX2.out; clear hr hbt) | fail
              all_goals
                go_wp2_with fail
                clear y0 y1 y2 yf1 yf2 yl x0 x1 x2 xf1 xf2 xl
                have HX3 := Lib.hid (HX2.out.setA ((Pl.nxV l (Pl.nxI l j) : Nat) + 256 * (Pl.nxV l (Pl.nxI l (Pl.nxI l j)) : Nat)))
                have HDk3 := Lib.hid (HDk2.out.set X 1 (.int .i64 ((Pl.nxV l (Pl.nxI l j) : Nat) + 256 * (Pl.nxV l (Pl.nxI l (Pl.nxI l j)) : Nat))) hPX (fun h => absurd h (by omega)))
                clear HDk HX
                generalize w24.setCell ⟨X, 1, none⟩ (.int .i64 ((Pl.nxV l (Pl.nxI l j) : Nat) + 256 * (Pl.nxV l (Pl.nxI l (Pl.nxI l j)) : Nat))) = w25 at HDk3 HX3 ⊢
                have HDk := HDk3
                have HX := HX3
                obtain ⟨x0, x1, x2, xf1, xf2, xl⟩ := HX.out
                clear HDk2 HX2 HDk3 HX3
                have HOk := Lib.hid (HO2.out.save HDk.out.s (fun g hg e => by have := (hOB.out g hg).1; omega))
                have HUk := Lib.hid (HU2.out.save HDk.out.s (show ¬ Ub = P by omega))
                have u4 := HUk.out.c4
                have uf4 := HUk.out.f4
                have ul4 := HUk.out.lt
                have hsz6 := HDk.out.s.size
                have hst : Pl.stIns l j false = (⟨op, ((Pl.nxV l (Pl.nxI l j) : Nat) + 256 * (Pl.nxV l (Pl.nxI l (Pl.nxI l j)) : Nat)), 0⟩, (Pl.nxI l (Pl.nxI l (Pl.nxI l j))), (Pl.nxB l (Pl.nxI l (Pl.nxI l j)) (Pl.nxB l (Pl.nxI l j) (Pl.nxB l j false)))) := by unfold Pl.stIns Pl.stA Pl.stB; simp [HOP.out, hF, HT.out]
                have HST := Lib.hid hst
                clear hst
                go_wp2_with (first | (go_at_call 42; refine (second_any op _).mono ?_; rintro e w8 ⟨rfl, rfl⟩; rw [hT]) | (at_builtin; go_loud (refine wpList_appI rfl (.tmp 98) (.tmp 100) rfl wm.heap.size _ xs rfl HOk.out ⟨op, ((Pl.nxV l (Pl.nxI l j) : Nat) + 256 * (Pl.nxV l (Pl.nxI l (Pl.nxI l j)) : Nat)), 0⟩ _ rfl rfl (by omega) (by omega) ?_)))
                intro q1 w30 hq1 hg1
                have SG := Lib.hid (show Save (fun g => q.ownBlock = some g) _ w30 from (Save.refl _ _).grow hg1 (fun g hg _ => hg))
                have HU30 := Lib.hid (HUk.out.save SG.out (fun e => by have := (hOB.out _ e).1; omega))
                have HD30 := Lib.hid ((HDk.out.lift HD2.out.s hPm (fun g _ e => .inl e)).save SG.out (fun e => by have := (hOB.out _ e).1; omega) (fun g hg e => by have := (hOB.out _ e).1; omega))
                obtain ⟨qa, qc, hqf⟩ := hq1.form
                subst hqf
                have HQL := Lib.hid hq1.lt
                have HQ1 := Lib.hid hq1
                obtain ⟨_, _, _, _, p4, _, _, _, _, pf4, pl⟩ := HU30.out
                clear hq1 hg1 u4 uf4 ul4
                go_wp2_with fail
                go_roundw
                case rel =>
                  have SE := (Save.refl (fun g => g = Ub) w30).set ⟨Ub, 4, none⟩ (.slice qa (xs.length + 1) qc) (fun _ => rfl)
                  refine ⟨xs.length + 1, xs ++ [(Pl.stIns l j false).1], (Pl.stIns l j false).2.1, (Pl.stIns l j false).2.2, .slice qa (xs.length + 1) qc, by go_num, by omega, by simp, hjs, HIM.out.1, fun e => ⟨HMT.out, HIM.out.2 e⟩, ?_, ?_, HU30.out.set _, ?_⟩
                  · intro y hy
                    rcases List.mem_append.1 hy with hy | hy
                    · exact HXW.out y hy
                    · rw [HST.out] at hy
                      simp at hy
                      subst hy
                      exact ⟨hop, by show (-9223372036854775808 : Int) ≤ (((Pl.nxV l (Pl.nxI l j) : Nat) + 256 * (Pl.nxV l (Pl.nxI l (Pl.nxI l j)) : Nat)) : Int); omega, by show (((Pl.nxV l (Pl.nxI l j) : Nat) + 256 * (Pl.nxV l (Pl.nxI l (Pl.nxI l j)) : Nat)) : Int) ≤ (9223372036854775807 : Int); omega, by show (-9223372036854775808 : Int) ≤ (0 : Int); omega, by show (0 : Int) ≤ (9223372036854775807 : Int); omega⟩
                  · rw [HST.out]
                    exact HD30.out.save SE (show ¬ P = Ub by omega) (fun g _ e => .inr e)
                  · rw [List.length_append, HST.out]
                    exact HQ1.out.save SE (fun g hg e => by have := (HQL.out g hg).1; omega)
                case measure => simp [RowKit.intOf]; omega
            · have HT := Lib.hid hT
              go_wp2_with (go_at_call 41; refine (first_any op _).mono ?_; rintro e w7 ⟨rfl, rfl⟩; rw [hF])
              clear x0 x1 x2 xf1 xf2 hXl
              refine (nextD HSB.out HDk.out rfl hbs).mono ?_
              rintro e w22 ⟨hva0, rfl, hr, hbt⟩
              have HDk2 := Lib.hid hr
              have HX2 := Lib.hid (HX.out.save hbt.save (show ¬ X = P by omega))
              obtain ⟨y0, y1, y2, yf1, yf2, yl⟩ := HX2.out
              clear hr hbt HDk HX
              go_wp2_with fail
              clear y0 y1 y2 yf1 yf2 yl
              have HDk := Lib.hid (HDk2.out.set X 1 (.int .i64 (Pl.nxV l (Pl.nxI l j) : Nat)) hPX (fun h => absurd h (by omega)))
              have HX := Lib.hid (HX2.out.setA (Pl.nxV l (Pl.nxI l j) : Nat))
              generalize w22.setCell ⟨X, 1, none⟩ (.int .i64 (Pl.nxV l (Pl.nxI l j) : Nat)) = w23 at HDk HX ⊢
              clear HDk2 HX2
              obtain ⟨x0, x1, x2, xf1, xf2, xl⟩ := HX.out
              first | go_region_with (go_at_call 45; refine (nextD HSB.out (by first | exact HDk.out | exact HDk.out.drew) (by exact rfl) hbs).mono ?_; rintro e w24 ⟨hva1, rfl, hr, hbt⟩; have HX2 := Lib.hid ((by first | exact HX.out.save hbt.save (show ¬ X = P by omega) | exact HX.out.drew.save hbt.save (show ¬ X = P by omega)) : InsBox w24 X op (Pl.nxV l (Pl.nxI l j) : Nat) 0); have HDk2 := Lib.hid hr; obtain ⟨y0, y1, y2, yf1, yf2, yl⟩ := HX2.out; clear hr hbt) | fail
              all_goals
                go_wp2_with fail
                clear y0 y1 y2 yf1 yf2 yl x0 x1 x2 xf1 xf2 xl
                have HX3 := Lib.hid (HX2.out.setA ((Pl.nxV l (Pl.nxI l j) : Nat) + 256 * (Pl.nxV l (Pl.nxI l (Pl.nxI l j)) : Nat)))
                have HDk3 := Lib.hid (HDk2.out.set X 1 (.int .i64 ((Pl.nxV l (Pl.nxI l j) : Nat) + 256 * (Pl.nxV l (Pl.nxI l (Pl.nxI l j)) : Nat))) hPX (fun h => absurd h (by omega)))
                clear HDk HX
                generalize w24.setCell ⟨X, 1, none⟩ (.int .i64 ((Pl.nxV l (Pl.nxI l j) : Nat) + 256 * (Pl.nxV l (Pl.nxI l (Pl.nxI l j)) : Nat))) = w25 at HDk3 HX3 ⊢
                have HDk := HDk3
                have HX := HX3
                obtain ⟨x0, x1, x2, xf1, xf2, xl⟩ := HX.out
                clear HDk2 HX2 HDk3 HX3
                go_wp2_with (go_at_call 42; refine (second_any op _).mono ?_; rintro e w8 ⟨rfl, rfl⟩; rw [hT])
                clear x0 x1 x2 xf1 xf2 xl
                refine (nextD HSB.out HDk.out rfl hbs).mono ?_
                rintro e w22 ⟨hva2, rfl, hr, hbt⟩
                have HDk2 := Lib.hid hr
                have HX2 := Lib.hid (HX.out.save hbt.save (show ¬ X = P by omega))
                obtain ⟨y0, y1, y2, yf1, yf2, yl⟩ := HX2.out
                clear hr hbt HDk HX
                go_upto_region 25 with (fail)
                clear y0 y1 y2 yf1 yf2 yl
                have HDk := Lib.hid (HDk2.out.set X 2 (.int .i64 (Pl.nxV l (Pl.nxI l (Pl.nxI l (Pl.nxI l j))) : Nat)) hPX (fun h => absurd h (by omega)))
                have HX := Lib.hid (HX2.out.setB (Pl.nxV l (Pl.nxI l (Pl.nxI l (Pl.nxI l j))) : Nat))
                generalize w22.setCell ⟨X, 2, none⟩ (.int .i64 (Pl.nxV l (Pl.nxI l (Pl.nxI l (Pl.nxI l j))) : Nat)) = w26 at HDk HX ⊢
                clear HDk2 HX2
                obtain ⟨x0, x1, x2, xf1, xf2, xl⟩ := HX.out
                have HOk := Lib.hid (HO2.out.save HDk.out.s (fun g hg e => by have := (hOB.out g hg).1; omega))
                have HUk := Lib.hid (HU2.out.save HDk.out.s (show ¬ Ub = P by omega))
                have u4 := HUk.out.c4
                have uf4 := HUk.out.f4
                have ul4 := HUk.out.lt
                have hsz6 := HDk.out.s.size
                have hst : Pl.stIns l j false = (⟨op, ((Pl.nxV l (Pl.nxI l j) : Nat) + 256 * (Pl.nxV l (Pl.nxI l (Pl.nxI l j)) : Nat)), (Pl.nxV l (Pl.nxI l (Pl.nxI l (Pl.nxI l j))) : Nat)⟩, (Pl.nxI l (Pl.nxI l (Pl.nxI l (Pl.nxI l j)))), (Pl.nxB l (Pl.nxI l (Pl.nxI l (Pl.nxI l j))) (Pl.nxB l (Pl.nxI l (Pl.nxI l j)) (Pl.nxB l (Pl.nxI l j) (Pl.nxB l j false))))) := by unfold Pl.stIns Pl.stA Pl.stB; simp [HOP.out, hF, HT.out]
                have HST := Lib.hid hst
                clear hst
                go_wp2_with (at_builtin; go_loud (refine wpList_appI rfl (.tmp 98) (.tmp 100) rfl wm.heap.size _ xs rfl HOk.out ⟨op, ((Pl.nxV l (Pl.nxI l j) : Nat) + 256 * (Pl.nxV l (Pl.nxI l (Pl.nxI l j)) : Nat)), (Pl.nxV l (Pl.nxI l (Pl.nxI l (Pl.nxI l j))) : Nat)⟩ _ rfl rfl (by omega) (by omega) ?_))
                intro q1 w30 hq1 hg1
                have SG := Lib.hid (show Save (fun g => q.ownBlock = some g) _ w30 from (Save.refl _ _).grow hg1 (fun g hg _ => hg))
                have HU30 := Lib.hid (HUk.out.save SG.out (fun e => by have := (hOB.out _ e).1; omega))
                have HD30 := Lib.hid ((HDk.out.lift HD2.out.s hPm (fun g _ e => .inl e)).save SG.out (fun e => by have := (hOB.out _ e).1; omega) (fun g hg e => by have := (hOB.out _ e).1; omega))
                obtain ⟨qa, qc, hqf⟩ := hq1.form
                subst hqf
                have HQL := Lib.hid hq1.lt
                have HQ1 := Lib.hid hq1
                obtain ⟨_, _, _, _, p4, _, _, _, _, pf4, pl⟩ := HU30.out
                clear hq1 hg1 u4 uf4 ul4
                go_wp2_with fail
                go_roundw
                case rel =>
                  have SE := (Save.refl (fun g => g = Ub) w30).set ⟨Ub, 4, none⟩ (.slice qa (xs.length + 1) qc) (fun _ => rfl)
                  refine ⟨xs.length + 1, xs ++ [(Pl.stIns l j false).1], (Pl.stIns l j false).2.1, (Pl.stIns l j false).2.2, .slice qa (xs.length + 1) qc, by go_num, by omega, by simp, hjs, HIM.out.1, fun e => ⟨HMT.out, HIM.out.2 e⟩, ?_, ?_, HU30.out.set _, ?_⟩
                  · intro y hy
                    rcases List.mem_append.1 hy with hy | hy
                    · exact HXW.out y hy
                    · rw [HST.out] at hy
                      simp at hy
                      subst hy
                      exact ⟨hop, by show (-9223372036854775808 : Int) ≤ (((Pl.nxV l (Pl.nxI l j) : Nat) + 256 * (Pl.nxV l (Pl.nxI l (Pl.nxI l j)) : Nat)) : Int); omega, by show (((Pl.nxV l (Pl.nxI l j) : Nat) + 256 * (Pl.nxV l (Pl.nxI l (Pl.nxI l j)) : Nat)) : Int) ≤ (9223372036854775807 : Int); omega, by show (-9223372036854775808 : Int) ≤ ((Pl.nxV l (Pl.nxI l (Pl.nxI l (Pl.nxI l j))) : Nat) : Int); omega, by show ((Pl.nxV l (Pl.nxI l (Pl.nxI l (Pl.nxI l j))) : Nat) : Int) ≤ (9223372036854775807 : Int); omega⟩
                  · rw [HST.out]
                    exact HD30.out.save SE (show ¬ P = Ub by omega) (fun g _ e => .inr e)
                  · rw [List.length_append, HST.out]
                    exact HQ1.out.save SE (fun g hg e => by have := (HQL.out g hg).1; omega)
                case measure => simp [RowKit.intOf]; omega
        · have HSO := Lib.hid (show Save (fun g => g = P) wo wr from HDa.out.s.trans HD2.out.s (fun g hg e => e.elim id (fun e => by omega)))
          have HOu := Lib.hid (HO.out.save HSO.out (fun g hg e => by have := (HO.out.lt g hg).1; omega))
          have HCu := Lib.hid (HCB.out.save HSO.out (show ¬ C = P by omega))
          have HOL := Lib.hid HO.out.lt
          obtain ⟨qa, qc, hq⟩ := HO2.out.form
          subst hq
          obtain ⟨q0, q1, q2, q3, q4, f0, f1, f2, f3, f4, hUl⟩ := HU2.out
          obtain ⟨k0, k1, k2, k3, kf0, kf1, kf2, kf3, hCl⟩ := HCu.out
          have hsz5 := HSO.out.size
          have hex : (M ≤ xs.length ∧ xs.length = M) ∨ (xs.length < M ∧ bd = true) := by
            rcases Nat.lt_or_ge xs.length M with h | h
            · refine .inr ⟨h, ?_⟩
              cases bd
              · exact absurd ⟨h, rfl⟩ hgo2
              · rfl
            · exact .inl ⟨h, by omega⟩
          have HEX := Lib.hid hex
          have htw : ((M : Int) ≤ (xs.length : Int)) ∨ ((xs.length : Int) < (M : Int) ∧ bd = true) := by
            rcases hex with h | h
            · exact .inl (by omega)
            · exact .inr ⟨by omega, h.2⟩
          clear hex hgo2
          rcases htw with htw | ⟨htw, hbd⟩
          case' inr => rw [hbd] at r2
          all_goals
            go_wp2_with (at_builtin; go_loud (refine wpList_appU rfl (.tmp 104) (.tmp 106) rfl w3.heap.size _ ps rfl HOu.out (⟨v0, v1, v2, v3, xs⟩, .slice qa xs.length qc) rfl _ rfl rfl (by omega) (by omega) ?_))
            intro U1 w40 hq1 hg1
            have SG := Lib.hid (show Save (fun g => U.ownBlock = some g) _ w40 from (Save.refl _ _).grow hg1 (fun g hg _ => hg))
            have HCz := Lib.hid (HCu.out.save SG.out (fun e => by have := (HOL.out _ e).1; omega))
            have HG := Lib.hid hg1.2
            obtain ⟨ua, uc, huf⟩ := hq1.form
            subst huf
            have HQL := Lib.hid hq1.lt
            have HQ1 := Lib.hid hq1
            obtain ⟨_, _, _, p3, _, _, _, pf3, pl⟩ := HCz.out
            clear hq1 hg1 q0 q1 q2 q3 q4 f0 f1 f2 f3 f4 hUl k0 k1 k2 k3 kf0 kf1 kf2 kf3 hCl
            go_wp2_with fail
            go_roundw
            case rel =>
              have HNE : ∀ g, (Value.slice ua (ps.length + 1) uc).ownBlock = some g → U.ownBlock = some g ∨ wr.heap.size ≤ g := fun g hg => by
                rcases HG.out with e | e
                · exact .inl (e ▸ hg)
                · exact .inr (by simpa using e g hg)
              have hPz : P < w3.heap.size := by omega
              have hz5 := HD2.out.s.size
              have hz6 := HDa.out.s.size
              have SE := (Save.refl (fun g => g = C) w40).set ⟨C, 3, none⟩ (.slice ua (ps.length + 1) uc) (fun _ => rfl)
              have SN := (SG.out.mono (T := fun g => g = C ∨ U.ownBlock = some g) (fun _ _ e => .inr e)).trans SE (fun _ _ e => .inl e)
              have SO := (HSO.out.mono (T := fun g => g = P ∨ g = C ∨ U.ownBlock = some g) (fun _ _ e => .inl e)).trans SN (fun _ _ e => .inr e)
              refine ⟨ps.length + 1, ps ++ [(⟨v0, v1, v2, v3, xs⟩, .slice qa xs.length qc)], j, bd, .slice ua (ps.length + 1) uc, by go_num, by omega, by simp, hjl, ?_, ?_, ?_, ?_, HCz.out.set3 _, ?_, ?_⟩
              · intro e
                obtain ⟨hl2, hEq⟩ := HBF.out trivial
                rw [hl2]
                exact Pl.rdQ_none (Pl.unt_stop hlt hEq (HDT.out e))
              · intro e
                obtain ⟨hl2, hEq⟩ := HBF.out trivial
                refine ⟨hl2, ?_⟩
                rcases HEX.out with ⟨_, hxM⟩ | ⟨_, hbt⟩
                · obtain ⟨h6, heq⟩ := HDF.out e
                  rw [hxM] at heq
                  have hu := Pl.unt_done HM.out h6 heq
                  rw [HJ1.out, HJ2.out, HJ3.out, HV0.out, HV1.out, HV2.out, HV3.out] at hu
                  have := Pl.unt_more hlt hEq hu
                  rw [List.map_append]
                  exact this
                · rw [hbt] at e
                  cases e
              · intro y hy
                rcases List.mem_append.1 hy with hy | hy
                · exact HPW.out y hy
                · simp at hy
                  subst hy
                  exact ⟨by show _ ≤ (v0 : Int); omega, by show (v0 : Int) ≤ _; omega, by show _ ≤ (v1 : Int); omega, by show (v1 : Int) ≤ _; omega, by show _ ≤ (v2 : Int); omega, by show (v2 : Int) ≤ _; omega, by show _ ≤ (v3 : Int); omega, by show (v3 : Int) ≤ _; omega⟩
              · exact ((HD2.out.lift (HD.out.s.trans HDa.out.s (fun g _ e => .inl e)) hPz (fun g hg e => e.elim .inl (fun e => by omega))).save SG.out (fun e => by have := (HOL.out _ e).1; omega) (fun g hg e => by have := (HOL.out _ e).1; omega)).save SE hPC (fun g _ e => .inr e)
              · rw [List.length_append, hz3]
                exact HQ1.out.save SE (fun g hg e => by have := (HQL.out g hg).1; omega)
              · intro i' y hy
                by_cases hi : i' < ps.length
                · rw [List.getElem?_append_left hi] at hy
                  refine InssOf.mono (Q := fun g => w3.heap.size ≤ g ∧ (Value.slice ua (ps.length + 1) uc).ownBlock ≠ some g ∧ U.ownBlock ≠ some g) (InssOf.save ((HI.out i' y hy).mono (fun g hg hh => ⟨hh.1, fun e => ?_, hh.2⟩)) SO (fun g hg hh e => ?_)) (fun g _ hh => ⟨hh.1, hh.2.1⟩)
                  · rcases HNE g e with e' | e'
                    · exact hh.2 e'
                    · omega
                  · rcases e with e | e | e
                    · have := hh.1; omega
                    · have := hh.1; omega
                    · exact hh.2.2 e
                · rw [List.getElem?_append_right (by omega)] at hy
                  have hyy : y = (⟨v0, v1, v2, v3, xs⟩, .slice qa xs.length qc) := by
                    cases hii : i' - ps.length with
                    | zero => rw [hii] at hy; simpa using hy.symm
                    | succ m => rw [hii] at hy; simp at hy
                  subst hyy
                  refine InssOf.mono (Q := fun g => w3.heap.size ≤ g ∧ (Value.slice ua (ps.length + 1) uc).ownBlock ≠ some g ∧ g ≠ C ∧ U.ownBlock ≠ some g) (InssOf.save ((InssOf.of_owns HO2.out HXW.out (by omega)).mono (fun g hg (hh : wm.heap.size ≤ g) => ?_)) SN (fun g hg hh e => e.elim hh.2.2.1 hh.2.2.2)) (fun g _ hh => ⟨hh.1, hh.2.1⟩)
                  have hu : U.ownBlock ≠ some g := fun e => by have := (HOL.out g e).2; omega
                  refine ⟨by omega, fun e => ?_, by omega, hu⟩
                  rcases HNE g e with e' | e'
                  · exact hu e'
                  · omega
            case measure => simp [RowKit.intOf]; omega
    · obtain ⟨s0, s1, s2, s3, sf0, sf1, sf2, sf3, hRl⟩ := HR.out
      obtain ⟨k0, k1, k2, k3, _, _, _, _, hCl⟩ := HCB.out
      cases bad
      · have hke : ps.length = N := by
          rcases Nat.lt_or_ge ps.length N with h | h
          · exact absurd ⟨h, rfl⟩ hgo
          · omega
        have hltI : (N : Int) ≤ (ps.length : Int) := by omega
        obtain ⟨hl2, hEq⟩ := HBF.out rfl
        rw [hke, Nat.sub_self, Pl.glue_done] at hEq
        have HEQ := Lib.hid hEq
        have HL2 := Lib.hid hl2
        have HLT := Lib.hid hltI
        clear hl2 hEq hgo
        by_cases hib : i = b.size
        · subst hib
          clear hltI hke
          have hltI : (N : Int) ≤ (ps.length : Int) := HLT.out
          obtain ⟨us, hus⟩ : ∃ us, ps.map (·.1) = us := ⟨_, rfl⟩
          rw [hus] at HEQ
          have HRD := Lib.hid (show Pl.rdQ (fun _ => true) l = some ((p : Int), us) by
            have h := HEQ.out
            rw [List.drop_eq_nil_of_le (by omega : l.length ≤ b.size)] at h
            rw [HL2.out]
            exact Pl.rdQ_some h)
          have HUW := Lib.hid (show ∀ x ∈ us, Pl.UntW x by intro x hx; rw [← hus] at hx; obtain ⟨y, hy, rfl⟩ := List.mem_map.1 hx; exact HPW.out y hy)
          have HUS := Lib.hid hus
          obtain ⟨qa, qc, hq⟩ := HO.out.form
          subst hq
          have HCOD : CodAt wr.heap.size wr ⟨sel, p, lits, us⟩ (.slice Al lits.length capl) (.slice qa ps.length qc) := ⟨(HL.out.keep (HBW.out.mono hBw)).up (by omega), UntsAt.of_owns HO.out hus (by omega) HUW.out HI.out, hsel, by show _ ≤ (p : Int); omega, by show (p : Int) ≤ _; omega, Nat.le_refl _⟩
          have hul : us.length = ps.length := by rw [← hus, List.length_map]
          have CK := Lib.hid (rcheck_any (c := ⟨sel, p, lits, us⟩) wr HCOD hbig)
          unfold codV at CK
          clear HCOD hus
          by_cases hck : Pl.check ⟨sel, p, lits, us⟩ = 0
          · rw [hck] at CK
            have HCK := Lib.hid (HYES.out _ _ HRD.out hck)
            clear hck
            go_wp2_with (go_at_call 13; refine CK.out.mono ?_; rintro e w10 ⟨rfl, hb10⟩
                         have SN := Save.none_below hb10
                         have HR10 := Lib.hid (HR.out.save SN (fun f => f))
                         have HC10 := Lib.hid (HCB.out.save SN (fun f => f))
                         obtain ⟨s0, s1, s2, s3, sf0, sf1, sf2, sf3, hRl⟩ := HR10.out
                         obtain ⟨k0, k1, k2, k3, _, _, _, _, hCl⟩ := HC10.out
                         have HB10 := Lib.hid hb10
                         clear hb10 SN)
            refine bodyPost_ret (v := .tuple #[.agg #[.string sel, .int .i64 (p : Int), .slice Al lits.length capl, .slice qa ps.length qc], .int .i64 0]) (by simp [results, Tryz.results19, go_sem, s0, s1, s2, s3]) rfl ?_
            have SE := CodBox.put_save w10 w.heap.size (.string sel) (.int .i64 (p : Int)) (.slice Al lits.length capl) (.slice qa ps.length qc)
            have SZ := ((Save.none_below HB10.out).mono (T := fun g => g = w.heap.size) (fun _ _ f => f.elim)).trans SE (fun _ _ e => e)
            have hu7 := UntsOf.of_owns (Q := fun k => w.heap.size ≤ k) (HO.out.save SZ (fun g hg e => by have := (HO.out.lt g hg).1; omega)) HUS.out (by omega) HUW.out (fun g hg => by have := (HO.out.lt g hg).1; omega) (fun i x hx => ((HI.out i x hx).save SZ (fun g hg hq e => by have := hq.1; omega)).mono (fun g _ hq => by have := hq.1; omega))
            exact ⟨.inl ⟨_, _, HCK.out, rfl, hu7⟩, HBW.out.trans (SZ.below (by omega) (fun g hg e => by omega))⟩
          · have hck' : ((Pl.check ⟨sel, p, lits, us⟩ : Nat) : Int) ≠ 0 := by omega
            have HCK := Lib.hid (HBAD.out _ _ HRD.out hck)
            clear hck
            generalize Pl.check ⟨sel, p, lits, us⟩ = ec at CK hck'
            go_wp2_with (go_at_call 13; refine CK.out.mono ?_; rintro e w10 ⟨rfl, hb10⟩
                         have SN := Save.none_below hb10
                         have HR10 := Lib.hid (HR.out.save SN (fun f => f))
                         obtain ⟨s0, s1, s2, s3, sf0, sf1, sf2, sf3, hRl⟩ := HR10.out
                         have HB10 := Lib.hid hb10
                         clear hb10 SN)
            refine bodyPost_ret (v := .tuple #[.agg #[.string ⟨#[]⟩, .int .i64 0, .slice none 0 0, .slice none 0 0], .int .i64 203]) (by simp [results, Tryz.results19, go_sem, s0, s1, s2, s3]) rfl ?_
            have SE := CodBox.put_save w10 w.heap.size (.string ⟨#[]⟩) (.int .i64 0) (.slice none 0 0) (.slice none 0 0)
            have SZ := ((Save.none_below HB10.out).mono (T := fun g => g = w.heap.size) (fun _ _ f => f.elim)).trans SE (fun _ _ e => e)
            exact ⟨.inr ⟨HCK.out, rfl⟩, HBW.out.trans (SZ.below (by omega) (fun g hg e => by omega))⟩
        · have hibI : (i : Int) ≠ (b.size : Int) := by omega
          have HCK := Lib.hid (HNO.out (by
            rw [HL2.out]
            exact Pl.rdQ_more HEQ.out (by intro e; have := congrArg List.length e; simp at this; omega)))
          go_wp2_with fail
          refine bodyPost_ret (v := .tuple #[.agg #[.string ⟨#[]⟩, .int .i64 0, .slice none 0 0, .slice none 0 0], .int .i64 203]) (by simp [results, Tryz.results19, go_sem, s0, s1, s2, s3]) rfl ?_
          have SE := CodBox.put_save wr w.heap.size (.string ⟨#[]⟩) (.int .i64 0) (.slice none 0 0) (.slice none 0 0)
          exact ⟨.inr ⟨HCK.out, rfl⟩, HBW.out.trans (SE.below (by omega) (fun g hg e => by omega))⟩
      · have HCK := Lib.hid (HNO.out (HBT.out rfl))
        clear hgo
        by_cases hlt : ps.length < N
        case' pos => have hltI : (ps.length : Int) < (N : Int) := by omega
        case' neg => have hltI : (N : Int) ≤ (ps.length : Int) := by omega
        all_goals
          go_wp2_with fail
          refine bodyPost_ret (v := .tuple #[.agg #[.string ⟨#[]⟩, .int .i64 0, .slice none 0 0, .slice none 0 0], .int .i64 203]) (by simp [results, Tryz.results19, go_sem, s0, s1, s2, s3]) rfl ?_
          have SE := CodBox.put_save wr w.heap.size (.string ⟨#[]⟩) (.int .i64 0) (.slice none 0 0) (.slice none 0 0)
          exact ⟨.inr ⟨HCK.out, rfl⟩, HBW.out.trans (SE.below (by omega) (fun g hg e => by omega))⟩
end Go.Proofs.YtoklnpoacckbfaaGreatDoor
namespace Go.Proofs.YtoklnpoacckbfaaGreatDoor
open Go Go.RowKit Go.Lib
theorem info_lit_ : (Tryz.prog.info? 37).map (fun i => (i.zero, i.size, i.bytes)) = some (some (.agg #[.int .u8 0, .int .i64 0, .int .u64 0, .string ⟨#[]⟩, .slice none 0 0]), 5, 64) := by kernel_rfl
set_option maxRecDepth 100000 in
set_option maxHeartbeats 4000000 in
theorem lendLit_any {B : Nat} {w0 : World} {la : List Pl.Lit} {va : Value} (h : LitsAt B w0 la va) : ∀ (x : Pl.Lit) (w : World), x.items = la → Below B w0 w → B ≤ w0.heap.size → Pl.LitW x → Pl.litsBig la ≤ 1099511627776 →
    Calls Tryz.prog 18 #[litV x va] w fun e w' => ∃ v', e = .returned (litV x v') ∧ LentOf (fun k => w.heap.size ≤ k) w' x.items v' ∧ Below w.heap.size w w' := by
  induction h with
  | mk A l cap V0 hB hrow hw hr ih =>
    intro x w hx hbel hB0 hxw hbig
    have h1 := hrow.le
    have h2 := hrow.len
    have h4 := lits_len_le l
    have hs0 := hbel.size
    have HW := Lib.hid hw
    have HX0 := Lib.hid hx
    unfold litV
    clear hw hx
    obtain ⟨j0, hj, hy0, hy1, hy2⟩ := info_parts info_lit_
    go_enter Tryz.func18, Tryz.ntmps18
    go_wp2_with (at_make; refine wpList_make_full _ rfl _ _ 22 rfl (w.heap.size + 2) 37 j0 (.agg #[.int .u8 0, .int .i64 0, .int .u64 0, .string ⟨#[]⟩, .slice none 0 0]) 5 Tryz.underlying22 hj hy0 hy1 .i64 .i64 _ _ (l.length + 1) rfl rfl (by omega) (by omega) (by rw [hy2]; omega) (by unfold maxLen; omega) (by simp) ?_)
    intro w1 ho1 hg1
    have hA : (((w.alloc (.cells #[.int .u8 x.kind, .int .i64 x.n, .int .u64 x.bits, .string x.text, .slice A l.length cap] 37)).alloc (.cells #[.int .u8 0, .int .i64 0, .int .u64 0, .string ⟨#[]⟩, .slice none 0 0] 37))).heap.size = w.heap.size + 2 := by simp
    have hB1 : Below (w.heap.size + 2) (((w.alloc (.cells #[.int .u8 x.kind, .int .i64 x.n, .int .u64 x.bits, .string x.text, .slice A l.length cap] 37)).alloc (.cells #[.int .u8 0, .int .i64 0, .int .u64 0, .string ⟨#[]⟩, .slice none 0 0] 37))) w1 := (Below.refl _ _).grown hg1 (by simp) (fun k hk => by cases hk)
    have HC1 := Lib.hid (show w1.heap[w.heap.size]? = some (.cells #[.int .u8 x.kind, .int .i64 x.n, .int .u64 x.bits, .string x.text, .slice A l.length cap] 37 (0, 0)) from (hB1.block _ (by omega)).trans (by rw [heap_alloc_old _ _ (by simp)]; exact heap_alloc_new w _))
    have HD1 := Lib.hid (show w1.heap[w.heap.size + 1]? = some (.cells #[.int .u8 0, .int .i64 0, .int .u64 0, .string ⟨#[]⟩, .slice none 0 0] 37 (0, 0)) from (hB1.block _ (by omega)).trans (by have := heap_alloc_new (w.alloc (.cells #[.int .u8 x.kind, .int .i64 x.n, .int .u64 x.bits, .string x.text, .slice A l.length cap] 37)) (.cells #[.int .u8 0, .int .i64 0, .int .u64 0, .string ⟨#[]⟩, .slice none 0 0] 37); rw [World.size_alloc] at this; exact this))
    have HB1 := Lib.hid (show Below w.heap.size w w1 from (((Below.refl w.heap.size w).alloc (Nat.le_refl _) _).alloc (by simp) _).trans (hB1.mono (by omega)))
    rw [show w.heap.size + 1 + 1 = w.heap.size + 2 from rfl] at ho1 ⊢
    obtain ⟨xs0, hxs0⟩ : ∃ xs, (madeCells #[.int .u8 0, .int .i64 0, .int .u64 0, .string ⟨#[]⟩, .slice none 0 0] ((l.length + 1) * 5)).toList = xs := ⟨_, rfl⟩
    have hO1 := Owns.of_row ho1
    rw [hxs0] at hO1
    have hz1 : w.heap.size + 2 < w1.heap.size := (hO1.lt _ rfl).2
    have HO1 := Lib.hid hO1
    clear ho1 hg1 hB1 hA hxs0 hO1 hj hy0 hy1 hy2
    go_wp2_with fail
    go_loopw [4] (fun iv wr => ∃ (k : Nat) (V : Nat → Value) (xs : List Value), iv = .int .i64 k ∧ k ≤ l.length ∧ Owns wr (w.heap.size + 2) 37 5 (.slice (some ⟨w.heap.size + 2, 0, none⟩) (l.length + 1) (l.length + 1)) (l.length + 1) xs ∧ Filled l V k xs ∧
        (∀ (i : Nat) (y : Pl.Lit), i < k → l[i]? = some y → LentOf (fun q => w.heap.size + 2 < q) wr y.items (V i)) ∧ Save (fun q => q = w.heap.size + 2) w1 wr) (fun iv _ => l.length - (RowKit.intOf iv).toNat)
    case atStart => exact ⟨0, fun _ => .nilFunc, xs0, rfl, Nat.zero_le _, HO1.out, Filled.zero _ _ _, fun i y hi => by omega, Save.refl _ _⟩
    case round =>
      obtain ⟨k, V, xs, rfl, hk, hO, hF, hK, hS⟩ := hrel
      have HO := Lib.hid hO
      have HF := Lib.hid hF
      have HK := Lib.hid hK
      have HS := Lib.hid hS
      have hz := hS.size
      have hbw : Below w.heap.size w wr := HB1.out.trans (hS.below (by omega) (fun j hj => by omega))
      have hB2 : Below B w0 wr := hbel.trans (hbw.mono (by omega))
      have HBW := Lib.hid hbw
      have hc := (hS.block w.heap.size (by omega) (by omega)).trans HC1.out
      have c4 : wr.cell? ⟨w.heap.size, 4, none⟩ = some (.slice A l.length cap) := Lib.cell_of_heap hc 4
      have hcl : w.heap.size < wr.heap.size := by omega
      clear hO hF hK hS hbw
      by_cases hlt : k < l.length
      · obtain ⟨ba, oa, rfl, hba⟩ := hrow.some_of hlt
        obtain ⟨y, hy⟩ : ∃ y, l[k]? = some y := ⟨_, List.getElem?_eq_getElem hlt⟩
        obtain ⟨a0, a1, a2, a3, a4⟩ := (hrow.keep hB2 hB).lit hy
        have hyb := big_take hy
        have hyb2 : Pl.litsBig (l.take (k + 1)) ≤ Pl.litsBig l := big_take_le l _
        have hyw := HW.out y (List.mem_of_getElem? hy)
        have IH := Lib.hid (fun (W : World) (hbW : Below B w0 W) => ih k y hy y W rfl hbW hB0 hyw (by omega))
        have HY := Lib.hid hy
        have hltI : (k : Int) < (l.length : Int) := by omega
        have hk0 : (0 : Int) ≤ (k : Int) := by omega
        have hkl1 : (k : Int) < (l.length : Int) + 1 := by omega
        obtain ⟨Ay, capy, Vy, hVk, _⟩ := (hr k y hy).out
        rw [hVk] at a4 IH
        unfold litV at IH
        clear hVk hy hyw hc
        go_wp2_with (go_at_call 18
                     refine (IH.out _ hB2).mono ?_
                     rintro e w2 ⟨v2, rfl, hl2, hb2⟩
                     obtain ⟨g2, rfl⟩ : ∃ g2, v2 = .slice (some ⟨g2, 0, none⟩) y.items.length (y.items.length + 1) := (by cases hl2; exact ⟨_, rfl⟩)
                     have hO2 := HO.out.below hb2 (fun g hg => (HO.out.lt g hg).2)
                     have hlx := hO2.1
                     obtain ⟨z0, hz0⟩ : ∃ z, xs[k * 5 + 0]? = some z := ⟨_, List.getElem?_eq_getElem (by omega)⟩
                     obtain ⟨z1, hz1'⟩ : ∃ z, xs[k * 5 + 1]? = some z := ⟨_, List.getElem?_eq_getElem (by omega)⟩
                     obtain ⟨z2, hz2⟩ : ∃ z, xs[k * 5 + 2]? = some z := ⟨_, List.getElem?_eq_getElem (by omega)⟩
                     obtain ⟨z3, hz3⟩ : ∃ z, xs[k * 5 + 3]? = some z := ⟨_, List.getElem?_eq_getElem (by omega)⟩
                     obtain ⟨z4, hz4⟩ : ∃ z, xs[k * 5 + 4]? = some z := ⟨_, List.getElem?_eq_getElem (by omega)⟩
                     have y0 : w2.cell? ⟨w.heap.size + 2, k * 5, none⟩ = some z0 := hO2.cellAt hz0
                     have y1 : w2.cell? ⟨w.heap.size + 2, k * 5 + 1, none⟩ = some z1 := hO2.cellAt hz1'
                     have y2 : w2.cell? ⟨w.heap.size + 2, k * 5 + 2, none⟩ = some z2 := hO2.cellAt hz2
                     have y3 : w2.cell? ⟨w.heap.size + 2, k * 5 + 3, none⟩ = some z3 := hO2.cellAt hz3
                     have y4 : w2.cell? ⟨w.heap.size + 2, k * 5 + 4, none⟩ = some z4 := hO2.cellAt hz4
                     have yf0 : w2.frozen? ⟨w.heap.size + 2, k * 5, none⟩ = false := hO2.free (by omega)
                     have yf1 : w2.frozen? ⟨w.heap.size + 2, k * 5 + 1, none⟩ = false := hO2.free (by omega)
                     have yf2 : w2.frozen? ⟨w.heap.size + 2, k * 5 + 2, none⟩ = false := hO2.free (by omega)
                     have yf3 : w2.frozen? ⟨w.heap.size + 2, k * 5 + 3, none⟩ = false := hO2.free (by omega)
                     have yf4 : w2.frozen? ⟨w.heap.size + 2, k * 5 + 4, none⟩ = false := hO2.free (by omega)
                     have hz2' := hb2.size
                     have hgl : w.heap.size + 2 < w2.heap.size := by omega
                     have HB2 := Lib.hid hb2
                     have HL2 := Lib.hid hl2
                     have HO2 := Lib.hid hO2
                     clear hb2 hl2 hO2 hz0 hz1' hz2 hz3 hz4)
        go_roundw
        case rel =>
          have S2 : Save (fun q => q = w.heap.size + 2) w1 w2 := HS.out.step HB2.out (by omega)
          have SE := ((((((Save.refl (fun q => q = w.heap.size + 2) w2).set ⟨w.heap.size + 2, k * 5, none⟩ (.int .u8 y.kind) (fun _ => rfl)).set ⟨w.heap.size + 2, k * 5 + 1, none⟩ (.int .i64 y.n) (fun _ => rfl)).set ⟨w.heap.size + 2, k * 5 + 2, none⟩ (.int .u64 y.bits) (fun _ => rfl)).set ⟨w.heap.size + 2, k * 5 + 3, none⟩ (.string y.text) (fun _ => rfl)).set ⟨w.heap.size + 2, k * 5 + 4, none⟩ (.slice (some ⟨g2, 0, none⟩) y.items.length (y.items.length + 1)) (fun _ => rfl))
          refine ⟨k + 1, fun i => if i = k then .slice (some ⟨g2, 0, none⟩) y.items.length (y.items.length + 1) else V i, _, by go_num, by omega, (((((HO2.out.stored _).stored _).stored _).stored _).stored _), HF.out.step HY.out (by omega), ?_, S2.trans SE (fun g _ e => e)⟩
          intro i z hi hz
          by_cases hik : i = k
          · subst hik
            have : z = y := by rw [HY.out] at hz; cases hz; rfl
            subst this
            simp only [if_true]
            exact (HL2.out.save SE (fun g _ (hg : wr.heap.size ≤ g) e => by omega)).mono (fun g _ (hg : wr.heap.size ≤ g) => by omega)
          · simp only [if_neg hik]
            exact ((HK.out i z (by omega) hz).save (Save.none_below' HB2.out) (fun _ _ _ f => f)).save SE (fun g _ (hg : w.heap.size + 2 < g) e => by omega)
        case measure => simp [RowKit.intOf]; omega
      · have hltI : (l.length : Int) ≤ (k : Int) := by omega
        have hke : k = l.length := by omega
        subst hke
        have hO2 := HO.out
        have hlx := hO2.1
        obtain ⟨z1, hz1'⟩ : ∃ z, xs[l.length * 5 + 1]? = some z := ⟨_, List.getElem?_eq_getElem (by omega)⟩
        have y1 : wr.cell? ⟨w.heap.size + 2, l.length * 5 + 1, none⟩ = some z1 := hO2.cellAt hz1'
        have yf1 : wr.frozen? ⟨w.heap.size + 2, l.length * 5 + 1, none⟩ = false := hO2.free (by omega)
        have hd := (HS.out.block (w.heap.size + 1) (by omega) (by omega)).trans HD1.out
        have c0 : wr.cell? ⟨w.heap.size, 0, none⟩ = some (.int .u8 x.kind) := Lib.cell_of_heap hc 0
        have c1 : wr.cell? ⟨w.heap.size, 1, none⟩ = some (.int .i64 x.n) := Lib.cell_of_heap hc 1
        have c2 : wr.cell? ⟨w.heap.size, 2, none⟩ = some (.int .u64 x.bits) := Lib.cell_of_heap hc 2
        have c3 : wr.cell? ⟨w.heap.size, 3, none⟩ = some (.string x.text) := Lib.cell_of_heap hc 3
        have cf : wr.frozen? ⟨w.heap.size, 4, none⟩ = false := Lib.frozen_of_heap hc 4
        have e0 : wr.cell? ⟨w.heap.size + 1, 0, none⟩ = some (.int .u8 0) := Lib.cell_of_heap hd 0
        have e1 : wr.cell? ⟨w.heap.size + 1, 1, none⟩ = some (.int .i64 0) := Lib.cell_of_heap hd 1
        have e2 : wr.cell? ⟨w.heap.size + 1, 2, none⟩ = some (.int .u64 0) := Lib.cell_of_heap hd 2
        have e3 : wr.cell? ⟨w.heap.size + 1, 3, none⟩ = some (.string ⟨#[]⟩) := Lib.cell_of_heap hd 3
        have e4 : wr.cell? ⟨w.heap.size + 1, 4, none⟩ = some (.slice none 0 0) := Lib.cell_of_heap hd 4
        have f0 : wr.frozen? ⟨w.heap.size + 1, 0, none⟩ = false := Lib.frozen_of_heap hd 0
        have f1 : wr.frozen? ⟨w.heap.size + 1, 1, none⟩ = false := Lib.frozen_of_heap hd 1
        have f2 : wr.frozen? ⟨w.heap.size + 1, 2, none⟩ = false := Lib.frozen_of_heap hd 2
        have f3 : wr.frozen? ⟨w.heap.size + 1, 3, none⟩ = false := Lib.frozen_of_heap hd 3
        have f4 : wr.frozen? ⟨w.heap.size + 1, 4, none⟩ = false := Lib.frozen_of_heap hd 4
        have hdl : w.heap.size + 1 < wr.heap.size := by omega
        have hgl : w.heap.size + 2 < wr.heap.size := by omega
        have hi0 : (0 : Int) ≤ (l.length : Int) := by omega
        have hi1 : (l.length : Int) < (l.length : Int) + 1 := by omega
        have hi2 : (l.length : Int) ≤ (l.length : Int) + 1 := by omega
        clear hc hd hO2
        go_wp2_with fail
        refine bodyPost_ret (v := .agg #[.int .u8 x.kind, .int .i64 x.n, .int .u64 x.bits, .string x.text, .slice (some ⟨w.heap.size + 2, 0, none⟩) l.length (l.length + 1)]) (by simp [results, Tryz.results18, go_sem, e0, e1, e2, e3, e4]) rfl ?_
        have S1 := (Save.refl (fun q => q = w.heap.size + 2) wr).set ⟨w.heap.size + 2, l.length * 5 + 1, none⟩ (.int .i64 (-771)) (fun _ => rfl)
        have HO3 := HO.out.stored (j := l.length * 5 + 1) (.int .i64 (-771))
        generalize wr.setCell ⟨w.heap.size + 2, l.length * 5 + 1, none⟩ (.int .i64 (-771)) = w3 at S1 HO3 ⊢
        have SE := ((((((Save.refl (fun q => q = w.heap.size ∨ q = w.heap.size + 1) w3).set ⟨w.heap.size, 4, none⟩ (.slice (some ⟨w.heap.size + 2, 0, none⟩) l.length (l.length + 1)) (fun _ => .inl rfl)).set ⟨w.heap.size + 1, 0, none⟩ (.int .u8 x.kind) (fun _ => .inr rfl)).set ⟨w.heap.size + 1, 1, none⟩ (.int .i64 x.n) (fun _ => .inr rfl)).set ⟨w.heap.size + 1, 2, none⟩ (.int .u64 x.bits) (fun _ => .inr rfl)).set ⟨w.heap.size + 1, 3, none⟩ (.string x.text) (fun _ => .inr rfl)).set ⟨w.heap.size + 1, 4, none⟩ (.slice (some ⟨w.heap.size + 2, 0, none⟩) l.length (l.length + 1)) (fun _ => .inr rfl)
        refine ⟨_, rfl, ?_, HBW.out.trans (((S1.mono (T := fun q => q = w.heap.size + 2 ∨ q = w.heap.size ∨ q = w.heap.size + 1) (fun _ _ e => .inl e)).trans SE (fun _ _ e => .inr e)).below (by omega) (fun j hj => by omega))⟩
        rw [HX0.out]
        refine LentOf.of_filled (HO3.save SE (fun q hq e => ?_)) (Filled.room HF.out _) (List.getElem?_set_self (by omega)) (by omega) (by omega) HW.out ?_
        · simp [Value.ownBlock] at hq
          omega
        · intro i z hz
          exact (((HK.out i z (List.getElem?_eq_some_iff.1 hz).1 hz).save S1 (fun g _ (hg : w.heap.size + 2 < g) e => by omega)).save SE (fun g _ (hg : w.heap.size + 2 < g) e => by omega)).mono (fun g _ (hg : w.heap.size + 2 < g) => by omega)
end Go.Proofs.YtoklnpoacckbfaaGreatDoor
