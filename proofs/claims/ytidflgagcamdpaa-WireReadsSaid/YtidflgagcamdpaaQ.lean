/- Contracts of Chunks, the program's and the document's. -/
import Derived.Test.YtidflgagcamdpaaP
import Derived.Test.YtidflgagcamdpaaH
namespace Go.Proofs.Ytidflgagcamdpaa
open Go.RowKit Go.Lib
def fcell (f : Fl) : List Value := [.string (bs f.1), .string (bs f.2)]
def fcells (fs : List Fl) : List Value := fs.flatMap fcell
theorem fcells_snoc (fs : List Fl) (f : Fl) : fcells (fs ++ [f]) = fcells fs ++ fcell f := by simp [fcells]
theorem fcells_len : ∀ fs, (fcells fs).length = fs.length * 2
  | [] => rfl
  | f :: r => by have := fcells_len r; simp only [fcells] at this; simp [fcells, fcell, this]; omega
theorem info60 : (Try.prog.info? 60).map (fun i => (i.zero, i.size, i.bytes)) = some (some (.agg #[.string ⟨#[]⟩, .string ⟨#[]⟩]), 2, 32) := by kernel_rfl
/-- What 'Chunks' leaves. -/
def ChunksOk (w : World) (b : List UInt8) (e : Ending) (w' : World) : Prop :=
  ∃ v, e = .returned (.tuple #[v, .int .i64 ((chunksOf b).2.1 : Nat), .int .i64 ((chunksOf b).2.2 : Nat)]) ∧ Owns w' w.heap.size 60 2 v (chunksOf b).1.length (fcells (chunksOf b).1) ∧ Below w.heap.size w w'
theorem two_new (w : World) (u v : Value) (t : TypeId) : ∀ j x, [u, v][j]? = some x → (w.alloc (.cells #[u, v] t)).cell? ((⟨w.heap.size, 0, none⟩ : Addr).add j) = some x := by
  intro j x hj
  match j, hj with
  | 0, hj => simp at hj; subst hj; simp [Addr.add]
  | 1, hj => simp at hj; subst hj; simp [Addr.add]
theorem runC_stop {b : List UInt8} {f k : Nat} {acc : List Fl} (h : ¬ k < b.length) (hf : 0 < f) : runC b f k acc = (acc, 0, 0) := by
  obtain ⟨g, rfl⟩ : ∃ g, f = g + 1 := ⟨f - 1, by omega⟩
  unfold runC; rw [if_neg h]
theorem runC_bad {b : List UInt8} {f k : Nat} {acc : List Fl} (h : k < b.length) (hf : 0 < f) (he : (nextOf b k).2.2.2 ≠ 0) : runC b f k acc = ([], (nextOf b k).2.2.2, k) := by
  obtain ⟨g, rfl⟩ : ∃ g, f = g + 1 := ⟨f - 1, by omega⟩
  unfold runC; rw [if_pos h, if_neg he]
theorem runC_go {b : List UInt8} {f k : Nat} {acc : List Fl} (h : k < b.length) (he : (nextOf b k).2.2.2 = 0) : runC b (f + 1) k acc = runC b f (nextOf b k).2.2.1.toNat (acc ++ [((nextOf b k).1, (nextOf b k).2.1)]) := by
  conv => lhs; unfold runC
  rw [if_pos h, if_pos he]
set_option maxHeartbeats 1000000 in
theorem chunks_any (b : ByteArray) (w : World) (hb : b.size ≤ 33554431) : Calls Try.prog 21 #[.string b] w (ChunksOk w b.data.toList) := by
  obtain ⟨i0, hi, hz0, hz1, hz2⟩ := info_parts info60
  have lb : b.data.toList.length = b.size := by simp
  have LB := Lib.hid lb
  clear lb
  go_enter Try.func21, Try.ntmps21
  go_wp2
  go_loopw [5, 6] (fun v i wr => ∃ (k f : Nat) (fs : List Fl), k ≤ b.size ∧ i = .int .i64 k ∧ b.size - k < f ∧ fs.length ≤ k ∧ chunksOf b.data.toList = runC b.data.toList f k fs ∧ Owns wr w.heap.size 60 2 v fs.length (fcells fs) ∧ Below w.heap.size w wr) (fun _ i _ => b.size - (intOf i).toNat)
  case atStart => exact ⟨0, b.size + 1, [], Nat.zero_le _, rfl, by omega, Nat.le_refl _, by rw [chunksOf, LB.out], Owns.nil _ _ _ _, Below.refl _ _⟩
  case round =>
    obtain ⟨k, f, fs, hk, rfl, hf, hfl, hrun, ho, hbw⟩ := hrel
    obtain ⟨a1, c1, rfl⟩ := ho.form
    have HR := Lib.hid hrun
    have HO := Lib.hid ho
    have HB := Lib.hid hbw
    have hsz := hbw.size
    clear hrun ho hbw
    by_cases hlt : k < b.size
    · have HK := Lib.hid (show k < b.data.toList.length by rw [LB.out]; exact hlt)
      go_wp2_with fail
      refine (next_any b k _ (by omega) (by omega) (by omega)).mono ?_
      rintro e w1 ⟨rfl, b1⟩
      have HB1 := Lib.hid (HB.out.trans (b1.mono hsz))
      have HO1 := Lib.hid (HO.out.below b1 (fun j hj => (HO.out.lt j hj).2))
      have hs1 : w.heap.size ≤ w1.heap.size := Nat.le_trans hsz b1.size
      clear b1
      by_cases he : (nextOf b.data.toList k).2.2.2 = 0
      · obtain ⟨_, hto, hg⟩ := nextOf_good b.data.toList k he
        rw [Int.toNat_natCast] at hg
        obtain ⟨f', rfl⟩ : ∃ f', f = f' + 1 := ⟨f - 1, by omega⟩
        have HG := Lib.hid (runC_go (f := f') (acc := fs) HK.out he)
        have hfit := hg.fits
        rw [LB.out] at hfit
        rw [he, hto]
        rw [hto] at HG
        clear he hto hg
        generalize (nextOf b.data.toList k).1 = t at HG ⊢
        generalize (nextOf b.data.toList k).2.1 = c at HG hfit ⊢
        go_wp2_with (at_builtin; refine wpList_append_owns rfl (.tmp 27) (.tmp 31) 42 rfl w.heap.size 60 i0 (.agg #[.string ⟨#[]⟩, .string ⟨#[]⟩]) 2 32 Try.underlying42 hi hz0 hz1 hz2 rfl _ _ _ rfl (HO1.out.alloc _) ⟨w1.heap.size, 0, none⟩ 1 1 [.string (bs t), .string (bs c)] rfl rfl ?c1 ?c2 ?c3 ?c4 ?c5 ?_)
        case c1 => exact two_new _ _ _ _
        case c2 => intro u hu; simp at hu; rcases hu with rfl | rfl <;> rfl
        case c3 => unfold maxLen; omega
        case c4 => omega
        case c5 => simp; omega
        intro v' w2 ho2 hg2
        obtain ⟨a2, c2, rfl⟩ := ho2.form
        have HO2 := Lib.hid ho2
        have HB2 := Lib.hid (hg2.below (HB1.out.alloc hs1 _) (by simp; omega) (fun j hj => (HO1.out.lt j hj).1))
        clear ho2 hg2
        go_wp2
        go_roundw
        case rel =>
          refine ⟨k + (12 + c.length), f', fs ++ [(t, c)], hfit, ?_, by omega, by simp; omega, ?_, ?_, HB2.out⟩
          · congr 1
          · rw [HR.out, HG.out]; congr 1
          · rw [fcells_snoc, List.length_append]; exact HO2.out
        case measure => simp [intOf]; omega
      · have HF := Lib.hid (runC_bad (f := f) (acc := fs) HK.out (by omega) he)
        have hne : (((nextOf b.data.toList k).2.2.2 : Nat) != (0 : Int)) = true := by simp; omega
        clear he
        generalize (nextOf b.data.toList k).2.2.2 = E at HF hne ⊢
        generalize (nextOf b.data.toList k).2.2.1 = to
        generalize (nextOf b.data.toList k).1 = t
        generalize (nextOf b.data.toList k).2.1 = c
        go_wp2_with fail
        go_ret3
        refine ⟨.slice none 0 0, ?_, ?_, HB1.out⟩
        · rw [HR.out, HF.out]; rfl
        · rw [HR.out, HF.out]; exact Owns.nil _ _ _ _
    · have HF := Lib.hid (runC_stop (b := b.data.toList) (f := f) (k := k) (acc := fs) (by rw [LB.out]; exact hlt) (by omega))
      go_wp2_with fail
      go_ret3
      refine ⟨.slice a1 fs.length c1, ?_, ?_, HB.out⟩
      · rw [HR.out, HF.out]; rfl
      · rw [HR.out, HF.out]; exact HO.out
set_option maxHeartbeats 1000000 in
theorem rchunks_any (b : ByteArray) (w : World) (hb : b.size ≤ 33554431) : Calls Try.prog 22 #[.string b] w (ChunksOk w b.data.toList) := by
  obtain ⟨i0, hi, hz0, hz1, hz2⟩ := info_parts info60
  have lb : b.data.toList.length = b.size := by simp
  have LB := Lib.hid lb
  clear lb
  go_enter Try.func22, Try.ntmps22
  go_wp2
  go_loopw [5, 6] (fun v i wr => ∃ (k f : Nat) (fs : List Fl), k ≤ b.size ∧ i = .int .i64 k ∧ b.size - k < f ∧ fs.length ≤ k ∧ chunksOf b.data.toList = runC b.data.toList f k fs ∧ Owns wr w.heap.size 60 2 v fs.length (fcells fs) ∧ Below w.heap.size w wr) (fun _ i _ => b.size - (intOf i).toNat)
  case atStart => exact ⟨0, b.size + 1, [], Nat.zero_le _, rfl, by omega, Nat.le_refl _, by rw [chunksOf, LB.out], Owns.nil _ _ _ _, Below.refl _ _⟩
  case round =>
    obtain ⟨k, f, fs, hk, rfl, hf, hfl, hrun, ho, hbw⟩ := hrel
    obtain ⟨a1, c1, rfl⟩ := ho.form
    have HR := Lib.hid hrun
    have HO := Lib.hid ho
    have HB := Lib.hid hbw
    have hsz := hbw.size
    clear hrun ho hbw
    by_cases hlt : k < b.size
    · have HK := Lib.hid (show k < b.data.toList.length by rw [LB.out]; exact hlt)
      go_wp2_with fail
      refine (rnext_any b k _ (by omega) (by omega) (by omega)).mono ?_
      rintro e w1 ⟨rfl, b1⟩
      have HB1 := Lib.hid (HB.out.trans (b1.mono hsz))
      have HO1 := Lib.hid (HO.out.below b1 (fun j hj => (HO.out.lt j hj).2))
      have hs1 : w.heap.size ≤ w1.heap.size := Nat.le_trans hsz b1.size
      clear b1
      by_cases he : (nextOf b.data.toList k).2.2.2 = 0
      · obtain ⟨_, hto, hg⟩ := nextOf_good b.data.toList k he
        rw [Int.toNat_natCast] at hg
        obtain ⟨f', rfl⟩ : ∃ f', f = f' + 1 := ⟨f - 1, by omega⟩
        have HG := Lib.hid (runC_go (f := f') (acc := fs) HK.out he)
        have hfit := hg.fits
        rw [LB.out] at hfit
        rw [he, hto]
        rw [hto] at HG
        clear he hto hg
        generalize (nextOf b.data.toList k).1 = t at HG ⊢
        generalize (nextOf b.data.toList k).2.1 = c at HG hfit ⊢
        go_wp2_with (at_builtin; refine wpList_append_owns rfl (.tmp 27) (.tmp 31) 42 rfl w.heap.size 60 i0 (.agg #[.string ⟨#[]⟩, .string ⟨#[]⟩]) 2 32 Try.underlying42 hi hz0 hz1 hz2 rfl _ _ _ rfl (HO1.out.alloc _) ⟨w1.heap.size, 0, none⟩ 1 1 [.string (bs t), .string (bs c)] rfl rfl ?c1 ?c2 ?c3 ?c4 ?c5 ?_)
        case c1 => exact two_new _ _ _ _
        case c2 => intro u hu; simp at hu; rcases hu with rfl | rfl <;> rfl
        case c3 => unfold maxLen; omega
        case c4 => omega
        case c5 => simp; omega
        intro v' w2 ho2 hg2
        obtain ⟨a2, c2, rfl⟩ := ho2.form
        have HO2 := Lib.hid ho2
        have HB2 := Lib.hid (hg2.below (HB1.out.alloc hs1 _) (by simp; omega) (fun j hj => (HO1.out.lt j hj).1))
        clear ho2 hg2
        go_wp2
        go_roundw
        case rel =>
          refine ⟨k + (12 + c.length), f', fs ++ [(t, c)], hfit, ?_, by omega, by simp; omega, ?_, ?_, HB2.out⟩
          · congr 1
          · rw [HR.out, HG.out]; congr 1
          · rw [fcells_snoc, List.length_append]; exact HO2.out
        case measure => simp [intOf]; omega
      · have HF := Lib.hid (runC_bad (f := f) (acc := fs) HK.out (by omega) he)
        have hne : (((nextOf b.data.toList k).2.2.2 : Nat) != (0 : Int)) = true := by simp; omega
        clear he
        generalize (nextOf b.data.toList k).2.2.2 = E at HF hne ⊢
        generalize (nextOf b.data.toList k).2.2.1 = to
        generalize (nextOf b.data.toList k).1 = t
        generalize (nextOf b.data.toList k).2.1 = c
        go_wp2_with fail
        go_ret3
        refine ⟨.slice none 0 0, ?_, ?_, HB1.out⟩
        · rw [HR.out, HF.out]; rfl
        · rw [HR.out, HF.out]; exact Owns.nil _ _ _ _
    · have HF := Lib.hid (runC_stop (b := b.data.toList) (f := f) (k := k) (acc := fs) (by rw [LB.out]; exact hlt) (by omega))
      go_wp2_with fail
      go_ret3
      refine ⟨.slice a1 fs.length c1, ?_, ?_, HB.out⟩
      · rw [HR.out, HF.out]; rfl
      · rw [HR.out, HF.out]; exact HO.out
end Go.Proofs.Ytidflgagcamdpaa
