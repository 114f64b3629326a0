/- Plain laws of chunks: a chunk has one form, and chunks one behind the other are read as these. -/
import Derived.Test.YtidflgagcamdpaaL
namespace Go.Proofs.Ytidflgagcamdpaa
open Go.RowKit Go.Lib
abbrev Fl : Type := List UInt8 × List UInt8
theorem leBytes_leNum : ∀ (l : List UInt8), Pl.leBytes l.length (Pl.leNum l) = l
  | [] => rfl
  | b :: r => by
    have h := leBytes_leNum r
    have hb := b.toNat_lt
    simp only [List.length_cons, Pl.leBytes, Pl.leNum]
    rw [show (b.toNat + 256 * Pl.leNum r) / 256 = Pl.leNum r by omega, h]
    congr 1
    apply UInt8.toNat_inj.1
    rw [UInt8.toNat_ofNat']
    omega
theorem leBytes_of {l : List UInt8} {n : Nat} (h : l.length = n) : Pl.leBytes n (Pl.leNum l) = l := by subst h; exact leBytes_leNum l
/-- What a chunk that is read looks like. -/
structure Good1 (b : List UInt8) (k : Nat) (t c : List UInt8) : Prop where
  tag : Pl.isTag t = true
  len : c.length ≤ 16777216
  fits : k + (12 + c.length) ≤ b.length
  form : (b.drop k).take (12 + c.length) = chunkOf t c
theorem nextOf_good (b : List UInt8) (at_ : Int) (h : (nextOf b at_).2.2.2 = 0) :
    0 ≤ at_ ∧ (nextOf b at_).2.2.1 = at_ + (12 + (nextOf b at_).2.1.length : Nat) ∧ Good1 b at_.toNat (nextOf b at_).1 (nextOf b at_).2.1 := by
  by_cases c1 : at_ < 0 ∨ (b.length : Int) < at_
  · exfalso; unfold nextOf at h; rw [if_pos c1] at h; exact absurd h (by simp)
  have h0 : 0 ≤ at_ := by omega
  obtain ⟨k, rfl⟩ := Int.eq_ofNat_of_zero_le h0
  have hl : (b.drop k).length = b.length - k := List.length_drop
  by_cases c2 : (b.drop k).length < 8
  · exfalso; unfold nextOf at h; rw [if_neg c1, Int.toNat_natCast, if_pos c2] at h; exact absurd h (by simp)
  by_cases c3 : Pl.isTag ((b.drop k).take 4) = false
  · exfalso; unfold nextOf at h; rw [if_neg c1, Int.toNat_natCast, if_neg c2, if_pos c3] at h; exact absurd h (by simp)
  generalize hN : Pl.leNum (((b.drop k).drop 4).take 4) = n at *
  by_cases c4 : 16777216 < n
  · exfalso; unfold nextOf at h; rw [if_neg c1, Int.toNat_natCast, if_neg c2, if_neg c3, hN, if_pos c4] at h; exact absurd h (by simp)
  by_cases c5 : ((b.drop k).drop 8).length < n + 4
  · exfalso; unfold nextOf at h; rw [if_neg c1, Int.toNat_natCast, if_neg c2, if_neg c3, hN, if_neg c4, if_pos c5] at h; exact absurd h (by simp)
  by_cases c6 : Pl.leNum ((((b.drop k).drop 8).drop n).take 4) ≠ sumOf ((b.drop k).take 4 ++ ((b.drop k).drop 8).take n)
  · exfalso; unfold nextOf at h; rw [if_neg c1, Int.toNat_natCast, if_neg c2, if_neg c3, hN, if_neg c4, if_neg c5, if_pos c6] at h; exact absurd h (by simp)
  have hf : nextOf b k = ((b.drop k).take 4, ((b.drop k).drop 8).take n, (k : Int) + 8 + (n : Nat) + 4, 0) := by
    unfold nextOf; rw [if_neg c1, Int.toNat_natCast, if_neg c2, if_neg c3, hN, if_neg c4, if_neg c5, if_neg c6]
  have hl8 : ((b.drop k).drop 8).length = b.length - k - 8 := by rw [List.length_drop, hl]
  have hcl : (((b.drop k).drop 8).take n).length = n := by rw [List.length_take, hl8]; omega
  rw [hf]
  refine ⟨h0, by simp only [hcl]; omega, ⟨by simpa using c3, by simp only [hcl]; omega, by simp only [hcl]; rw [Int.toNat_natCast]; omega, ?_⟩⟩
  simp only [hcl]
  rw [Int.toNat_natCast]
  have c6' : Pl.leNum ((((b.drop k).drop 8).drop n).take 4) = sumOf ((b.drop k).take 4 ++ ((b.drop k).drop 8).take n) := by
    exact Decidable.of_not_not c6
  unfold chunkOf
  rw [hcl, ← c6', leBytes_of (by rw [List.length_take, List.length_drop, hl8]; omega), ← hN, leBytes_of (by rw [List.length_take, List.length_drop, hl]; omega), hN]
  generalize b.drop k = r at *
  have e1 : r.take (12 + n) = r.take 4 ++ (r.drop 4).take (8 + n) := by rw [show 12 + n = 4 + (8 + n) by omega, List.take_add]
  have e2 : (r.drop 4).take (8 + n) = (r.drop 4).take 4 ++ ((r.drop 4).drop 4).take (4 + n) := by rw [show 8 + n = 4 + (4 + n) by omega, List.take_add]
  have e3 : (r.drop 4).drop 4 = r.drop 8 := by rw [List.drop_drop]
  have e4 : (r.drop 8).take (4 + n) = (r.drop 8).take n ++ ((r.drop 8).drop n).take 4 := by rw [Nat.add_comm 4 n, List.take_add]
  rw [e1, e2, e3, e4]
/-- All chunks of bytes, from a place on. -/
def runC (b : List UInt8) : Nat → Nat → List Fl → List Fl × Nat × Nat
  | 0, _, acc => (acc, 0, 0)
  | f + 1, k, acc =>
    if k < b.length then
      (if (nextOf b k).2.2.2 = 0 then runC b f (nextOf b k).2.2.1.toNat (acc ++ [((nextOf b k).1, (nextOf b k).2.1)]) else ([], (nextOf b k).2.2.2, k))
    else (acc, 0, 0)
def chunksOf (b : List UInt8) : List Fl × Nat × Nat := runC b (b.length + 1) 0 []
def catC (fs : List Fl) : List UInt8 := fs.flatMap fun f => chunkOf f.1 f.2
def OkC (fs : List Fl) : Prop := ∀ f ∈ fs, Pl.isTag f.1 = true ∧ f.2.length ≤ 16777216
/-- What is read behind the other is all that was there. -/
theorem runC_law (b : List UInt8) : ∀ (f k : Nat) (acc : List Fl), b.length - k < f → k ≤ b.length → catC acc = b.take k → OkC acc →
    ((runC b f k acc).2.1 = 0 → catC (runC b f k acc).1 = b ∧ OkC (runC b f k acc).1) ∧ ((runC b f k acc).2.1 ≠ 0 → (runC b f k acc).1 = [])
  | 0, k, acc, hf, _, _, _ => by omega
  | f + 1, k, acc, hf, hk, hc, ho => by
    unfold runC
    by_cases h1 : k < b.length
    · rw [if_pos h1]
      by_cases h2 : (nextOf b k).2.2.2 = 0
      · rw [if_pos h2]
        obtain ⟨_, hto, hg⟩ := nextOf_good b k h2
        rw [Int.toNat_natCast] at hg
        have hto' : (nextOf b k).2.2.1.toNat = k + (12 + (nextOf b k).2.1.length) := by rw [hto]; omega
        rw [hto']
        have hfit := hg.fits
        refine runC_law b f _ _ (by omega) hfit ?_ ?_
        · rw [catC, List.flatMap_append, List.flatMap_singleton, ← hg.form, ← catC, hc, ← List.take_add]
        · intro x hx
          rw [List.mem_append] at hx
          rcases hx with hx | hx
          · exact ho x hx
          · simp at hx; subst hx; exact ⟨hg.tag, hg.len⟩
      · rw [if_neg h2]
        exact ⟨fun h => absurd h h2, fun _ => rfl⟩
    · rw [if_neg h1]
      have : k = b.length := by omega
      subst this
      rw [List.take_length] at hc
      exact ⟨fun _ => ⟨hc, ho⟩, fun h => absurd rfl h⟩
theorem chunksOf_law (b : List UInt8) : ((chunksOf b).2.1 = 0 → catC (chunksOf b).1 = b ∧ OkC (chunksOf b).1) ∧ ((chunksOf b).2.1 ≠ 0 → (chunksOf b).1 = []) :=
  runC_law b _ 0 [] (by omega) (Nat.zero_le _) rfl (by intro f hf; cases hf)
end Go.Proofs.Ytidflgagcamdpaa
