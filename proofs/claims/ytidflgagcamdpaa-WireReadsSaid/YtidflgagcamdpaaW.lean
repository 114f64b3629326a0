/- The chapter's examples hold: 'works' returns true. -/
import Derived.Test.YtidflgagcamdpaaH
namespace Go.Proofs.Ytidflgagcamdpaa
open Go.RowKit Go.Lib
def tagsA : ByteArray := ⟨#[116, 97, 103, 115, 1, 0, 0, 0, 97, 42, 135, 213, 58]⟩
theorem ex_put (w : World) (g : Nat) (hc : w.cell? ⟨g, 0, none⟩ = some (.int .u64 258)) (hg : g < w.heap.size) :
    Calls Try.prog 10 #[.string ⟨#[]⟩, .slice (some ⟨g, 0, none⟩) 1 1] w fun e w' => e = .returned (.string ⟨#[2, 1, 0, 0, 0, 0, 0, 0]⟩) ∧ Below w.heap.size w w' := by
  refine (wput_any ⟨#[]⟩ (some ⟨g, 0, none⟩) 1 [258] w (.inr ⟨g, 0, rfl, hg, fun i h => ?_⟩) (by decide)).mono ?_
  · have : i = 0 := by simp at h; omega
    subst this
    exact ⟨hc, by simp⟩
  · rintro e w' ⟨rfl, hb⟩
    exact ⟨rfl, hb⟩
theorem ex_take0 (w : World) : Calls Try.prog 17 #[.string ⟨#[2, 1, 0, 0, 0, 0, 0, 0]⟩, .int .i64 0] w fun e w' => e = .returned (.tuple #[.int .u64 258, .int .i64 8, .int .i64 0]) ∧ w = w' := by
  refine (take_any ⟨#[2, 1, 0, 0, 0, 0, 0, 0]⟩ 0 w (by decide) (by decide) (by decide)).mono ?_
  rintro e w' ⟨rfl, rfl⟩
  exact ⟨rfl, rfl⟩
theorem ex_take1 (w : World) : Calls Try.prog 17 #[.string ⟨#[2, 1, 0, 0, 0, 0, 0, 0]⟩, .int .i64 1] w fun e w' => e = .returned (.tuple #[.int .u64 0, .int .i64 1, .int .i64 20]) ∧ w = w' := by
  refine (take_any ⟨#[2, 1, 0, 0, 0, 0, 0, 0]⟩ 1 w (by decide) (by decide) (by decide)).mono ?_
  rintro e w' ⟨rfl, rfl⟩
  exact ⟨rfl, rfl⟩
theorem ex_sum0 : 4294967295 - Pl.crc 4294967295 [49, 50, 51, 52, 53, 54, 55, 56, 57] = 3421780262 := by decide +kernel
theorem ex_sum (w : World) : Calls Try.prog 13 #[.string ⟨#[49, 50, 51, 52, 53, 54, 55, 56, 57]⟩] w fun e w' => e = .returned (.int .u32 3421780262) ∧ w = w' := by
  refine (sum_any ⟨#[49, 50, 51, 52, 53, 54, 55, 56, 57]⟩ w (by decide)).mono ?_
  rintro e w' ⟨rfl, rfl⟩
  exact ⟨ret_int (by rw [ex_sum0]; rfl), rfl⟩
theorem ex_chunk0 : bs (chunkText [116, 97, 103, 115] [97]) = tagsA ∧ chunkErr [116, 97, 103, 115] [97] = 0 := by decide +kernel
theorem ex_chunk (w : World) : Calls Try.prog 15 #[.string ⟨#[116, 97, 103, 115]⟩, .string ⟨#[97]⟩] w fun e w' => e = .returned (.tuple #[.string tagsA, .int .i64 0]) ∧ Below w.heap.size w w' := by
  refine (chunk_any ⟨#[116, 97, 103, 115]⟩ ⟨#[97]⟩ w (by decide) (by decide)).mono ?_
  rintro e w' ⟨rfl, hb⟩
  exact ⟨by rw [show (⟨#[116, 97, 103, 115]⟩ : ByteArray).data.toList = [116, 97, 103, 115] from rfl, show (⟨#[97]⟩ : ByteArray).data.toList = [97] from rfl, ex_chunk0.1, ex_chunk0.2]; rfl, hb⟩
theorem ex_chunk1 (w : World) : Calls Try.prog 15 #[.string ⟨#[84, 97, 103, 49]⟩, .string ⟨#[]⟩] w fun e w' => e = .returned (.tuple #[.string ⟨#[]⟩, .int .i64 1]) ∧ Below w.heap.size w w' := by
  refine (chunk_any ⟨#[84, 97, 103, 49]⟩ ⟨#[]⟩ w (by decide) (by decide)).mono ?_
  rintro e w' ⟨rfl, hb⟩
  exact ⟨rfl, hb⟩
theorem ex_next0 : nextOf tagsA.data.toList 0 = ([116, 97, 103, 115], [97], 13, 0) := by decide +kernel
theorem ex_next (w : World) : Calls Try.prog 18 #[.string tagsA, .int .i64 0] w fun e w' => e = .returned (.tuple #[.string ⟨#[116, 97, 103, 115]⟩, .string ⟨#[97]⟩, .int .i64 13, .int .i64 0]) ∧ Below w.heap.size w w' := by
  refine (next_any tagsA 0 w (by decide) (by decide) (by decide)).mono ?_
  rintro e w' ⟨rfl, hb⟩
  exact ⟨by rw [ex_next0]; rfl, hb⟩
theorem tags_eq : (tagsA.toList == [116, 97, 103, 115, 1, 0, 0, 0, 97, 42, 135, 213, 58]) = true := by decide +kernel
set_option maxRecDepth 100000 in
set_option maxHeartbeats 1000000 in
theorem works_any (w : World) : Calls Try.prog 8 #[] w fun e w' => e = .returned (.bool true) ∧ Below w.heap.size w w' := by
  have ht := tags_eq
  go_enter Try.func8, Try.ntmps8
  go_wp2_with fail
  refine (ex_put _ _ (by simp) (by simp)).mono ?_
  rintro e w1 ⟨rfl, b1⟩
  go_wp2_with fail
  refine (ex_take0 _).mono ?_
  rintro e w' ⟨rfl, rfl⟩
  go_wp2_with fail
  refine (ex_take1 _).mono ?_
  rintro e w' ⟨rfl, rfl⟩
  go_wp2_with fail
  refine (ex_sum _).mono ?_
  rintro e w' ⟨rfl, rfl⟩
  go_wp2_with fail
  refine (ex_chunk _).mono ?_
  rintro e w2 ⟨rfl, b2⟩
  go_wp2_with fail
  refine (ex_next _).mono ?_
  rintro e w3 ⟨rfl, b3⟩
  go_wp2_with fail
  refine (ex_chunk1 _).mono ?_
  rintro e w4 ⟨rfl, b4⟩
  go_wp2_with fail
  go_ret
  have z1 := b1.size
  have z2 := b2.size
  have z3 := b3.size
  simp at z1
  refine ⟨rfl, ?_⟩
  have c1 := (((Below.refl w.heap.size w).alloc (Nat.le_refl _) _).trans (b1.mono (by simp)))
  exact ((c1.trans (b2.mono (by omega))).trans (b3.mono (by omega))).trans (b4.mono (by omega))
end Go.Proofs.Ytidflgagcamdpaa
