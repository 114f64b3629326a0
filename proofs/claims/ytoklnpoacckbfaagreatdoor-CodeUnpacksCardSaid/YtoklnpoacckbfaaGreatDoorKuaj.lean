/- The card of CodeUnpacks: the row, tied. -/
import Derived.Test.YtoklnpoacckbfaaGreatDoorKuai
namespace Go.Proofs.YtoklnpoacckbfaaGreatDoor.codeUnpacks
theorem proved : Rows.CodeUnpacksCardSaid :=
  Claim7.holds_tied_plain_at .later [] [.data, .data, .data, .data, .data, .sentinel, .sentinel, .pinned, .pinned, .pinned] true (true, "adbd7c0127a55590bc89d01b64bfcc3eb83a575ac943a1dd2fdaeb1bc60e2635") true
    over (fun _ h => by cases h) (by kernel_rfl) (fun _ h => by cases h) codeUnpacks_row_tie rfl ⟨rfl, rfl⟩ (by kernel_rfl) rfl
    (fun f fn hf hfn => by
      obtain rfl : f = 5 := Option.some.inj ((show Tryz.prog.funcNamed "palaver/palaverlaw20.CodeUnpacks" = some 5 by kernel_rfl).symm.trans hf) |>.symm
      obtain rfl : fn = Tryz.f5 := (Option.some.inj (Tryz.func5.symm.trans hfn)).symm
      exact ⟨by kernel_rfl, fun j t ht => by
        rw [Tryz.params5] at ht
        have hm : t ∈ [9, 22, 9] := by have := Array.mem_of_getElem? ht; simpa using this
        have hall : ([9, 22, 9].all fun u => !Tryz.prog.wantsStandIn u) = true := by kernel_rfl
        exact (show Tryz.prog.wantsStandIn t = false by simpa using List.all_eq_true.1 hall t hm)⟩)
    (by kernel_rfl)
#print axioms proved
end Go.Proofs.YtoklnpoacckbfaaGreatDoor.codeUnpacks
