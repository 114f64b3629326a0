/- The card of CodeForm: the row, tied. -/
import Derived.Test.YtoklnpoacckbfaaGreatDoorKfab
namespace Go.Proofs.YtoklnpoacckbfaaGreatDoor.codeForm
theorem proved : Rows.CodeFormCardSaid :=
  Claim7.holds_tied_plain_at .later [] [.data, .data, .data, .data, .data, .sentinel, .sentinel, .pinned, .pinned, .pinned] true (true, "adbd7c0127a55590bc89d01b64bfcc3eb83a575ac943a1dd2fdaeb1bc60e2635") true
    over (fun _ h => by cases h) (by kernel_rfl) (fun _ h => by cases h) codeForm_row_tie rfl ⟨rfl, rfl⟩ (by kernel_rfl) rfl
    (fun f fn hf hfn => by
      obtain rfl : f = 7 := Option.some.inj ((show Tryz.prog.funcNamed "palaver/palaverlaw20.CodeForm" = some 7 by kernel_rfl).symm.trans hf) |>.symm
      obtain rfl : fn = Tryz.f7 := (Option.some.inj (Tryz.func7.symm.trans hfn)).symm
      exact ⟨by kernel_rfl, fun j t ht => by
        rw [Tryz.params7] at ht
        have hm : t ∈ [9, 22, 9] := by have := Array.mem_of_getElem? ht; simpa using this
        have hall : ([9, 22, 9].all fun u => !Tryz.prog.wantsStandIn u) = true := by kernel_rfl
        exact (show Tryz.prog.wantsStandIn t = false by simpa using List.all_eq_true.1 hall t hm)⟩)
    (by kernel_rfl)
#print axioms proved
end Go.Proofs.YtoklnpoacckbfaaGreatDoor.codeForm
