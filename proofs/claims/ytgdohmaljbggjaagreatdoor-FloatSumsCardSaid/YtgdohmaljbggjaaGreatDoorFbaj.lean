/- The card of FloatSums: the row, tied. -/
import Derived.Test.YtgdohmaljbggjaaGreatDoorFbai
namespace Go.Proofs.YtgdohmaljbggjaaGreatDoor.floatSums
theorem proved : Rows.FloatSumsCardSaid :=
  Claim7.holds_tied_plain_at .later [] [.data, .data, .widerDeep, .widerDeep, .data, .data, .data, .data, .data, .data, .sentinel, .sentinel, .pinned, .pinned, .pinned] true (true, "afb545eb7992fbb3e0e0e6b2aedd60414ea070e28869bbe1199d0551c58f6f83") true
    over (fun _ h => by cases h) (by kernel_rfl) (fun _ h => by cases h) floatSums_row_tie rfl ⟨rfl, rfl⟩ (by kernel_rfl) rfl
    (fun f fn hf hfn => by
      obtain rfl : f = 10 := Option.some.inj ((show Tryz.prog.funcNamed "palaver/palaverlaw10.FloatSums" = some 10 by kernel_rfl).symm.trans hf) |>.symm
      obtain rfl : fn = Tryz.f10 := (Option.some.inj (Tryz.func10.symm.trans hfn)).symm
      exact ⟨by kernel_rfl, fun j t ht => by
        rw [Tryz.params10] at ht
        have hm : t ∈ [22] := by have := Array.mem_of_getElem? ht; simpa using this
        have hall : ([22].all fun u => !Tryz.prog.wantsStandIn u) = true := by kernel_rfl
        exact (show Tryz.prog.wantsStandIn t = false by simpa using List.all_eq_true.1 hall t hm)⟩)
    (by kernel_rfl)
#print axioms proved
end Go.Proofs.YtgdohmaljbggjaaGreatDoor.floatSums
