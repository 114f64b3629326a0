/- The card of FloatWholes: the row, tied. -/
import Derived.Test.YtgdohmaljbggjaaGreatDoorWbac
namespace Go.Proofs.YtgdohmaljbggjaaGreatDoor.floatWholes
theorem proved : Rows.FloatWholesCardSaid :=
  Claim7.holds_tied_plain_at .later [] [.data, .data, .widerDeep, .widerDeep, .data, .data, .data, .data, .data, .data, .sentinel, .sentinel, .pinned, .pinned, .pinned] true (true, "afb545eb7992fbb3e0e0e6b2aedd60414ea070e28869bbe1199d0551c58f6f83") true
    over (fun _ h => by cases h) (by kernel_rfl) (fun _ h => by cases h) floatWholes_row_tie rfl ⟨rfl, rfl⟩ (by kernel_rfl) rfl
    (fun f fn hf hfn => by
      obtain rfl : f = 7 := Option.some.inj ((show Tryz.prog.funcNamed "palaver/palaverlaw10.FloatWholes" = some 7 by kernel_rfl).symm.trans hf) |>.symm
      obtain rfl : fn = Tryz.f7 := (Option.some.inj (Tryz.func7.symm.trans hfn)).symm
      exact ⟨by kernel_rfl, fun j t ht => by
        rw [Tryz.params7] at ht
        have hm : t ∈ [22, 2, 42, 3] := by have := Array.mem_of_getElem? ht; simpa using this
        have hall : ([22, 2, 42, 3].all fun u => !Tryz.prog.wantsStandIn u) = true := by kernel_rfl
        exact (show Tryz.prog.wantsStandIn t = false by simpa using List.all_eq_true.1 hall t hm)⟩)
    (by kernel_rfl)
#print axioms proved
end Go.Proofs.YtgdohmaljbggjaaGreatDoor.floatWholes
