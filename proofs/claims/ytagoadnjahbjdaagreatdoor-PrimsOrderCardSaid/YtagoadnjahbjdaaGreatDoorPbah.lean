/- The card of PrimsOrder: the row, tied. -/
import Derived.Test.YtagoadnjahbjdaaGreatDoorPbag
namespace Go.Proofs.YtagoadnjahbjdaaGreatDoor.primsOrder
theorem proved : Rows.PrimsOrderCardSaid :=
  Claim7.holds_tied_plain_at .later [] [.data, .data, .widerDeep, .widerDeep, .data, .data, .data, .data, .data, .data, .sentinel, .sentinel, .pinned, .pinned, .pinned] true (true, "7dad795058fe13eabc67a3bdd6ef6a1a55b2a3bedf55c341ceec6bf65ef164e5") true
    over (fun _ h => by cases h) (by kernel_rfl) (fun _ h => by cases h) primsOrder_row_tie rfl ⟨rfl, rfl⟩ (by kernel_rfl) rfl
    (fun f fn hf hfn => by
      obtain rfl : f = 4 := Option.some.inj ((show Tryz.prog.funcNamed "palaver/palaverlaw21.PrimsOrder" = some 4 by kernel_rfl).symm.trans hf) |>.symm
      obtain rfl : fn = Tryz.f4 := (Option.some.inj (Tryz.func4.symm.trans hfn)).symm
      exact ⟨by kernel_rfl, fun j t ht => by
        rw [Tryz.params4] at ht
        have hm : t ∈ [26] := by have := Array.mem_of_getElem? ht; simpa using this
        have hall : ([26].all fun u => !Tryz.prog.wantsStandIn u) = true := by kernel_rfl
        exact (show Tryz.prog.wantsStandIn t = false by simpa using List.all_eq_true.1 hall t hm)⟩)
    (by kernel_rfl)
#print axioms proved
end Go.Proofs.YtagoadnjahbjdaaGreatDoor.primsOrder
