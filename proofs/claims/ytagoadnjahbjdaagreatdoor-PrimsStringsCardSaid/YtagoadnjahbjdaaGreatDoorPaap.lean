/- The card of PrimsStrings: the row, tied. -/
import Derived.Test.YtagoadnjahbjdaaGreatDoorPaao
namespace Go.Proofs.YtagoadnjahbjdaaGreatDoor.primsStrings
theorem proved : Rows.PrimsStringsCardSaid :=
  Claim7.holds_tied_plain_at .later [] [.data, .data, .widerDeep, .widerDeep, .data, .data, .data, .data, .data, .data, .sentinel, .sentinel, .pinned, .pinned, .pinned] true (true, "7dad795058fe13eabc67a3bdd6ef6a1a55b2a3bedf55c341ceec6bf65ef164e5") true
    over (fun _ h => by cases h) (by kernel_rfl) (fun _ h => by cases h) primsStrings_row_tie rfl ⟨rfl, rfl⟩ (by kernel_rfl) rfl
    (fun f fn hf hfn => by
      obtain rfl : f = 5 := Option.some.inj ((show Tryz.prog.funcNamed "palaver/palaverlaw21.PrimsStrings" = some 5 by kernel_rfl).symm.trans hf) |>.symm
      obtain rfl : fn = Tryz.f5 := (Option.some.inj (Tryz.func5.symm.trans hfn)).symm
      exact ⟨by kernel_rfl, fun j t ht => by
        rw [Tryz.params5] at ht
        have hm : t ∈ [9, 3] := by have := Array.mem_of_getElem? ht; simpa using this
        have hall : ([9, 3].all fun u => !Tryz.prog.wantsStandIn u) = true := by kernel_rfl
        exact (show Tryz.prog.wantsStandIn t = false by simpa using List.all_eq_true.1 hall t hm)⟩)
    (by kernel_rfl)
#print axioms proved
end Go.Proofs.YtagoadnjahbjdaaGreatDoor.primsStrings
