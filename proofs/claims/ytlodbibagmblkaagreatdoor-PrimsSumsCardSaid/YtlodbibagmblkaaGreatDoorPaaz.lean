/- The card of PrimsSums: the row, tied. -/
import Derived.Test.YtlodbibagmblkaaGreatDoorPaay
namespace Go.Proofs.YtlodbibagmblkaaGreatDoor.primsSums
theorem proved : Rows.PrimsSumsCardSaid :=
  Claim7.holds_tied_plain_at .later [] [.data, .data, .widerDeep, .widerDeep, .data, .data, .data, .data, .data, .data, .sentinel, .sentinel, .pinned, .pinned, .pinned] true (true, "11cb25e580069393357527f056ead74f6c1cd538d29f7063b69746d7c5d0d336") true
    over (fun _ h => by cases h) (by kernel_rfl) (fun _ h => by cases h) primsSums_row_tie rfl ⟨rfl, rfl⟩ (by kernel_rfl) rfl
    (fun f fn hf hfn => by
      obtain rfl : f = 3 := Option.some.inj ((show Tryz.prog.funcNamed "palaver/palaverlaw21.PrimsSums" = some 3 by kernel_rfl).symm.trans hf) |>.symm
      obtain rfl : fn = Tryz.f3 := (Option.some.inj (Tryz.func3.symm.trans hfn)).symm
      exact ⟨by kernel_rfl, fun j t ht => by
        rw [Tryz.params3] at ht
        have hm : t ∈ [26] := by have := Array.mem_of_getElem? ht; simpa using this
        have hall : ([26].all fun u => !Tryz.prog.wantsStandIn u) = true := by kernel_rfl
        exact (show Tryz.prog.wantsStandIn t = false by simpa using List.all_eq_true.1 hall t hm)⟩)
    (by kernel_rfl)
#print axioms proved
end Go.Proofs.YtlodbibagmblkaaGreatDoor.primsSums
