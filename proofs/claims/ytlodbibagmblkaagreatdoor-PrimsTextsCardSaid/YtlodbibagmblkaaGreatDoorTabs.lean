/- The card of PrimsTexts: the row, tied. -/
import Derived.Test.YtlodbibagmblkaaGreatDoorTabr
namespace Go.Proofs.YtlodbibagmblkaaGreatDoor.primsTexts
theorem proved : Rows.PrimsTextsCardSaid :=
  Claim7.holds_tied_plain_at .later [] [.data, .data, .widerDeep, .widerDeep, .data, .data, .data, .data, .data, .data, .sentinel, .sentinel, .pinned, .pinned, .pinned] true (true, "11cb25e580069393357527f056ead74f6c1cd538d29f7063b69746d7c5d0d336") true
    over (fun _ h => by cases h) (by kernel_rfl) (fun _ h => by cases h) primsTexts_row_tie rfl ⟨rfl, rfl⟩ (by kernel_rfl) rfl
    (fun f fn hf hfn => by
      obtain rfl : f = 4 := Option.some.inj ((show Tryz.prog.funcNamed "palaver/palaverlaw21.PrimsTexts" = some 4 by kernel_rfl).symm.trans hf) |>.symm
      obtain rfl : fn = Tryz.f4 := (Option.some.inj (Tryz.func4.symm.trans hfn)).symm
      exact ⟨by kernel_rfl, fun j t ht => by
        rw [Tryz.params4] at ht
        have hm : t ∈ [26, 23] := by have := Array.mem_of_getElem? ht; simpa using this
        have hall : ([26, 23].all fun u => !Tryz.prog.wantsStandIn u) = true := by kernel_rfl
        exact (show Tryz.prog.wantsStandIn t = false by simpa using List.all_eq_true.1 hall t hm)⟩)
    (by kernel_rfl)
#print axioms proved
end Go.Proofs.YtlodbibagmblkaaGreatDoor.primsTexts
