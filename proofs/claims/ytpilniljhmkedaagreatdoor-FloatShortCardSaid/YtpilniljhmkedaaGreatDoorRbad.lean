/- The card of FloatShort: the row, tied. -/
import Derived.Test.YtpilniljhmkedaaGreatDoorRbac
namespace Go.Proofs.YtpilniljhmkedaaGreatDoor.floatShort
theorem proved : Rows.FloatShortCardSaid :=
  Claim7.holds_tied_plain_at .later [] [.data, .data, .widerDeep, .widerDeep, .data, .data, .data, .data, .data, .data, .sentinel, .sentinel, .pinned, .pinned, .pinned] true (true, "d83f8a6af0b388f58d8cfabbd9997fcce3b6d4901cdcb4831f795905565ecc13") true
    over (fun _ h => by cases h) (by kernel_rfl) (fun _ h => by cases h) floatShort_row_tie rfl ⟨rfl, rfl⟩ (by kernel_rfl) rfl
    (fun f fn hf hfn => by
      obtain rfl : f = 4 := Option.some.inj ((show Tryz.prog.funcNamed "palaver/palaverlaw10.FloatShort" = some 4 by kernel_rfl).symm.trans hf) |>.symm
      obtain rfl : fn = Tryz.f4 := (Option.some.inj (Tryz.func4.symm.trans hfn)).symm
      exact ⟨by kernel_rfl, fun j t ht => by
        rw [Tryz.params4] at ht
        have hm : t ∈ [9] := by have := Array.mem_of_getElem? ht; simpa using this
        have hall : ([9].all fun u => !Tryz.prog.wantsStandIn u) = true := by kernel_rfl
        exact (show Tryz.prog.wantsStandIn t = false by simpa using List.all_eq_true.1 hall t hm)⟩)
    (by kernel_rfl)
#print axioms proved
end Go.Proofs.YtpilniljhmkedaaGreatDoor.floatShort
