/-
  DERIVED. GIVEN WITH THE SEED: THE CARDS: each row of YtagoadnjahbjdaaGreatDoorRows.lean that lists a variable, with what it lists TIED to the program's text (the seventh form; the later family's looks); each row that meets fmt, with fmt's text TOLD by the authors' own Lean function (tested against real Go, not proved from fmt's source: count such statements apart). THE CARD IS WHAT COUNTS. Prove the row's statement (the work); the ties are given (YtagoadnjahbjdaaGreatDoorTie.lean); close each card by the builder's one call (the guide's Derived/Test/ToyasCard.lean, 'card_holds'). Laid BY PROGRAM, IN A SANDBOX (cutbox-door.mjs). By AI agents, Wed Nov 11 2026. No macro, syntax, notation, axiom, sorry.
-/
import Derived.Test.YtagoadnjahbjdaaGreatDoorRows
import GoSem.ClaimSeven
namespace Go.Proofs.YtagoadnjahbjdaaGreatDoor
namespace Rows

/-- THE TIED CARD OF 'palaverlaw21.PrimsSums'. -/
def primsSumsCard : Claim7 := { stood := { row := primsSumsRow, standIns := [], harness := (true, "7dad795058fe13eabc67a3bdd6ef6a1a55b2a3bedf55c341ceec6bf65ef164e5"), looks := true }, kinds := [], alts := [], laidByText := true, laidKinds := [.data, .data, .widerDeep, .widerDeep, .data, .data, .data, .data, .data, .data, .sentinel, .sentinel, .pinned, .pinned, .pinned], laidTests := true, laidLooks := .later }
def PrimsSumsCardSaid : Prop := Claim7.holds Tryz.pinned (.plain (OpenSpec.ofChange primsSumsSpec)) primsSumsCard

/-- THE TIED CARD OF 'palaverlaw21.PrimsOrder'. -/
def primsOrderCard : Claim7 := { stood := { row := primsOrderRow, standIns := [], harness := (true, "7dad795058fe13eabc67a3bdd6ef6a1a55b2a3bedf55c341ceec6bf65ef164e5"), looks := true }, kinds := [], alts := [], laidByText := true, laidKinds := [.data, .data, .widerDeep, .widerDeep, .data, .data, .data, .data, .data, .data, .sentinel, .sentinel, .pinned, .pinned, .pinned], laidTests := true, laidLooks := .later }
def PrimsOrderCardSaid : Prop := Claim7.holds Tryz.pinned (.plain (OpenSpec.ofChange primsOrderSpec)) primsOrderCard

/-- THE TIED CARD OF 'palaverlaw21.PrimsStrings'. -/
def primsStringsCard : Claim7 := { stood := { row := primsStringsRow, standIns := [], harness := (true, "7dad795058fe13eabc67a3bdd6ef6a1a55b2a3bedf55c341ceec6bf65ef164e5"), looks := true }, kinds := [], alts := [], laidByText := true, laidKinds := [.data, .data, .widerDeep, .widerDeep, .data, .data, .data, .data, .data, .data, .sentinel, .sentinel, .pinned, .pinned, .pinned], laidTests := true, laidLooks := .later }
def PrimsStringsCardSaid : Prop := Claim7.holds Tryz.pinned (.plain (OpenSpec.ofChange primsStringsSpec)) primsStringsCard

/-- THE SECOND FORM's CARD OF 'palaverlaw21.PrimsSums'. -/
def primsSumsUptoCard : Claim7 := { stood := { row := primsSumsUptoRow, standIns := [], harness := (true, "7dad795058fe13eabc67a3bdd6ef6a1a55b2a3bedf55c341ceec6bf65ef164e5"), looks := true }, kinds := [], alts := [], laidByText := true, laidKinds := [.data, .data, .widerDeep, .widerDeep, .data, .data, .data, .data, .data, .data, .sentinel, .sentinel, .pinned, .pinned, .pinned], laidTests := true, laidLooks := .later }
def PrimsSumsUptoCardSaid : Prop := Claim7.holds Tryz.pinned (.plain (OpenSpec.upto primsSumsSpec)) primsSumsUptoCard

/-- THE SECOND FORM's CARD OF 'palaverlaw21.PrimsOrder'. -/
def primsOrderUptoCard : Claim7 := { stood := { row := primsOrderUptoRow, standIns := [], harness := (true, "7dad795058fe13eabc67a3bdd6ef6a1a55b2a3bedf55c341ceec6bf65ef164e5"), looks := true }, kinds := [], alts := [], laidByText := true, laidKinds := [.data, .data, .widerDeep, .widerDeep, .data, .data, .data, .data, .data, .data, .sentinel, .sentinel, .pinned, .pinned, .pinned], laidTests := true, laidLooks := .later }
def PrimsOrderUptoCardSaid : Prop := Claim7.holds Tryz.pinned (.plain (OpenSpec.upto primsOrderSpec)) primsOrderUptoCard

/-- THE SECOND FORM's CARD OF 'palaverlaw21.PrimsStrings'. -/
def primsStringsUptoCard : Claim7 := { stood := { row := primsStringsUptoRow, standIns := [], harness := (true, "7dad795058fe13eabc67a3bdd6ef6a1a55b2a3bedf55c341ceec6bf65ef164e5"), looks := true }, kinds := [], alts := [], laidByText := true, laidKinds := [.data, .data, .widerDeep, .widerDeep, .data, .data, .data, .data, .data, .data, .sentinel, .sentinel, .pinned, .pinned, .pinned], laidTests := true, laidLooks := .later }
def PrimsStringsUptoCardSaid : Prop := Claim7.holds Tryz.pinned (.plain (OpenSpec.upto primsStringsSpec)) primsStringsUptoCard
end Rows
end Go.Proofs.YtagoadnjahbjdaaGreatDoor
