/-
  DERIVED. GIVEN WITH THE SEED: THE CARDS: each row of YtkhphoonnkoipaaGreatDoorRows.lean that lists a variable, with what it lists TIED to the program's text (the seventh form; the later family's looks); each row that meets fmt, with fmt's text TOLD by the authors' own Lean function (tested against real Go, not proved from fmt's source: count such statements apart). THE CARD IS WHAT COUNTS. Prove the row's statement (the work); the ties are given (YtkhphoonnkoipaaGreatDoorTie.lean); close each card by the builder's one call (the guide's Derived/Test/ToyasCard.lean, 'card_holds'). Laid BY PROGRAM, IN A SANDBOX (cutbox-door.mjs). By AI agents, Wed Nov 11 2026. No macro, syntax, notation, axiom, sorry.
-/
import Derived.Test.YtkhphoonnkoipaaGreatDoorRows
import GoSem.ClaimSeven
namespace Go.Proofs.YtkhphoonnkoipaaGreatDoor
namespace Rows

/-- THE TIED CARD OF 'palaverlaw21.PrimsValues'. -/
def primsValuesCard : Claim7 := { stood := { row := primsValuesRow, standIns := [], harness := (true, "33ae82a798a89176ee417e5365a14de7a36bbf651cdca1723efc24c45d273860"), looks := true }, kinds := [], alts := [], laidByText := true, laidKinds := [.data, .data, .widerDeep, .widerDeep, .data, .data, .data, .data, .data, .data, .sentinel, .sentinel, .pinned, .pinned, .pinned], laidTests := true, laidLooks := .later }
def PrimsValuesCardSaid : Prop := Claim7.holds Tryz.pinned (.plain (OpenSpec.ofChange primsValuesSpec)) primsValuesCard

/-- THE SECOND FORM's CARD OF 'palaverlaw21.PrimsValues'. -/
def primsValuesUptoCard : Claim7 := { stood := { row := primsValuesUptoRow, standIns := [], harness := (true, "33ae82a798a89176ee417e5365a14de7a36bbf651cdca1723efc24c45d273860"), looks := true }, kinds := [], alts := [], laidByText := true, laidKinds := [.data, .data, .widerDeep, .widerDeep, .data, .data, .data, .data, .data, .data, .sentinel, .sentinel, .pinned, .pinned, .pinned], laidTests := true, laidLooks := .later }
def PrimsValuesUptoCardSaid : Prop := Claim7.holds Tryz.pinned (.plain (OpenSpec.upto primsValuesSpec)) primsValuesUptoCard
end Rows
end Go.Proofs.YtkhphoonnkoipaaGreatDoor
