/-
  DERIVED. GIVEN WITH THE SEED: THE CARDS: each row of YtlodbibagmblkaaGreatDoorRows.lean that lists a variable, with what it lists TIED to the program's text (the seventh form; the later family's looks); each row that meets fmt, with fmt's text TOLD by the authors' own Lean function (tested against real Go, not proved from fmt's source: count such statements apart). THE CARD IS WHAT COUNTS. Prove the row's statement (the work); the ties are given (YtlodbibagmblkaaGreatDoorTie.lean); close each card by the builder's one call (the guide's Derived/Test/ToyasCard.lean, 'card_holds'). Laid BY PROGRAM, IN A SANDBOX (cutbox-door.mjs). By AI agents, Wed Nov 11 2026. No macro, syntax, notation, axiom, sorry.
-/
import Derived.Test.YtlodbibagmblkaaGreatDoorRows
import GoSem.ClaimSeven
namespace Go.Proofs.YtlodbibagmblkaaGreatDoor
namespace Rows

/-- THE TIED CARD OF 'palaverlaw21.PrimsSums'. -/
def primsSumsCard : Claim7 := { stood := { row := primsSumsRow, standIns := [], harness := (true, "11cb25e580069393357527f056ead74f6c1cd538d29f7063b69746d7c5d0d336"), looks := true }, kinds := [], alts := [], laidByText := true, laidKinds := [.data, .data, .widerDeep, .widerDeep, .data, .data, .data, .data, .data, .data, .sentinel, .sentinel, .pinned, .pinned, .pinned], laidTests := true, laidLooks := .later }
def PrimsSumsCardSaid : Prop := Claim7.holds Tryz.pinned (.plain (OpenSpec.ofChange primsSumsSpec)) primsSumsCard

/-- THE TIED CARD OF 'palaverlaw21.PrimsTexts'. -/
def primsTextsCard : Claim7 := { stood := { row := primsTextsRow, standIns := [], harness := (true, "11cb25e580069393357527f056ead74f6c1cd538d29f7063b69746d7c5d0d336"), looks := true }, kinds := [], alts := [], laidByText := true, laidKinds := [.data, .data, .widerDeep, .widerDeep, .data, .data, .data, .data, .data, .data, .sentinel, .sentinel, .pinned, .pinned, .pinned], laidTests := true, laidLooks := .later }
def PrimsTextsCardSaid : Prop := Claim7.holds Tryz.pinned (.plain (OpenSpec.ofChange primsTextsSpec)) primsTextsCard

/-- THE TIED CARD OF 'palaverlaw21.PrimsValues'. -/
def primsValuesCard : Claim7 := { stood := { row := primsValuesRow, standIns := [], harness := (true, "11cb25e580069393357527f056ead74f6c1cd538d29f7063b69746d7c5d0d336"), looks := true }, kinds := [], alts := [], laidByText := true, laidKinds := [.data, .data, .widerDeep, .widerDeep, .data, .data, .data, .data, .data, .data, .sentinel, .sentinel, .pinned, .pinned, .pinned], laidTests := true, laidLooks := .later }
def PrimsValuesCardSaid : Prop := Claim7.holds Tryz.pinned (.plain (OpenSpec.ofChange primsValuesSpec)) primsValuesCard

/-- THE SECOND FORM's CARD OF 'palaverlaw21.PrimsSums'. -/
def primsSumsUptoCard : Claim7 := { stood := { row := primsSumsUptoRow, standIns := [], harness := (true, "11cb25e580069393357527f056ead74f6c1cd538d29f7063b69746d7c5d0d336"), looks := true }, kinds := [], alts := [], laidByText := true, laidKinds := [.data, .data, .widerDeep, .widerDeep, .data, .data, .data, .data, .data, .data, .sentinel, .sentinel, .pinned, .pinned, .pinned], laidTests := true, laidLooks := .later }
def PrimsSumsUptoCardSaid : Prop := Claim7.holds Tryz.pinned (.plain (OpenSpec.upto primsSumsSpec)) primsSumsUptoCard

/-- THE SECOND FORM's CARD OF 'palaverlaw21.PrimsTexts'. -/
def primsTextsUptoCard : Claim7 := { stood := { row := primsTextsUptoRow, standIns := [], harness := (true, "11cb25e580069393357527f056ead74f6c1cd538d29f7063b69746d7c5d0d336"), looks := true }, kinds := [], alts := [], laidByText := true, laidKinds := [.data, .data, .widerDeep, .widerDeep, .data, .data, .data, .data, .data, .data, .sentinel, .sentinel, .pinned, .pinned, .pinned], laidTests := true, laidLooks := .later }
def PrimsTextsUptoCardSaid : Prop := Claim7.holds Tryz.pinned (.plain (OpenSpec.upto primsTextsSpec)) primsTextsUptoCard

/-- THE SECOND FORM's CARD OF 'palaverlaw21.PrimsValues'. -/
def primsValuesUptoCard : Claim7 := { stood := { row := primsValuesUptoRow, standIns := [], harness := (true, "11cb25e580069393357527f056ead74f6c1cd538d29f7063b69746d7c5d0d336"), looks := true }, kinds := [], alts := [], laidByText := true, laidKinds := [.data, .data, .widerDeep, .widerDeep, .data, .data, .data, .data, .data, .data, .sentinel, .sentinel, .pinned, .pinned, .pinned], laidTests := true, laidLooks := .later }
def PrimsValuesUptoCardSaid : Prop := Claim7.holds Tryz.pinned (.plain (OpenSpec.upto primsValuesSpec)) primsValuesUptoCard
end Rows
end Go.Proofs.YtlodbibagmblkaaGreatDoor
