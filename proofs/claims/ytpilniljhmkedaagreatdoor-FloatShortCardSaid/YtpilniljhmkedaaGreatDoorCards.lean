/-
  DERIVED. GIVEN WITH THE SEED: THE CARDS: each row of YtpilniljhmkedaaGreatDoorRows.lean that lists a variable, with what it lists TIED to the program's text (the seventh form; the later family's looks); each row that meets fmt, with fmt's text TOLD by the authors' own Lean function (tested against real Go, not proved from fmt's source: count such statements apart). THE CARD IS WHAT COUNTS. Prove the row's statement (the work); the ties are given (YtpilniljhmkedaaGreatDoorTie.lean); close each card by the builder's one call (the guide's Derived/Test/ToyasCard.lean, 'card_holds'). Laid BY PROGRAM, IN A SANDBOX (cutbox-door.mjs). By AI agents, Wed Nov 11 2026. No macro, syntax, notation, axiom, sorry.
-/
import Derived.Test.YtpilniljhmkedaaGreatDoorRows
import GoSem.ClaimSeven
namespace Go.Proofs.YtpilniljhmkedaaGreatDoor
namespace Rows

/-- THE TIED CARD OF 'palaverlaw10.FloatRead'. -/
def floatReadCard : Claim7 := { stood := { row := floatReadRow, standIns := [], harness := (true, "d83f8a6af0b388f58d8cfabbd9997fcce3b6d4901cdcb4831f795905565ecc13"), looks := true }, kinds := [], alts := [], laidByText := true, laidKinds := [.data, .data, .widerDeep, .widerDeep, .data, .data, .data, .data, .data, .data, .sentinel, .sentinel, .pinned, .pinned, .pinned], laidTests := true, laidLooks := .later }
def FloatReadCardSaid : Prop := Claim7.holds Tryz.pinned (.plain (OpenSpec.ofChange floatReadSpec)) floatReadCard

/-- THE TIED CARD OF 'palaverlaw10.FloatShort'. -/
def floatShortCard : Claim7 := { stood := { row := floatShortRow, standIns := [], harness := (true, "d83f8a6af0b388f58d8cfabbd9997fcce3b6d4901cdcb4831f795905565ecc13"), looks := true }, kinds := [], alts := [], laidByText := true, laidKinds := [.data, .data, .widerDeep, .widerDeep, .data, .data, .data, .data, .data, .data, .sentinel, .sentinel, .pinned, .pinned, .pinned], laidTests := true, laidLooks := .later }
def FloatShortCardSaid : Prop := Claim7.holds Tryz.pinned (.plain (OpenSpec.ofChange floatShortSpec)) floatShortCard

/-- THE SECOND FORM's CARD OF 'palaverlaw10.FloatRead'. -/
def floatReadUptoCard : Claim7 := { stood := { row := floatReadUptoRow, standIns := [], harness := (true, "d83f8a6af0b388f58d8cfabbd9997fcce3b6d4901cdcb4831f795905565ecc13"), looks := true }, kinds := [], alts := [], laidByText := true, laidKinds := [.data, .data, .widerDeep, .widerDeep, .data, .data, .data, .data, .data, .data, .sentinel, .sentinel, .pinned, .pinned, .pinned], laidTests := true, laidLooks := .later }
def FloatReadUptoCardSaid : Prop := Claim7.holds Tryz.pinned (.plain (OpenSpec.upto floatReadSpec)) floatReadUptoCard

/-- THE SECOND FORM's CARD OF 'palaverlaw10.FloatShort'. -/
def floatShortUptoCard : Claim7 := { stood := { row := floatShortUptoRow, standIns := [], harness := (true, "d83f8a6af0b388f58d8cfabbd9997fcce3b6d4901cdcb4831f795905565ecc13"), looks := true }, kinds := [], alts := [], laidByText := true, laidKinds := [.data, .data, .widerDeep, .widerDeep, .data, .data, .data, .data, .data, .data, .sentinel, .sentinel, .pinned, .pinned, .pinned], laidTests := true, laidLooks := .later }
def FloatShortUptoCardSaid : Prop := Claim7.holds Tryz.pinned (.plain (OpenSpec.upto floatShortSpec)) floatShortUptoCard
end Rows
end Go.Proofs.YtpilniljhmkedaaGreatDoor
