/-
  DERIVED. GIVEN WITH THE SEED: THE CARDS: each row of YtgdohmaljbggjaaGreatDoorRows.lean that lists a variable, with what it lists TIED to the program's text (the seventh form; the later family's looks); each row that meets fmt, with fmt's text TOLD by the authors' own Lean function (tested against real Go, not proved from fmt's source: count such statements apart). THE CARD IS WHAT COUNTS. Prove the row's statement (the work); the ties are given (YtgdohmaljbggjaaGreatDoorTie.lean); close each card by the builder's one call (the guide's Derived/Test/ToyasCard.lean, 'card_holds'). Laid BY PROGRAM, IN A SANDBOX (cutbox-door.mjs). By AI agents, Wed Nov 11 2026. No macro, syntax, notation, axiom, sorry.
-/
import Derived.Test.YtgdohmaljbggjaaGreatDoorRows
import GoSem.ClaimSeven
namespace Go.Proofs.YtgdohmaljbggjaaGreatDoor
namespace Rows

/-- THE TIED CARD OF 'palaverlaw10.FloatRead'. -/
def floatReadCard : Claim7 := { stood := { row := floatReadRow, standIns := [], harness := (true, "afb545eb7992fbb3e0e0e6b2aedd60414ea070e28869bbe1199d0551c58f6f83"), looks := true }, kinds := [], alts := [], laidByText := true, laidKinds := [.data, .data, .widerDeep, .widerDeep, .data, .data, .data, .data, .data, .data, .sentinel, .sentinel, .pinned, .pinned, .pinned], laidTests := true, laidLooks := .later }
def FloatReadCardSaid : Prop := Claim7.holds Tryz.pinned (.plain (OpenSpec.ofChange floatReadSpec)) floatReadCard

/-- THE TIED CARD OF 'palaverlaw10.FloatShort'. -/
def floatShortCard : Claim7 := { stood := { row := floatShortRow, standIns := [], harness := (true, "afb545eb7992fbb3e0e0e6b2aedd60414ea070e28869bbe1199d0551c58f6f83"), looks := true }, kinds := [], alts := [], laidByText := true, laidKinds := [.data, .data, .widerDeep, .widerDeep, .data, .data, .data, .data, .data, .data, .sentinel, .sentinel, .pinned, .pinned, .pinned], laidTests := true, laidLooks := .later }
def FloatShortCardSaid : Prop := Claim7.holds Tryz.pinned (.plain (OpenSpec.ofChange floatShortSpec)) floatShortCard

/-- THE TIED CARD OF 'palaverlaw10.FloatScale'. -/
def floatScaleCard : Claim7 := { stood := { row := floatScaleRow, standIns := [], harness := (true, "afb545eb7992fbb3e0e0e6b2aedd60414ea070e28869bbe1199d0551c58f6f83"), looks := true }, kinds := [], alts := [], laidByText := true, laidKinds := [.data, .data, .widerDeep, .widerDeep, .data, .data, .data, .data, .data, .data, .sentinel, .sentinel, .pinned, .pinned, .pinned], laidTests := true, laidLooks := .later }
def FloatScaleCardSaid : Prop := Claim7.holds Tryz.pinned (.plain (OpenSpec.ofChange floatScaleSpec)) floatScaleCard

/-- THE TIED CARD OF 'palaverlaw10.FloatOrder'. -/
def floatOrderCard : Claim7 := { stood := { row := floatOrderRow, standIns := [], harness := (true, "afb545eb7992fbb3e0e0e6b2aedd60414ea070e28869bbe1199d0551c58f6f83"), looks := true }, kinds := [], alts := [], laidByText := true, laidKinds := [.data, .data, .widerDeep, .widerDeep, .data, .data, .data, .data, .data, .data, .sentinel, .sentinel, .pinned, .pinned, .pinned], laidTests := true, laidLooks := .later }
def FloatOrderCardSaid : Prop := Claim7.holds Tryz.pinned (.plain (OpenSpec.ofChange floatOrderSpec)) floatOrderCard

/-- THE TIED CARD OF 'palaverlaw10.FloatWholes'. -/
def floatWholesCard : Claim7 := { stood := { row := floatWholesRow, standIns := [], harness := (true, "afb545eb7992fbb3e0e0e6b2aedd60414ea070e28869bbe1199d0551c58f6f83"), looks := true }, kinds := [], alts := [], laidByText := true, laidKinds := [.data, .data, .widerDeep, .widerDeep, .data, .data, .data, .data, .data, .data, .sentinel, .sentinel, .pinned, .pinned, .pinned], laidTests := true, laidLooks := .later }
def FloatWholesCardSaid : Prop := Claim7.holds Tryz.pinned (.plain (OpenSpec.ofChange floatWholesSpec)) floatWholesCard

/-- THE TIED CARD OF 'palaverlaw10.FloatExact'. -/
def floatExactCard : Claim7 := { stood := { row := floatExactRow, standIns := [], harness := (true, "afb545eb7992fbb3e0e0e6b2aedd60414ea070e28869bbe1199d0551c58f6f83"), looks := true }, kinds := [], alts := [], laidByText := true, laidKinds := [.data, .data, .widerDeep, .widerDeep, .data, .data, .data, .data, .data, .data, .sentinel, .sentinel, .pinned, .pinned, .pinned], laidTests := true, laidLooks := .later }
def FloatExactCardSaid : Prop := Claim7.holds Tryz.pinned (.plain (OpenSpec.ofChange floatExactSpec)) floatExactCard

/-- THE TIED CARD OF 'palaverlaw10.FloatParts'. -/
def floatPartsCard : Claim7 := { stood := { row := floatPartsRow, standIns := [], harness := (true, "afb545eb7992fbb3e0e0e6b2aedd60414ea070e28869bbe1199d0551c58f6f83"), looks := true }, kinds := [], alts := [], laidByText := true, laidKinds := [.data, .data, .widerDeep, .widerDeep, .data, .data, .data, .data, .data, .data, .sentinel, .sentinel, .pinned, .pinned, .pinned], laidTests := true, laidLooks := .later }
def FloatPartsCardSaid : Prop := Claim7.holds Tryz.pinned (.plain (OpenSpec.ofChange floatPartsSpec)) floatPartsCard

/-- THE TIED CARD OF 'palaverlaw10.FloatSums'. -/
def floatSumsCard : Claim7 := { stood := { row := floatSumsRow, standIns := [], harness := (true, "afb545eb7992fbb3e0e0e6b2aedd60414ea070e28869bbe1199d0551c58f6f83"), looks := true }, kinds := [], alts := [], laidByText := true, laidKinds := [.data, .data, .widerDeep, .widerDeep, .data, .data, .data, .data, .data, .data, .sentinel, .sentinel, .pinned, .pinned, .pinned], laidTests := true, laidLooks := .later }
def FloatSumsCardSaid : Prop := Claim7.holds Tryz.pinned (.plain (OpenSpec.ofChange floatSumsSpec)) floatSumsCard

/-- THE SECOND FORM's CARD OF 'palaverlaw10.FloatRead'. -/
def floatReadUptoCard : Claim7 := { stood := { row := floatReadUptoRow, standIns := [], harness := (true, "afb545eb7992fbb3e0e0e6b2aedd60414ea070e28869bbe1199d0551c58f6f83"), looks := true }, kinds := [], alts := [], laidByText := true, laidKinds := [.data, .data, .widerDeep, .widerDeep, .data, .data, .data, .data, .data, .data, .sentinel, .sentinel, .pinned, .pinned, .pinned], laidTests := true, laidLooks := .later }
def FloatReadUptoCardSaid : Prop := Claim7.holds Tryz.pinned (.plain (OpenSpec.upto floatReadSpec)) floatReadUptoCard

/-- THE SECOND FORM's CARD OF 'palaverlaw10.FloatShort'. -/
def floatShortUptoCard : Claim7 := { stood := { row := floatShortUptoRow, standIns := [], harness := (true, "afb545eb7992fbb3e0e0e6b2aedd60414ea070e28869bbe1199d0551c58f6f83"), looks := true }, kinds := [], alts := [], laidByText := true, laidKinds := [.data, .data, .widerDeep, .widerDeep, .data, .data, .data, .data, .data, .data, .sentinel, .sentinel, .pinned, .pinned, .pinned], laidTests := true, laidLooks := .later }
def FloatShortUptoCardSaid : Prop := Claim7.holds Tryz.pinned (.plain (OpenSpec.upto floatShortSpec)) floatShortUptoCard

/-- THE SECOND FORM's CARD OF 'palaverlaw10.FloatScale'. -/
def floatScaleUptoCard : Claim7 := { stood := { row := floatScaleUptoRow, standIns := [], harness := (true, "afb545eb7992fbb3e0e0e6b2aedd60414ea070e28869bbe1199d0551c58f6f83"), looks := true }, kinds := [], alts := [], laidByText := true, laidKinds := [.data, .data, .widerDeep, .widerDeep, .data, .data, .data, .data, .data, .data, .sentinel, .sentinel, .pinned, .pinned, .pinned], laidTests := true, laidLooks := .later }
def FloatScaleUptoCardSaid : Prop := Claim7.holds Tryz.pinned (.plain (OpenSpec.upto floatScaleSpec)) floatScaleUptoCard

/-- THE SECOND FORM's CARD OF 'palaverlaw10.FloatOrder'. -/
def floatOrderUptoCard : Claim7 := { stood := { row := floatOrderUptoRow, standIns := [], harness := (true, "afb545eb7992fbb3e0e0e6b2aedd60414ea070e28869bbe1199d0551c58f6f83"), looks := true }, kinds := [], alts := [], laidByText := true, laidKinds := [.data, .data, .widerDeep, .widerDeep, .data, .data, .data, .data, .data, .data, .sentinel, .sentinel, .pinned, .pinned, .pinned], laidTests := true, laidLooks := .later }
def FloatOrderUptoCardSaid : Prop := Claim7.holds Tryz.pinned (.plain (OpenSpec.upto floatOrderSpec)) floatOrderUptoCard

/-- THE SECOND FORM's CARD OF 'palaverlaw10.FloatWholes'. -/
def floatWholesUptoCard : Claim7 := { stood := { row := floatWholesUptoRow, standIns := [], harness := (true, "afb545eb7992fbb3e0e0e6b2aedd60414ea070e28869bbe1199d0551c58f6f83"), looks := true }, kinds := [], alts := [], laidByText := true, laidKinds := [.data, .data, .widerDeep, .widerDeep, .data, .data, .data, .data, .data, .data, .sentinel, .sentinel, .pinned, .pinned, .pinned], laidTests := true, laidLooks := .later }
def FloatWholesUptoCardSaid : Prop := Claim7.holds Tryz.pinned (.plain (OpenSpec.upto floatWholesSpec)) floatWholesUptoCard

/-- THE SECOND FORM's CARD OF 'palaverlaw10.FloatExact'. -/
def floatExactUptoCard : Claim7 := { stood := { row := floatExactUptoRow, standIns := [], harness := (true, "afb545eb7992fbb3e0e0e6b2aedd60414ea070e28869bbe1199d0551c58f6f83"), looks := true }, kinds := [], alts := [], laidByText := true, laidKinds := [.data, .data, .widerDeep, .widerDeep, .data, .data, .data, .data, .data, .data, .sentinel, .sentinel, .pinned, .pinned, .pinned], laidTests := true, laidLooks := .later }
def FloatExactUptoCardSaid : Prop := Claim7.holds Tryz.pinned (.plain (OpenSpec.upto floatExactSpec)) floatExactUptoCard

/-- THE SECOND FORM's CARD OF 'palaverlaw10.FloatParts'. -/
def floatPartsUptoCard : Claim7 := { stood := { row := floatPartsUptoRow, standIns := [], harness := (true, "afb545eb7992fbb3e0e0e6b2aedd60414ea070e28869bbe1199d0551c58f6f83"), looks := true }, kinds := [], alts := [], laidByText := true, laidKinds := [.data, .data, .widerDeep, .widerDeep, .data, .data, .data, .data, .data, .data, .sentinel, .sentinel, .pinned, .pinned, .pinned], laidTests := true, laidLooks := .later }
def FloatPartsUptoCardSaid : Prop := Claim7.holds Tryz.pinned (.plain (OpenSpec.upto floatPartsSpec)) floatPartsUptoCard

/-- THE SECOND FORM's CARD OF 'palaverlaw10.FloatSums'. -/
def floatSumsUptoCard : Claim7 := { stood := { row := floatSumsUptoRow, standIns := [], harness := (true, "afb545eb7992fbb3e0e0e6b2aedd60414ea070e28869bbe1199d0551c58f6f83"), looks := true }, kinds := [], alts := [], laidByText := true, laidKinds := [.data, .data, .widerDeep, .widerDeep, .data, .data, .data, .data, .data, .data, .sentinel, .sentinel, .pinned, .pinned, .pinned], laidTests := true, laidLooks := .later }
def FloatSumsUptoCardSaid : Prop := Claim7.holds Tryz.pinned (.plain (OpenSpec.upto floatSumsSpec)) floatSumsUptoCard
end Rows
end Go.Proofs.YtgdohmaljbggjaaGreatDoor
