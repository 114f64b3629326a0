/-
  DERIVED. GIVEN WITH THE SEED: THE CARDS: each row of YtoklnpoacckbfaaGreatDoorRows.lean that lists a variable, with what it lists TIED to the program's text (the seventh form; the later family's looks); each row that meets fmt, with fmt's text TOLD by the authors' own Lean function (tested against real Go, not proved from fmt's source: count such statements apart). THE CARD IS WHAT COUNTS. Prove the row's statement (the work); the ties are given (YtoklnpoacckbfaaGreatDoorTie.lean); close each card by the builder's one call (the guide's Derived/Test/ToyasCard.lean, 'card_holds'). Laid BY PROGRAM, IN A SANDBOX (cutbox-door.mjs). By AI agents, Wed Nov 11 2026. No macro, syntax, notation, axiom, sorry.
-/
import Derived.Test.YtoklnpoacckbfaaGreatDoorRows
import GoSem.ClaimSeven
namespace Go.Proofs.YtoklnpoacckbfaaGreatDoor
namespace Rows

/-- THE TIED CARD OF 'palaverlaw20.CodeChecks'. -/
def codeChecksCard : Claim7 := { stood := { row := codeChecksRow, standIns := [], harness := (true, "adbd7c0127a55590bc89d01b64bfcc3eb83a575ac943a1dd2fdaeb1bc60e2635"), looks := true }, kinds := [], alts := [], laidByText := true, laidKinds := [.data, .data, .data, .data, .data, .sentinel, .sentinel, .pinned, .pinned, .pinned], laidTests := true, laidLooks := .later }
def CodeChecksCardSaid : Prop := Claim7.holds Tryz.pinned (.plain (OpenSpec.ofChange codeChecksSpec)) codeChecksCard

/-- THE TIED CARD OF 'palaverlaw20.CodePacks'. -/
def codePacksCard : Claim7 := { stood := { row := codePacksRow, standIns := [], harness := (true, "adbd7c0127a55590bc89d01b64bfcc3eb83a575ac943a1dd2fdaeb1bc60e2635"), looks := true }, kinds := [], alts := [], laidByText := true, laidKinds := [.data, .data, .data, .data, .data, .sentinel, .sentinel, .pinned, .pinned, .pinned], laidTests := true, laidLooks := .later }
def CodePacksCardSaid : Prop := Claim7.holds Tryz.pinned (.plain (OpenSpec.ofChange codePacksSpec)) codePacksCard

/-- THE TIED CARD OF 'palaverlaw20.CodeUnpacks'. -/
def codeUnpacksCard : Claim7 := { stood := { row := codeUnpacksRow, standIns := [], harness := (true, "adbd7c0127a55590bc89d01b64bfcc3eb83a575ac943a1dd2fdaeb1bc60e2635"), looks := true }, kinds := [], alts := [], laidByText := true, laidKinds := [.data, .data, .data, .data, .data, .sentinel, .sentinel, .pinned, .pinned, .pinned], laidTests := true, laidLooks := .later }
def CodeUnpacksCardSaid : Prop := Claim7.holds Tryz.pinned (.plain (OpenSpec.ofChange codeUnpacksSpec)) codeUnpacksCard

/-- THE TIED CARD OF 'palaverlaw20.CodeBack'. -/
def codeBackCard : Claim7 := { stood := { row := codeBackRow, standIns := [], harness := (true, "adbd7c0127a55590bc89d01b64bfcc3eb83a575ac943a1dd2fdaeb1bc60e2635"), looks := true }, kinds := [], alts := [], laidByText := true, laidKinds := [.data, .data, .data, .data, .data, .sentinel, .sentinel, .pinned, .pinned, .pinned], laidTests := true, laidLooks := .later }
def CodeBackCardSaid : Prop := Claim7.holds Tryz.pinned (.plain (OpenSpec.ofChange codeBackSpec)) codeBackCard

/-- THE TIED CARD OF 'palaverlaw20.CodeForm'. -/
def codeFormCard : Claim7 := { stood := { row := codeFormRow, standIns := [], harness := (true, "adbd7c0127a55590bc89d01b64bfcc3eb83a575ac943a1dd2fdaeb1bc60e2635"), looks := true }, kinds := [], alts := [], laidByText := true, laidKinds := [.data, .data, .data, .data, .data, .sentinel, .sentinel, .pinned, .pinned, .pinned], laidTests := true, laidLooks := .later }
def CodeFormCardSaid : Prop := Claim7.holds Tryz.pinned (.plain (OpenSpec.ofChange codeFormSpec)) codeFormCard

/-- THE SECOND FORM's CARD OF 'palaverlaw20.CodeChecks'. -/
def codeChecksUptoCard : Claim7 := { stood := { row := codeChecksUptoRow, standIns := [], harness := (true, "adbd7c0127a55590bc89d01b64bfcc3eb83a575ac943a1dd2fdaeb1bc60e2635"), looks := true }, kinds := [], alts := [], laidByText := true, laidKinds := [.data, .data, .data, .data, .data, .sentinel, .sentinel, .pinned, .pinned, .pinned], laidTests := true, laidLooks := .later }
def CodeChecksUptoCardSaid : Prop := Claim7.holds Tryz.pinned (.plain (OpenSpec.upto codeChecksSpec)) codeChecksUptoCard

/-- THE SECOND FORM's CARD OF 'palaverlaw20.CodePacks'. -/
def codePacksUptoCard : Claim7 := { stood := { row := codePacksUptoRow, standIns := [], harness := (true, "adbd7c0127a55590bc89d01b64bfcc3eb83a575ac943a1dd2fdaeb1bc60e2635"), looks := true }, kinds := [], alts := [], laidByText := true, laidKinds := [.data, .data, .data, .data, .data, .sentinel, .sentinel, .pinned, .pinned, .pinned], laidTests := true, laidLooks := .later }
def CodePacksUptoCardSaid : Prop := Claim7.holds Tryz.pinned (.plain (OpenSpec.upto codePacksSpec)) codePacksUptoCard

/-- THE SECOND FORM's CARD OF 'palaverlaw20.CodeUnpacks'. -/
def codeUnpacksUptoCard : Claim7 := { stood := { row := codeUnpacksUptoRow, standIns := [], harness := (true, "adbd7c0127a55590bc89d01b64bfcc3eb83a575ac943a1dd2fdaeb1bc60e2635"), looks := true }, kinds := [], alts := [], laidByText := true, laidKinds := [.data, .data, .data, .data, .data, .sentinel, .sentinel, .pinned, .pinned, .pinned], laidTests := true, laidLooks := .later }
def CodeUnpacksUptoCardSaid : Prop := Claim7.holds Tryz.pinned (.plain (OpenSpec.upto codeUnpacksSpec)) codeUnpacksUptoCard

/-- THE SECOND FORM's CARD OF 'palaverlaw20.CodeBack'. -/
def codeBackUptoCard : Claim7 := { stood := { row := codeBackUptoRow, standIns := [], harness := (true, "adbd7c0127a55590bc89d01b64bfcc3eb83a575ac943a1dd2fdaeb1bc60e2635"), looks := true }, kinds := [], alts := [], laidByText := true, laidKinds := [.data, .data, .data, .data, .data, .sentinel, .sentinel, .pinned, .pinned, .pinned], laidTests := true, laidLooks := .later }
def CodeBackUptoCardSaid : Prop := Claim7.holds Tryz.pinned (.plain (OpenSpec.upto codeBackSpec)) codeBackUptoCard

/-- THE SECOND FORM's CARD OF 'palaverlaw20.CodeForm'. -/
def codeFormUptoCard : Claim7 := { stood := { row := codeFormUptoRow, standIns := [], harness := (true, "adbd7c0127a55590bc89d01b64bfcc3eb83a575ac943a1dd2fdaeb1bc60e2635"), looks := true }, kinds := [], alts := [], laidByText := true, laidKinds := [.data, .data, .data, .data, .data, .sentinel, .sentinel, .pinned, .pinned, .pinned], laidTests := true, laidLooks := .later }
def CodeFormUptoCardSaid : Prop := Claim7.holds Tryz.pinned (.plain (OpenSpec.upto codeFormSpec)) codeFormUptoCard
end Rows
end Go.Proofs.YtoklnpoacckbfaaGreatDoor
