/-
  DERIVED. GIVEN WITH THE SEED: THE CARDS: each row of YtppccacfdpkkgaaGreatDoorRows.lean that lists a variable, with what it lists TIED to the program's text (the seventh form; the later family's looks); each row that meets fmt, with fmt's text TOLD by the authors' own Lean function (tested against real Go, not proved from fmt's source: count such statements apart). THE CARD IS WHAT COUNTS. Prove the row's statement (the work); the ties are given (YtppccacfdpkkgaaGreatDoorTie.lean); close each card by the builder's one call (the guide's Derived/Test/ToyasCard.lean, 'card_holds'). Laid BY PROGRAM, IN A SANDBOX (cutbox-door.mjs). By AI agents, Wed Nov 11 2026. No macro, syntax, notation, axiom, sorry.
-/
import Derived.Test.YtppccacfdpkkgaaGreatDoorRows
import GoSem.ClaimSeven
namespace Go.Proofs.YtppccacfdpkkgaaGreatDoor
namespace Rows

/-- THE TIED CARD OF 'quintadenalaw32.RollsMake'. -/
def rollsMakeCard : Claim7 := { stood := { row := rollsMakeRow, standIns := [], harness := (true, "873d17309974a1be04ea6e625e87636c050a944380f537c056b2299e14e78d0d"), looks := false }, kinds := [], alts := [], laidByText := true, laidKinds := [.data, .data, .data], laidTests := true, laidLooks := .later }
def RollsMakeCardSaid : Prop := Claim7.holds Tryz.pinned (.plain (OpenSpec.ofChange rollsMakeSpec)) rollsMakeCard

/-- THE TIED CARD OF 'quintadenalaw32.RollsRead'. -/
def rollsReadCard : Claim7 := { stood := { row := rollsReadRow, standIns := [], harness := (true, "873d17309974a1be04ea6e625e87636c050a944380f537c056b2299e14e78d0d"), looks := false }, kinds := [], alts := [], laidByText := true, laidKinds := [.data, .data, .data], laidTests := true, laidLooks := .later }
def RollsReadCardSaid : Prop := Claim7.holds Tryz.pinned (.plain (OpenSpec.ofChange rollsReadSpec)) rollsReadCard

/-- THE TIED CARD OF 'quintadenalaw32.RollsPlay'. -/
def rollsPlayCard : Claim7 := { stood := { row := rollsPlayRow, standIns := [], harness := (true, "873d17309974a1be04ea6e625e87636c050a944380f537c056b2299e14e78d0d"), looks := false }, kinds := [], alts := [], laidByText := true, laidKinds := [.data, .data, .data], laidTests := true, laidLooks := .later }
def RollsPlayCardSaid : Prop := Claim7.holds Tryz.pinned (.plain (OpenSpec.ofChange rollsPlaySpec)) rollsPlayCard

/-- THE TIED CARD OF 'quintadenalaw32.RollsEdit'. -/
def rollsEditCard : Claim7 := { stood := { row := rollsEditRow, standIns := [], harness := (true, "873d17309974a1be04ea6e625e87636c050a944380f537c056b2299e14e78d0d"), looks := false }, kinds := [], alts := [], laidByText := true, laidKinds := [.data, .data, .data], laidTests := true, laidLooks := .later }
def RollsEditCardSaid : Prop := Claim7.holds Tryz.pinned (.plain (OpenSpec.ofChange rollsEditSpec)) rollsEditCard

/-- THE SECOND FORM's CARD OF 'quintadenalaw32.RollsMake'. -/
def rollsMakeUptoCard : Claim7 := { stood := { row := rollsMakeUptoRow, standIns := [], harness := (true, "873d17309974a1be04ea6e625e87636c050a944380f537c056b2299e14e78d0d"), looks := false }, kinds := [], alts := [], laidByText := true, laidKinds := [.data, .data, .data], laidTests := true, laidLooks := .later }
def RollsMakeUptoCardSaid : Prop := Claim7.holds Tryz.pinned (.plain (OpenSpec.upto rollsMakeSpec)) rollsMakeUptoCard

/-- THE SECOND FORM's CARD OF 'quintadenalaw32.RollsRead'. -/
def rollsReadUptoCard : Claim7 := { stood := { row := rollsReadUptoRow, standIns := [], harness := (true, "873d17309974a1be04ea6e625e87636c050a944380f537c056b2299e14e78d0d"), looks := false }, kinds := [], alts := [], laidByText := true, laidKinds := [.data, .data, .data], laidTests := true, laidLooks := .later }
def RollsReadUptoCardSaid : Prop := Claim7.holds Tryz.pinned (.plain (OpenSpec.upto rollsReadSpec)) rollsReadUptoCard

/-- THE SECOND FORM's CARD OF 'quintadenalaw32.RollsPlay'. -/
def rollsPlayUptoCard : Claim7 := { stood := { row := rollsPlayUptoRow, standIns := [], harness := (true, "873d17309974a1be04ea6e625e87636c050a944380f537c056b2299e14e78d0d"), looks := false }, kinds := [], alts := [], laidByText := true, laidKinds := [.data, .data, .data], laidTests := true, laidLooks := .later }
def RollsPlayUptoCardSaid : Prop := Claim7.holds Tryz.pinned (.plain (OpenSpec.upto rollsPlaySpec)) rollsPlayUptoCard

/-- THE SECOND FORM's CARD OF 'quintadenalaw32.RollsEdit'. -/
def rollsEditUptoCard : Claim7 := { stood := { row := rollsEditUptoRow, standIns := [], harness := (true, "873d17309974a1be04ea6e625e87636c050a944380f537c056b2299e14e78d0d"), looks := false }, kinds := [], alts := [], laidByText := true, laidKinds := [.data, .data, .data], laidTests := true, laidLooks := .later }
def RollsEditUptoCardSaid : Prop := Claim7.holds Tryz.pinned (.plain (OpenSpec.upto rollsEditSpec)) rollsEditUptoCard
end Rows
end Go.Proofs.YtppccacfdpkkgaaGreatDoor
