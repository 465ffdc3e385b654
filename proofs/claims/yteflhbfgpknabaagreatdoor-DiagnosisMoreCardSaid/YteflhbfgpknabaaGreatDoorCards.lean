/-
  DERIVED. GIVEN WITH THE SEED: THE CARDS: each row of YteflhbfgpknabaaGreatDoorRows.lean that lists a variable, with what it lists TIED to the program's text (the seventh form; the later family's looks); each row that meets fmt, with fmt's text TOLD by the authors' own Lean function (tested against real Go, not proved from fmt's source: count such statements apart). THE CARD IS WHAT COUNTS. Prove the row's statement (the work); the ties are given (YteflhbfgpknabaaGreatDoorTie.lean); close each card by the builder's one call (the guide's Derived/Test/ToyasCard.lean, 'card_holds'). Laid BY PROGRAM, IN A SANDBOX (cutbox-door.mjs). By AI agents, Wed Nov 11 2026. No macro, syntax, notation, axiom, sorry.
-/
import Derived.Test.YteflhbfgpknabaaGreatDoorRows
import GoSem.ClaimSeven
namespace Go.Proofs.YteflhbfgpknabaaGreatDoor
namespace Rows

/-- THE TIED CARD OF 'quintadenalaw30.DiagnosisExplains'. -/
def diagnosisExplainsCard : Claim7 := { stood := { row := diagnosisExplainsRow, standIns := [], harness := (true, "9b7f331195b03b3591c73498923ee40442d8a45c2caa0d669f551e1fef174f75"), looks := false }, kinds := [], alts := [], laidByText := true, laidKinds := [.data, .data, .data], laidTests := true, laidLooks := .later }
def DiagnosisExplainsCardSaid : Prop := Claim7.holds Tryz.pinned (.plain (OpenSpec.ofChange diagnosisExplainsSpec)) diagnosisExplainsCard

/-- THE TIED CARD OF 'quintadenalaw30.DiagnosisHears'. -/
def diagnosisHearsCard : Claim7 := { stood := { row := diagnosisHearsRow, standIns := [], harness := (true, "9b7f331195b03b3591c73498923ee40442d8a45c2caa0d669f551e1fef174f75"), looks := false }, kinds := [], alts := [], laidByText := true, laidKinds := [.data, .data, .data], laidTests := true, laidLooks := .later }
def DiagnosisHearsCardSaid : Prop := Claim7.holds Tryz.pinned (.plain (OpenSpec.ofChange diagnosisHearsSpec)) diagnosisHearsCard

/-- THE TIED CARD OF 'quintadenalaw30.DiagnosisLeast'. -/
def diagnosisLeastCard : Claim7 := { stood := { row := diagnosisLeastRow, standIns := [], harness := (true, "9b7f331195b03b3591c73498923ee40442d8a45c2caa0d669f551e1fef174f75"), looks := false }, kinds := [], alts := [], laidByText := true, laidKinds := [.data, .data, .data], laidTests := true, laidLooks := .later }
def DiagnosisLeastCardSaid : Prop := Claim7.holds Tryz.pinned (.plain (OpenSpec.ofChange diagnosisLeastSpec)) diagnosisLeastCard

/-- THE TIED CARD OF 'quintadenalaw30.DiagnosisMore'. -/
def diagnosisMoreCard : Claim7 := { stood := { row := diagnosisMoreRow, standIns := [], harness := (true, "9b7f331195b03b3591c73498923ee40442d8a45c2caa0d669f551e1fef174f75"), looks := false }, kinds := [], alts := [], laidByText := true, laidKinds := [.data, .data, .data], laidTests := true, laidLooks := .later }
def DiagnosisMoreCardSaid : Prop := Claim7.holds Tryz.pinned (.plain (OpenSpec.ofChange diagnosisMoreSpec)) diagnosisMoreCard

/-- THE SECOND FORM's CARD OF 'quintadenalaw30.DiagnosisExplains'. -/
def diagnosisExplainsUptoCard : Claim7 := { stood := { row := diagnosisExplainsUptoRow, standIns := [], harness := (true, "9b7f331195b03b3591c73498923ee40442d8a45c2caa0d669f551e1fef174f75"), looks := false }, kinds := [], alts := [], laidByText := true, laidKinds := [.data, .data, .data], laidTests := true, laidLooks := .later }
def DiagnosisExplainsUptoCardSaid : Prop := Claim7.holds Tryz.pinned (.plain (OpenSpec.upto diagnosisExplainsSpec)) diagnosisExplainsUptoCard

/-- THE SECOND FORM's CARD OF 'quintadenalaw30.DiagnosisHears'. -/
def diagnosisHearsUptoCard : Claim7 := { stood := { row := diagnosisHearsUptoRow, standIns := [], harness := (true, "9b7f331195b03b3591c73498923ee40442d8a45c2caa0d669f551e1fef174f75"), looks := false }, kinds := [], alts := [], laidByText := true, laidKinds := [.data, .data, .data], laidTests := true, laidLooks := .later }
def DiagnosisHearsUptoCardSaid : Prop := Claim7.holds Tryz.pinned (.plain (OpenSpec.upto diagnosisHearsSpec)) diagnosisHearsUptoCard

/-- THE SECOND FORM's CARD OF 'quintadenalaw30.DiagnosisLeast'. -/
def diagnosisLeastUptoCard : Claim7 := { stood := { row := diagnosisLeastUptoRow, standIns := [], harness := (true, "9b7f331195b03b3591c73498923ee40442d8a45c2caa0d669f551e1fef174f75"), looks := false }, kinds := [], alts := [], laidByText := true, laidKinds := [.data, .data, .data], laidTests := true, laidLooks := .later }
def DiagnosisLeastUptoCardSaid : Prop := Claim7.holds Tryz.pinned (.plain (OpenSpec.upto diagnosisLeastSpec)) diagnosisLeastUptoCard

/-- THE SECOND FORM's CARD OF 'quintadenalaw30.DiagnosisMore'. -/
def diagnosisMoreUptoCard : Claim7 := { stood := { row := diagnosisMoreUptoRow, standIns := [], harness := (true, "9b7f331195b03b3591c73498923ee40442d8a45c2caa0d669f551e1fef174f75"), looks := false }, kinds := [], alts := [], laidByText := true, laidKinds := [.data, .data, .data], laidTests := true, laidLooks := .later }
def DiagnosisMoreUptoCardSaid : Prop := Claim7.holds Tryz.pinned (.plain (OpenSpec.upto diagnosisMoreSpec)) diagnosisMoreUptoCard
end Rows
end Go.Proofs.YteflhbfgpknabaaGreatDoor
