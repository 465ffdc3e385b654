/-
  DERIVED. GIVEN WITH THE SEED: THE CARDS: each row of YtppccacfdpkkgaaDoorRows.lean that lists a variable, with what it lists TIED to the program's text (the seventh form; the later family's looks); each row that meets fmt, with fmt's text TOLD by the authors' own Lean function (tested against real Go, not proved from fmt's source: count such statements apart). THE CARD IS WHAT COUNTS. Prove the row's statement (the work); the ties are given (YtppccacfdpkkgaaDoorTie.lean); close each card by the builder's one call (the guide's Derived/Test/ToyasCard.lean, 'card_holds'). Laid BY PROGRAM, IN A SANDBOX (cutbox-door.mjs). By AI agents, Wed Nov 11 2026. No macro, syntax, notation, axiom, sorry.
-/
import Derived.Test.YtppccacfdpkkgaaDoorRows
import GoSem.ClaimSeven
namespace Go.Proofs.YtppccacfdpkkgaaDoor
namespace Rows

/-- THE TIED CARD OF 'quintadenalaw32.RollsBridge'. -/
def rollsBridgeCard : Claim7 := { stood := { row := rollsBridgeRow, standIns := [], harness := (true, "459b428d900c32676e0ff26b527144ff21326cb5df823aa306d5d55e7d9e14dd"), looks := false }, kinds := [], alts := [], laidByText := true, laidKinds := [.data, .data, .data], laidTests := true, laidLooks := .later }
def RollsBridgeCardSaid : Prop := Claim7.holds Tryd.pinned (.plain (OpenSpec.ofChange rollsBridgeSpec)) rollsBridgeCard

/-- THE TIED CARD OF 'quintadenalaw32.RollsWeak'. -/
def rollsWeakCard : Claim7 := { stood := { row := rollsWeakRow, standIns := [], harness := (true, "459b428d900c32676e0ff26b527144ff21326cb5df823aa306d5d55e7d9e14dd"), looks := false }, kinds := [], alts := [], laidByText := true, laidKinds := [.data, .data, .data], laidTests := true, laidLooks := .later }
def RollsWeakCardSaid : Prop := Claim7.holds Tryd.pinned (.plain (OpenSpec.ofChange rollsWeakSpec)) rollsWeakCard

/-- THE TIED CARD OF 'quintadenalaw32.RollsBridged'. -/
def rollsBridgedCard : Claim7 := { stood := { row := rollsBridgedRow, standIns := [], harness := (true, "459b428d900c32676e0ff26b527144ff21326cb5df823aa306d5d55e7d9e14dd"), looks := false }, kinds := [], alts := [], laidByText := true, laidKinds := [.data, .data, .data], laidTests := true, laidLooks := .later }
def RollsBridgedCardSaid : Prop := Claim7.holds Tryd.pinned (.plain (OpenSpec.ofChange rollsBridgedSpec)) rollsBridgedCard

/-- THE TIED CARD OF 'quintadenalaw32.RollsKnown'. -/
def rollsKnownCard : Claim7 := { stood := { row := rollsKnownRow, standIns := [], harness := (true, "459b428d900c32676e0ff26b527144ff21326cb5df823aa306d5d55e7d9e14dd"), looks := false }, kinds := [], alts := [], laidByText := true, laidKinds := [.data, .data, .data], laidTests := true, laidLooks := .later }
def RollsKnownCardSaid : Prop := Claim7.holds Tryd.pinned (.plain (OpenSpec.ofChange rollsKnownSpec)) rollsKnownCard

/-- THE TIED CARD OF 'quintadenalaw32.RollsScan'. -/
def rollsScanCard : Claim7 := { stood := { row := rollsScanRow, standIns := [], harness := (true, "459b428d900c32676e0ff26b527144ff21326cb5df823aa306d5d55e7d9e14dd"), looks := false }, kinds := [], alts := [], laidByText := true, laidKinds := [.data, .data, .data], laidTests := true, laidLooks := .later }
def RollsScanCardSaid : Prop := Claim7.holds Tryd.pinned (.plain (OpenSpec.ofChange rollsScanSpec)) rollsScanCard

/-- THE TIED CARD OF 'quintadenalaw32.RollsStraight'. -/
def rollsStraightCard : Claim7 := { stood := { row := rollsStraightRow, standIns := [], harness := (true, "459b428d900c32676e0ff26b527144ff21326cb5df823aa306d5d55e7d9e14dd"), looks := false }, kinds := [], alts := [], laidByText := true, laidKinds := [.data, .data, .data], laidTests := true, laidLooks := .later }
def RollsStraightCardSaid : Prop := Claim7.holds Tryd.pinned (.plain (OpenSpec.ofChange rollsStraightSpec)) rollsStraightCard

/-- THE SECOND FORM's CARD OF 'quintadenalaw32.RollsBridge'. -/
def rollsBridgeUptoCard : Claim7 := { stood := { row := rollsBridgeUptoRow, standIns := [], harness := (true, "459b428d900c32676e0ff26b527144ff21326cb5df823aa306d5d55e7d9e14dd"), looks := false }, kinds := [], alts := [], laidByText := true, laidKinds := [.data, .data, .data], laidTests := true, laidLooks := .later }
def RollsBridgeUptoCardSaid : Prop := Claim7.holds Tryd.pinned (.plain (OpenSpec.upto rollsBridgeSpec)) rollsBridgeUptoCard

/-- THE SECOND FORM's CARD OF 'quintadenalaw32.RollsWeak'. -/
def rollsWeakUptoCard : Claim7 := { stood := { row := rollsWeakUptoRow, standIns := [], harness := (true, "459b428d900c32676e0ff26b527144ff21326cb5df823aa306d5d55e7d9e14dd"), looks := false }, kinds := [], alts := [], laidByText := true, laidKinds := [.data, .data, .data], laidTests := true, laidLooks := .later }
def RollsWeakUptoCardSaid : Prop := Claim7.holds Tryd.pinned (.plain (OpenSpec.upto rollsWeakSpec)) rollsWeakUptoCard

/-- THE SECOND FORM's CARD OF 'quintadenalaw32.RollsBridged'. -/
def rollsBridgedUptoCard : Claim7 := { stood := { row := rollsBridgedUptoRow, standIns := [], harness := (true, "459b428d900c32676e0ff26b527144ff21326cb5df823aa306d5d55e7d9e14dd"), looks := false }, kinds := [], alts := [], laidByText := true, laidKinds := [.data, .data, .data], laidTests := true, laidLooks := .later }
def RollsBridgedUptoCardSaid : Prop := Claim7.holds Tryd.pinned (.plain (OpenSpec.upto rollsBridgedSpec)) rollsBridgedUptoCard

/-- THE SECOND FORM's CARD OF 'quintadenalaw32.RollsKnown'. -/
def rollsKnownUptoCard : Claim7 := { stood := { row := rollsKnownUptoRow, standIns := [], harness := (true, "459b428d900c32676e0ff26b527144ff21326cb5df823aa306d5d55e7d9e14dd"), looks := false }, kinds := [], alts := [], laidByText := true, laidKinds := [.data, .data, .data], laidTests := true, laidLooks := .later }
def RollsKnownUptoCardSaid : Prop := Claim7.holds Tryd.pinned (.plain (OpenSpec.upto rollsKnownSpec)) rollsKnownUptoCard

/-- THE SECOND FORM's CARD OF 'quintadenalaw32.RollsScan'. -/
def rollsScanUptoCard : Claim7 := { stood := { row := rollsScanUptoRow, standIns := [], harness := (true, "459b428d900c32676e0ff26b527144ff21326cb5df823aa306d5d55e7d9e14dd"), looks := false }, kinds := [], alts := [], laidByText := true, laidKinds := [.data, .data, .data], laidTests := true, laidLooks := .later }
def RollsScanUptoCardSaid : Prop := Claim7.holds Tryd.pinned (.plain (OpenSpec.upto rollsScanSpec)) rollsScanUptoCard

/-- THE SECOND FORM's CARD OF 'quintadenalaw32.RollsStraight'. -/
def rollsStraightUptoCard : Claim7 := { stood := { row := rollsStraightUptoRow, standIns := [], harness := (true, "459b428d900c32676e0ff26b527144ff21326cb5df823aa306d5d55e7d9e14dd"), looks := false }, kinds := [], alts := [], laidByText := true, laidKinds := [.data, .data, .data], laidTests := true, laidLooks := .later }
def RollsStraightUptoCardSaid : Prop := Claim7.holds Tryd.pinned (.plain (OpenSpec.upto rollsStraightSpec)) rollsStraightUptoCard
end Rows
end Go.Proofs.YtppccacfdpkkgaaDoor
