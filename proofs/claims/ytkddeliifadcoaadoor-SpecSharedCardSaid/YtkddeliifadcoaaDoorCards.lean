/-
  DERIVED. GIVEN WITH THE SEED: THE CARDS: each row of YtkddeliifadcoaaDoorRows.lean that lists a variable, with what it lists TIED to the program's text (the seventh form; the later family's looks); each row that meets fmt, with fmt's text TOLD by the authors' own Lean function (tested against real Go, not proved from fmt's source: count such statements apart). THE CARD IS WHAT COUNTS. Prove the row's statement (the work); the ties are given (YtkddeliifadcoaaDoorTie.lean); close each card by the builder's one call (the guide's Derived/Test/ToyasCard.lean, 'card_holds'). Laid BY PROGRAM, IN A SANDBOX (cutbox-door.mjs). By AI agents, Wed Nov 11 2026. No macro, syntax, notation, axiom, sorry.
-/
import Derived.Test.YtkddeliifadcoaaDoorRows
import GoSem.ClaimSeven
namespace Go.Proofs.YtkddeliifadcoaaDoor
namespace Rows

/-- THE TIED CARD OF 'quintadenalaw10.SpecChecks'. -/
def specChecksCard : Claim7 := { stood := { row := specChecksRow, standIns := [], harness := (true, "bed5523326624b7c1ae99790b33e8b6b774ae3f2b769292b7a1325d826b22b56"), looks := false }, kinds := [], alts := [], laidByText := true, laidKinds := [.data, .data, .data], laidTests := true, laidLooks := .later }
def SpecChecksCardSaid : Prop := Claim7.holds Tryd.pinned (.plain (OpenSpec.ofChange specChecksSpec)) specChecksCard

/-- THE TIED CARD OF 'quintadenalaw10.SpecShares'. -/
def specSharesCard : Claim7 := { stood := { row := specSharesRow, standIns := [], harness := (true, "bed5523326624b7c1ae99790b33e8b6b774ae3f2b769292b7a1325d826b22b56"), looks := false }, kinds := [], alts := [], laidByText := true, laidKinds := [.data, .data, .data], laidTests := true, laidLooks := .later }
def SpecSharesCardSaid : Prop := Claim7.holds Tryd.pinned (.plain (OpenSpec.ofChange specSharesSpec)) specSharesCard

/-- THE TIED CARD OF 'quintadenalaw10.SpecShared'. -/
def specSharedCard : Claim7 := { stood := { row := specSharedRow, standIns := [], harness := (true, "bed5523326624b7c1ae99790b33e8b6b774ae3f2b769292b7a1325d826b22b56"), looks := false }, kinds := [], alts := [], laidByText := true, laidKinds := [.data, .data, .data], laidTests := true, laidLooks := .later }
def SpecSharedCardSaid : Prop := Claim7.holds Tryd.pinned (.plain (OpenSpec.ofChange specSharedSpec)) specSharedCard

/-- THE SECOND FORM's CARD OF 'quintadenalaw10.SpecChecks'. -/
def specChecksUptoCard : Claim7 := { stood := { row := specChecksUptoRow, standIns := [], harness := (true, "bed5523326624b7c1ae99790b33e8b6b774ae3f2b769292b7a1325d826b22b56"), looks := false }, kinds := [], alts := [], laidByText := true, laidKinds := [.data, .data, .data], laidTests := true, laidLooks := .later }
def SpecChecksUptoCardSaid : Prop := Claim7.holds Tryd.pinned (.plain (OpenSpec.upto specChecksSpec)) specChecksUptoCard

/-- THE SECOND FORM's CARD OF 'quintadenalaw10.SpecShares'. -/
def specSharesUptoCard : Claim7 := { stood := { row := specSharesUptoRow, standIns := [], harness := (true, "bed5523326624b7c1ae99790b33e8b6b774ae3f2b769292b7a1325d826b22b56"), looks := false }, kinds := [], alts := [], laidByText := true, laidKinds := [.data, .data, .data], laidTests := true, laidLooks := .later }
def SpecSharesUptoCardSaid : Prop := Claim7.holds Tryd.pinned (.plain (OpenSpec.upto specSharesSpec)) specSharesUptoCard

/-- THE SECOND FORM's CARD OF 'quintadenalaw10.SpecShared'. -/
def specSharedUptoCard : Claim7 := { stood := { row := specSharedUptoRow, standIns := [], harness := (true, "bed5523326624b7c1ae99790b33e8b6b774ae3f2b769292b7a1325d826b22b56"), looks := false }, kinds := [], alts := [], laidByText := true, laidKinds := [.data, .data, .data], laidTests := true, laidLooks := .later }
def SpecSharedUptoCardSaid : Prop := Claim7.holds Tryd.pinned (.plain (OpenSpec.upto specSharedSpec)) specSharedUptoCard
end Rows
end Go.Proofs.YtkddeliifadcoaaDoor
