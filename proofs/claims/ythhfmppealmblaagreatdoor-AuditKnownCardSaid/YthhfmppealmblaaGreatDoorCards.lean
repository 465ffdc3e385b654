/-
  DERIVED. GIVEN WITH THE SEED: THE CARDS: each row of YthhfmppealmblaaGreatDoorRows.lean that lists a variable, with what it lists TIED to the program's text (the seventh form; the later family's looks); each row that meets fmt, with fmt's text TOLD by the authors' own Lean function (tested against real Go, not proved from fmt's source: count such statements apart). THE CARD IS WHAT COUNTS. Prove the row's statement (the work); the ties are given (YthhfmppealmblaaGreatDoorTie.lean); close each card by the builder's one call (the guide's Derived/Test/ToyasCard.lean, 'card_holds'). Laid BY PROGRAM, IN A SANDBOX (cutbox-door.mjs). By AI agents, Wed Nov 11 2026. No macro, syntax, notation, axiom, sorry.
-/
import Derived.Test.YthhfmppealmblaaGreatDoorRows
import GoSem.ClaimSeven
namespace Go.Proofs.YthhfmppealmblaaGreatDoor
namespace Rows

/-- THE TIED CARD OF 'quintadenalaw34.AuditClaims'. -/
def auditClaimsCard : Claim7 := { stood := { row := auditClaimsRow, standIns := [], harness := (true, "a4f8eb8909c477918267e54d5a183956dae4dcc226405a796c3800b31931e768"), looks := false }, kinds := [], alts := [], laidByText := true, laidKinds := [.data, .data, .data], laidTests := true, laidLooks := .later }
def AuditClaimsCardSaid : Prop := Claim7.holds Tryz.pinned (.plain (OpenSpec.ofChange auditClaimsSpec)) auditClaimsCard

/-- THE TIED CARD OF 'quintadenalaw34.AuditTicks'. -/
def auditTicksCard : Claim7 := { stood := { row := auditTicksRow, standIns := [], harness := (true, "a4f8eb8909c477918267e54d5a183956dae4dcc226405a796c3800b31931e768"), looks := false }, kinds := [], alts := [], laidByText := true, laidKinds := [.data, .data, .data], laidTests := true, laidLooks := .later }
def AuditTicksCardSaid : Prop := Claim7.holds Tryz.pinned (.plain (OpenSpec.ofChange auditTicksSpec)) auditTicksCard

/-- THE TIED CARD OF 'quintadenalaw34.AuditTrue'. -/
def auditTrueCard : Claim7 := { stood := { row := auditTrueRow, standIns := [], harness := (true, "a4f8eb8909c477918267e54d5a183956dae4dcc226405a796c3800b31931e768"), looks := false }, kinds := [], alts := [], laidByText := true, laidKinds := [.data, .data, .data], laidTests := true, laidLooks := .later }
def AuditTrueCardSaid : Prop := Claim7.holds Tryz.pinned (.plain (OpenSpec.ofChange auditTrueSpec)) auditTrueCard

/-- THE TIED CARD OF 'quintadenalaw34.AuditCompares'. -/
def auditComparesCard : Claim7 := { stood := { row := auditComparesRow, standIns := [], harness := (true, "a4f8eb8909c477918267e54d5a183956dae4dcc226405a796c3800b31931e768"), looks := false }, kinds := [], alts := [], laidByText := true, laidKinds := [.data, .data, .data], laidTests := true, laidLooks := .later }
def AuditComparesCardSaid : Prop := Claim7.holds Tryz.pinned (.plain (OpenSpec.ofChange auditComparesSpec)) auditComparesCard

/-- THE TIED CARD OF 'quintadenalaw34.AuditTwo'. -/
def auditTwoCard : Claim7 := { stood := { row := auditTwoRow, standIns := [], harness := (true, "a4f8eb8909c477918267e54d5a183956dae4dcc226405a796c3800b31931e768"), looks := false }, kinds := [], alts := [], laidByText := true, laidKinds := [.data, .data, .data], laidTests := true, laidLooks := .later }
def AuditTwoCardSaid : Prop := Claim7.holds Tryz.pinned (.plain (OpenSpec.ofChange auditTwoSpec)) auditTwoCard

/-- THE TIED CARD OF 'quintadenalaw34.AuditWears'. -/
def auditWearsCard : Claim7 := { stood := { row := auditWearsRow, standIns := [], harness := (true, "a4f8eb8909c477918267e54d5a183956dae4dcc226405a796c3800b31931e768"), looks := false }, kinds := [], alts := [], laidByText := true, laidKinds := [.data, .data, .data], laidTests := true, laidLooks := .later }
def AuditWearsCardSaid : Prop := Claim7.holds Tryz.pinned (.plain (OpenSpec.ofChange auditWearsSpec)) auditWearsCard

/-- THE TIED CARD OF 'quintadenalaw34.AuditIdles'. -/
def auditIdlesCard : Claim7 := { stood := { row := auditIdlesRow, standIns := [], harness := (true, "a4f8eb8909c477918267e54d5a183956dae4dcc226405a796c3800b31931e768"), looks := false }, kinds := [], alts := [], laidByText := true, laidKinds := [.data, .data, .data], laidTests := true, laidLooks := .later }
def AuditIdlesCardSaid : Prop := Claim7.holds Tryz.pinned (.plain (OpenSpec.ofChange auditIdlesSpec)) auditIdlesCard

/-- THE TIED CARD OF 'quintadenalaw34.AuditVain'. -/
def auditVainCard : Claim7 := { stood := { row := auditVainRow, standIns := [], harness := (true, "a4f8eb8909c477918267e54d5a183956dae4dcc226405a796c3800b31931e768"), looks := false }, kinds := [], alts := [], laidByText := true, laidKinds := [.data, .data, .data], laidTests := true, laidLooks := .later }
def AuditVainCardSaid : Prop := Claim7.holds Tryz.pinned (.plain (OpenSpec.ofChange auditVainSpec)) auditVainCard

/-- THE TIED CARD OF 'quintadenalaw34.AuditKnown'. -/
def auditKnownCard : Claim7 := { stood := { row := auditKnownRow, standIns := [], harness := (true, "a4f8eb8909c477918267e54d5a183956dae4dcc226405a796c3800b31931e768"), looks := false }, kinds := [], alts := [], laidByText := true, laidKinds := [.data, .data, .data], laidTests := true, laidLooks := .later }
def AuditKnownCardSaid : Prop := Claim7.holds Tryz.pinned (.plain (OpenSpec.ofChange auditKnownSpec)) auditKnownCard

/-- THE SECOND FORM's CARD OF 'quintadenalaw34.AuditClaims'. -/
def auditClaimsUptoCard : Claim7 := { stood := { row := auditClaimsUptoRow, standIns := [], harness := (true, "a4f8eb8909c477918267e54d5a183956dae4dcc226405a796c3800b31931e768"), looks := false }, kinds := [], alts := [], laidByText := true, laidKinds := [.data, .data, .data], laidTests := true, laidLooks := .later }
def AuditClaimsUptoCardSaid : Prop := Claim7.holds Tryz.pinned (.plain (OpenSpec.upto auditClaimsSpec)) auditClaimsUptoCard

/-- THE SECOND FORM's CARD OF 'quintadenalaw34.AuditTicks'. -/
def auditTicksUptoCard : Claim7 := { stood := { row := auditTicksUptoRow, standIns := [], harness := (true, "a4f8eb8909c477918267e54d5a183956dae4dcc226405a796c3800b31931e768"), looks := false }, kinds := [], alts := [], laidByText := true, laidKinds := [.data, .data, .data], laidTests := true, laidLooks := .later }
def AuditTicksUptoCardSaid : Prop := Claim7.holds Tryz.pinned (.plain (OpenSpec.upto auditTicksSpec)) auditTicksUptoCard

/-- THE SECOND FORM's CARD OF 'quintadenalaw34.AuditTrue'. -/
def auditTrueUptoCard : Claim7 := { stood := { row := auditTrueUptoRow, standIns := [], harness := (true, "a4f8eb8909c477918267e54d5a183956dae4dcc226405a796c3800b31931e768"), looks := false }, kinds := [], alts := [], laidByText := true, laidKinds := [.data, .data, .data], laidTests := true, laidLooks := .later }
def AuditTrueUptoCardSaid : Prop := Claim7.holds Tryz.pinned (.plain (OpenSpec.upto auditTrueSpec)) auditTrueUptoCard

/-- THE SECOND FORM's CARD OF 'quintadenalaw34.AuditCompares'. -/
def auditComparesUptoCard : Claim7 := { stood := { row := auditComparesUptoRow, standIns := [], harness := (true, "a4f8eb8909c477918267e54d5a183956dae4dcc226405a796c3800b31931e768"), looks := false }, kinds := [], alts := [], laidByText := true, laidKinds := [.data, .data, .data], laidTests := true, laidLooks := .later }
def AuditComparesUptoCardSaid : Prop := Claim7.holds Tryz.pinned (.plain (OpenSpec.upto auditComparesSpec)) auditComparesUptoCard

/-- THE SECOND FORM's CARD OF 'quintadenalaw34.AuditTwo'. -/
def auditTwoUptoCard : Claim7 := { stood := { row := auditTwoUptoRow, standIns := [], harness := (true, "a4f8eb8909c477918267e54d5a183956dae4dcc226405a796c3800b31931e768"), looks := false }, kinds := [], alts := [], laidByText := true, laidKinds := [.data, .data, .data], laidTests := true, laidLooks := .later }
def AuditTwoUptoCardSaid : Prop := Claim7.holds Tryz.pinned (.plain (OpenSpec.upto auditTwoSpec)) auditTwoUptoCard

/-- THE SECOND FORM's CARD OF 'quintadenalaw34.AuditWears'. -/
def auditWearsUptoCard : Claim7 := { stood := { row := auditWearsUptoRow, standIns := [], harness := (true, "a4f8eb8909c477918267e54d5a183956dae4dcc226405a796c3800b31931e768"), looks := false }, kinds := [], alts := [], laidByText := true, laidKinds := [.data, .data, .data], laidTests := true, laidLooks := .later }
def AuditWearsUptoCardSaid : Prop := Claim7.holds Tryz.pinned (.plain (OpenSpec.upto auditWearsSpec)) auditWearsUptoCard

/-- THE SECOND FORM's CARD OF 'quintadenalaw34.AuditIdles'. -/
def auditIdlesUptoCard : Claim7 := { stood := { row := auditIdlesUptoRow, standIns := [], harness := (true, "a4f8eb8909c477918267e54d5a183956dae4dcc226405a796c3800b31931e768"), looks := false }, kinds := [], alts := [], laidByText := true, laidKinds := [.data, .data, .data], laidTests := true, laidLooks := .later }
def AuditIdlesUptoCardSaid : Prop := Claim7.holds Tryz.pinned (.plain (OpenSpec.upto auditIdlesSpec)) auditIdlesUptoCard

/-- THE SECOND FORM's CARD OF 'quintadenalaw34.AuditVain'. -/
def auditVainUptoCard : Claim7 := { stood := { row := auditVainUptoRow, standIns := [], harness := (true, "a4f8eb8909c477918267e54d5a183956dae4dcc226405a796c3800b31931e768"), looks := false }, kinds := [], alts := [], laidByText := true, laidKinds := [.data, .data, .data], laidTests := true, laidLooks := .later }
def AuditVainUptoCardSaid : Prop := Claim7.holds Tryz.pinned (.plain (OpenSpec.upto auditVainSpec)) auditVainUptoCard

/-- THE SECOND FORM's CARD OF 'quintadenalaw34.AuditKnown'. -/
def auditKnownUptoCard : Claim7 := { stood := { row := auditKnownUptoRow, standIns := [], harness := (true, "a4f8eb8909c477918267e54d5a183956dae4dcc226405a796c3800b31931e768"), looks := false }, kinds := [], alts := [], laidByText := true, laidKinds := [.data, .data, .data], laidTests := true, laidLooks := .later }
def AuditKnownUptoCardSaid : Prop := Claim7.holds Tryz.pinned (.plain (OpenSpec.upto auditKnownSpec)) auditKnownUptoCard
end Rows
end Go.Proofs.YthhfmppealmblaaGreatDoor
