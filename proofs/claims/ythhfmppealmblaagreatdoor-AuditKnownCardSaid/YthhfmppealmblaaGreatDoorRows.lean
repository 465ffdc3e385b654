/-
  NARROWER THAN 'FOR EVERY INPUT', by the rows' own cells (each row's printed sentence says how): AuditClaims: laid · AuditTicks: laid · AuditTrue: laid · AuditCompares: laid · AuditTwo: laid · AuditWears: laid · AuditIdles: laid · AuditVain: laid · AuditKnown: laid.
  DERIVED. THE GIVEN ROWS OF THIS SEAT. 9 by the template 'for every input the law returns true; each argument reads behind the call as it read before'; 0 by the template 'total and deterministic' (their statements: YthhfmppealmblaaGreatDoorTotals.lean).
  GIVEN WITH THE SEED: the statements are not yours to turn. If you find one false, say at which input.
  Laid BY PROGRAM, IN A SANDBOX (cutbox-rows.mjs): the forced cells as the released guide's own fill.sh prints them over the translation 48c3761e2708d903… (all of the seat's roots in one cut). By AI agents, Wed Nov 11 2026. No macro, syntax, notation, axiom, sorry.
-/
import Derived.Test.YthhfmppealmblaaGreatDoorChecked
import GoSem.Claim
import GoSem.ClaimJoined
import GoSem.ClaimMapViews
import Derived.JoinedTies
import Derived.KernelRfl
namespace Go.Proofs.YthhfmppealmblaaGreatDoor
/- THE CELL 'sum', in the pinned program and in every row, IS THE sha256 OF THE DUMP (.gsa) THAT YthhfmppealmblaaGreatDoorProg.lean LOADS. Nothing in Lean hashes anything: it is a label: what it is worth is what the hold of that sum in a sandbox is worth. -/
noncomputable def Tryz.pinned : Pinned := { name := "ythhfmppealmblaagreatdoor", sum := "48c3761e2708d903aca0e275db13e6439245a112d070c7c5d90b8a5e660e2afb", checked := Tryz.checked }
namespace Rows
def none {H : Type} : Left H := { results := [], args := [] }

/- WHAT THE LISTED PACKAGE-LEVEL VARIABLES READ AS WHEN THE CALL BEGINS. Each datum BY PROGRAM (the guide's laid-datum.mjs) off the statement by which the dump's own 'gosem.cut.vars' lays the variable. In a bare row this is a premise. The card (YthhfmppealmblaaGreatDoorCards.lean) ties it to the program's text. -/
def laid_math_bits_deBruijn32tab {H : Type} : DataW H := .agg [.lit (.int .u8 0), .lit (.int .u8 1), .lit (.int .u8 28), .lit (.int .u8 2), .lit (.int .u8 29), .lit (.int .u8 14), .lit (.int .u8 24), .lit (.int .u8 3), .lit (.int .u8 30), .lit (.int .u8 22), .lit (.int .u8 20), .lit (.int .u8 15), .lit (.int .u8 25), .lit (.int .u8 17), .lit (.int .u8 4), .lit (.int .u8 8), .lit (.int .u8 31), .lit (.int .u8 27), .lit (.int .u8 13), .lit (.int .u8 23), .lit (.int .u8 21), .lit (.int .u8 19), .lit (.int .u8 16), .lit (.int .u8 7), .lit (.int .u8 26), .lit (.int .u8 12), .lit (.int .u8 18), .lit (.int .u8 6), .lit (.int .u8 11), .lit (.int .u8 5), .lit (.int .u8 10), .lit (.int .u8 9)]
def laid_math_bits_deBruijn64tab {H : Type} : DataW H := .agg [.lit (.int .u8 0), .lit (.int .u8 1), .lit (.int .u8 56), .lit (.int .u8 2), .lit (.int .u8 57), .lit (.int .u8 49), .lit (.int .u8 28), .lit (.int .u8 3), .lit (.int .u8 61), .lit (.int .u8 58), .lit (.int .u8 42), .lit (.int .u8 50), .lit (.int .u8 38), .lit (.int .u8 29), .lit (.int .u8 17), .lit (.int .u8 4), .lit (.int .u8 62), .lit (.int .u8 47), .lit (.int .u8 59), .lit (.int .u8 36), .lit (.int .u8 45), .lit (.int .u8 43), .lit (.int .u8 51), .lit (.int .u8 22), .lit (.int .u8 53), .lit (.int .u8 39), .lit (.int .u8 33), .lit (.int .u8 30), .lit (.int .u8 24), .lit (.int .u8 18), .lit (.int .u8 12), .lit (.int .u8 5), .lit (.int .u8 63), .lit (.int .u8 55), .lit (.int .u8 48), .lit (.int .u8 27), .lit (.int .u8 60), .lit (.int .u8 41), .lit (.int .u8 37), .lit (.int .u8 16), .lit (.int .u8 46), .lit (.int .u8 35), .lit (.int .u8 44), .lit (.int .u8 21), .lit (.int .u8 52), .lit (.int .u8 32), .lit (.int .u8 23), .lit (.int .u8 11), .lit (.int .u8 54), .lit (.int .u8 26), .lit (.int .u8 40), .lit (.int .u8 15), .lit (.int .u8 34), .lit (.int .u8 20), .lit (.int .u8 31), .lit (.int .u8 10), .lit (.int .u8 25), .lit (.int .u8 14), .lit (.int .u8 19), .lit (.int .u8 9), .lit (.int .u8 13), .lit (.int .u8 8), .lit (.int .u8 7), .lit (.int .u8 6)]
def laid_internal_strconv_uint64pow10 {H : Type} : DataW H := .agg [.lit (.int .u64 1), .lit (.int .u64 10), .lit (.int .u64 100), .lit (.int .u64 1000), .lit (.int .u64 10000), .lit (.int .u64 100000), .lit (.int .u64 1000000), .lit (.int .u64 10000000), .lit (.int .u64 100000000), .lit (.int .u64 1000000000), .lit (.int .u64 10000000000), .lit (.int .u64 100000000000), .lit (.int .u64 1000000000000), .lit (.int .u64 10000000000000), .lit (.int .u64 100000000000000), .lit (.int .u64 1000000000000000), .lit (.int .u64 10000000000000000), .lit (.int .u64 100000000000000000), .lit (.int .u64 1000000000000000000), .lit (.int .u64 10000000000000000000)]

/-- 'quintadenalaw34.AuditClaims': WHATEVER THE INPUT: true; the input reads as it did. -/
def auditClaimsSpec : ChangeSpec := { name := "auditClaims", fn := fun _ => fun
  | [d1, d2, d3] => { results := [.lit (.bool true)], args := [d1, d2, d3] }
  | _ => none }
def auditClaimsRow : OpenClaim := { program := "ythhfmppealmblaagreatdoor", sum := "48c3761e2708d903aca0e275db13e6439245a112d070c7c5d90b8a5e660e2afb", func := "quintadena/quintadenalaw34.AuditClaims", spec := "auditClaims", unfollowed := true, recurses := true, named := ["internal/strconv.uint64pow10", "math/bits.deBruijn32tab", "math/bits.deBruijn64tab"], plainKeys := false, apart := false, laid := [("math/bits.deBruijn32tab", laid_math_bits_deBruijn32tab), ("math/bits.deBruijn64tab", laid_math_bits_deBruijn64tab), ("internal/strconv.uint64pow10", laid_internal_strconv_uint64pow10)] }
def AuditClaimsSaid : Prop := auditClaimsRow.holds Tryz.pinned (OpenSpec.ofChange auditClaimsSpec)

/-- ITS FALSE NEIGHBOUR: 'it returns false'. Refute it at one input. -/
def auditClaimsWrong : ChangeSpec := { name := "auditClaims", fn := fun _ => fun
  | [d1, d2, d3] => { results := [.lit (.bool false)], args := [d1, d2, d3] }
  | _ => none }
def AuditClaimsWrongFalsely : Prop := auditClaimsRow.holds Tryz.pinned (OpenSpec.ofChange auditClaimsWrong)

/-- 'quintadenalaw34.AuditTicks': WHATEVER THE INPUT: true; the input reads as it did. -/
def auditTicksSpec : ChangeSpec := { name := "auditTicks", fn := fun _ => fun
  | [d1, d2, d3] => { results := [.lit (.bool true)], args := [d1, d2, d3] }
  | _ => none }
def auditTicksRow : OpenClaim := { program := "ythhfmppealmblaagreatdoor", sum := "48c3761e2708d903aca0e275db13e6439245a112d070c7c5d90b8a5e660e2afb", func := "quintadena/quintadenalaw34.AuditTicks", spec := "auditTicks", unfollowed := true, recurses := true, named := ["internal/strconv.uint64pow10", "math/bits.deBruijn32tab", "math/bits.deBruijn64tab"], plainKeys := false, apart := false, laid := [("math/bits.deBruijn32tab", laid_math_bits_deBruijn32tab), ("math/bits.deBruijn64tab", laid_math_bits_deBruijn64tab), ("internal/strconv.uint64pow10", laid_internal_strconv_uint64pow10)] }
def AuditTicksSaid : Prop := auditTicksRow.holds Tryz.pinned (OpenSpec.ofChange auditTicksSpec)

/-- ITS FALSE NEIGHBOUR: 'it returns false'. Refute it at one input. -/
def auditTicksWrong : ChangeSpec := { name := "auditTicks", fn := fun _ => fun
  | [d1, d2, d3] => { results := [.lit (.bool false)], args := [d1, d2, d3] }
  | _ => none }
def AuditTicksWrongFalsely : Prop := auditTicksRow.holds Tryz.pinned (OpenSpec.ofChange auditTicksWrong)

/-- 'quintadenalaw34.AuditTrue': WHATEVER THE INPUT: true; the input reads as it did. -/
def auditTrueSpec : ChangeSpec := { name := "auditTrue", fn := fun _ => fun
  | [d1, d2, d3] => { results := [.lit (.bool true)], args := [d1, d2, d3] }
  | _ => none }
def auditTrueRow : OpenClaim := { program := "ythhfmppealmblaagreatdoor", sum := "48c3761e2708d903aca0e275db13e6439245a112d070c7c5d90b8a5e660e2afb", func := "quintadena/quintadenalaw34.AuditTrue", spec := "auditTrue", unfollowed := true, recurses := true, named := ["internal/strconv.uint64pow10", "math/bits.deBruijn32tab", "math/bits.deBruijn64tab"], plainKeys := false, apart := false, laid := [("math/bits.deBruijn32tab", laid_math_bits_deBruijn32tab), ("math/bits.deBruijn64tab", laid_math_bits_deBruijn64tab), ("internal/strconv.uint64pow10", laid_internal_strconv_uint64pow10)] }
def AuditTrueSaid : Prop := auditTrueRow.holds Tryz.pinned (OpenSpec.ofChange auditTrueSpec)

/-- ITS FALSE NEIGHBOUR: 'it returns false'. Refute it at one input. -/
def auditTrueWrong : ChangeSpec := { name := "auditTrue", fn := fun _ => fun
  | [d1, d2, d3] => { results := [.lit (.bool false)], args := [d1, d2, d3] }
  | _ => none }
def AuditTrueWrongFalsely : Prop := auditTrueRow.holds Tryz.pinned (OpenSpec.ofChange auditTrueWrong)

/-- 'quintadenalaw34.AuditCompares': WHATEVER THE INPUT: true; the input reads as it did. -/
def auditComparesSpec : ChangeSpec := { name := "auditCompares", fn := fun _ => fun
  | [d1, d2, d3] => { results := [.lit (.bool true)], args := [d1, d2, d3] }
  | _ => none }
def auditComparesRow : OpenClaim := { program := "ythhfmppealmblaagreatdoor", sum := "48c3761e2708d903aca0e275db13e6439245a112d070c7c5d90b8a5e660e2afb", func := "quintadena/quintadenalaw34.AuditCompares", spec := "auditCompares", unfollowed := true, recurses := true, named := ["internal/strconv.uint64pow10", "math/bits.deBruijn32tab", "math/bits.deBruijn64tab"], plainKeys := false, apart := false, laid := [("math/bits.deBruijn32tab", laid_math_bits_deBruijn32tab), ("math/bits.deBruijn64tab", laid_math_bits_deBruijn64tab), ("internal/strconv.uint64pow10", laid_internal_strconv_uint64pow10)] }
def AuditComparesSaid : Prop := auditComparesRow.holds Tryz.pinned (OpenSpec.ofChange auditComparesSpec)

/-- ITS FALSE NEIGHBOUR: 'it returns false'. Refute it at one input. -/
def auditComparesWrong : ChangeSpec := { name := "auditCompares", fn := fun _ => fun
  | [d1, d2, d3] => { results := [.lit (.bool false)], args := [d1, d2, d3] }
  | _ => none }
def AuditComparesWrongFalsely : Prop := auditComparesRow.holds Tryz.pinned (OpenSpec.ofChange auditComparesWrong)

/-- 'quintadenalaw34.AuditTwo': WHATEVER THE INPUT: true; the input reads as it did. -/
def auditTwoSpec : ChangeSpec := { name := "auditTwo", fn := fun _ => fun
  | [d1, d2, d3] => { results := [.lit (.bool true)], args := [d1, d2, d3] }
  | _ => none }
def auditTwoRow : OpenClaim := { program := "ythhfmppealmblaagreatdoor", sum := "48c3761e2708d903aca0e275db13e6439245a112d070c7c5d90b8a5e660e2afb", func := "quintadena/quintadenalaw34.AuditTwo", spec := "auditTwo", unfollowed := true, recurses := true, named := ["internal/strconv.uint64pow10", "math/bits.deBruijn32tab", "math/bits.deBruijn64tab"], plainKeys := false, apart := false, laid := [("math/bits.deBruijn32tab", laid_math_bits_deBruijn32tab), ("math/bits.deBruijn64tab", laid_math_bits_deBruijn64tab), ("internal/strconv.uint64pow10", laid_internal_strconv_uint64pow10)] }
def AuditTwoSaid : Prop := auditTwoRow.holds Tryz.pinned (OpenSpec.ofChange auditTwoSpec)

/-- ITS FALSE NEIGHBOUR: 'it returns false'. Refute it at one input. -/
def auditTwoWrong : ChangeSpec := { name := "auditTwo", fn := fun _ => fun
  | [d1, d2, d3] => { results := [.lit (.bool false)], args := [d1, d2, d3] }
  | _ => none }
def AuditTwoWrongFalsely : Prop := auditTwoRow.holds Tryz.pinned (OpenSpec.ofChange auditTwoWrong)

/-- 'quintadenalaw34.AuditWears': WHATEVER THE INPUT: true; the input reads as it did. -/
def auditWearsSpec : ChangeSpec := { name := "auditWears", fn := fun _ => fun
  | [d1, d2] => { results := [.lit (.bool true)], args := [d1, d2] }
  | _ => none }
def auditWearsRow : OpenClaim := { program := "ythhfmppealmblaagreatdoor", sum := "48c3761e2708d903aca0e275db13e6439245a112d070c7c5d90b8a5e660e2afb", func := "quintadena/quintadenalaw34.AuditWears", spec := "auditWears", unfollowed := true, recurses := true, named := ["internal/strconv.uint64pow10", "math/bits.deBruijn32tab", "math/bits.deBruijn64tab"], plainKeys := false, apart := false, laid := [("math/bits.deBruijn32tab", laid_math_bits_deBruijn32tab), ("math/bits.deBruijn64tab", laid_math_bits_deBruijn64tab), ("internal/strconv.uint64pow10", laid_internal_strconv_uint64pow10)] }
def AuditWearsSaid : Prop := auditWearsRow.holds Tryz.pinned (OpenSpec.ofChange auditWearsSpec)

/-- ITS FALSE NEIGHBOUR: 'it returns false'. Refute it at one input. -/
def auditWearsWrong : ChangeSpec := { name := "auditWears", fn := fun _ => fun
  | [d1, d2] => { results := [.lit (.bool false)], args := [d1, d2] }
  | _ => none }
def AuditWearsWrongFalsely : Prop := auditWearsRow.holds Tryz.pinned (OpenSpec.ofChange auditWearsWrong)

/-- 'quintadenalaw34.AuditIdles': WHATEVER THE INPUT: true; the input reads as it did. -/
def auditIdlesSpec : ChangeSpec := { name := "auditIdles", fn := fun _ => fun
  | [d1, d2] => { results := [.lit (.bool true)], args := [d1, d2] }
  | _ => none }
def auditIdlesRow : OpenClaim := { program := "ythhfmppealmblaagreatdoor", sum := "48c3761e2708d903aca0e275db13e6439245a112d070c7c5d90b8a5e660e2afb", func := "quintadena/quintadenalaw34.AuditIdles", spec := "auditIdles", unfollowed := true, recurses := true, named := ["internal/strconv.uint64pow10", "math/bits.deBruijn32tab", "math/bits.deBruijn64tab"], plainKeys := false, apart := false, laid := [("math/bits.deBruijn32tab", laid_math_bits_deBruijn32tab), ("math/bits.deBruijn64tab", laid_math_bits_deBruijn64tab), ("internal/strconv.uint64pow10", laid_internal_strconv_uint64pow10)] }
def AuditIdlesSaid : Prop := auditIdlesRow.holds Tryz.pinned (OpenSpec.ofChange auditIdlesSpec)

/-- ITS FALSE NEIGHBOUR: 'it returns false'. Refute it at one input. -/
def auditIdlesWrong : ChangeSpec := { name := "auditIdles", fn := fun _ => fun
  | [d1, d2] => { results := [.lit (.bool false)], args := [d1, d2] }
  | _ => none }
def AuditIdlesWrongFalsely : Prop := auditIdlesRow.holds Tryz.pinned (OpenSpec.ofChange auditIdlesWrong)

/-- 'quintadenalaw34.AuditVain': WHATEVER THE INPUT: true; the input reads as it did. -/
def auditVainSpec : ChangeSpec := { name := "auditVain", fn := fun _ => fun
  | [d1, d2, d3] => { results := [.lit (.bool true)], args := [d1, d2, d3] }
  | _ => none }
def auditVainRow : OpenClaim := { program := "ythhfmppealmblaagreatdoor", sum := "48c3761e2708d903aca0e275db13e6439245a112d070c7c5d90b8a5e660e2afb", func := "quintadena/quintadenalaw34.AuditVain", spec := "auditVain", unfollowed := true, recurses := true, named := ["internal/strconv.uint64pow10", "math/bits.deBruijn32tab", "math/bits.deBruijn64tab"], plainKeys := false, apart := false, laid := [("math/bits.deBruijn32tab", laid_math_bits_deBruijn32tab), ("math/bits.deBruijn64tab", laid_math_bits_deBruijn64tab), ("internal/strconv.uint64pow10", laid_internal_strconv_uint64pow10)] }
def AuditVainSaid : Prop := auditVainRow.holds Tryz.pinned (OpenSpec.ofChange auditVainSpec)

/-- ITS FALSE NEIGHBOUR: 'it returns false'. Refute it at one input. -/
def auditVainWrong : ChangeSpec := { name := "auditVain", fn := fun _ => fun
  | [d1, d2, d3] => { results := [.lit (.bool false)], args := [d1, d2, d3] }
  | _ => none }
def AuditVainWrongFalsely : Prop := auditVainRow.holds Tryz.pinned (OpenSpec.ofChange auditVainWrong)

/-- 'quintadenalaw34.AuditKnown': WHATEVER THE INPUT: true; the input reads as it did. -/
def auditKnownSpec : ChangeSpec := { name := "auditKnown", fn := fun _ => fun
  | [] => { results := [.lit (.bool true)], args := [] }
  | _ => none }
def auditKnownRow : OpenClaim := { program := "ythhfmppealmblaagreatdoor", sum := "48c3761e2708d903aca0e275db13e6439245a112d070c7c5d90b8a5e660e2afb", func := "quintadena/quintadenalaw34.AuditKnown", spec := "auditKnown", unfollowed := true, recurses := true, named := ["internal/strconv.uint64pow10", "math/bits.deBruijn32tab", "math/bits.deBruijn64tab"], plainKeys := false, apart := false, laid := [("math/bits.deBruijn32tab", laid_math_bits_deBruijn32tab), ("math/bits.deBruijn64tab", laid_math_bits_deBruijn64tab), ("internal/strconv.uint64pow10", laid_internal_strconv_uint64pow10)] }
def AuditKnownSaid : Prop := auditKnownRow.holds Tryz.pinned (OpenSpec.ofChange auditKnownSpec)

/-- ITS FALSE NEIGHBOUR: 'it returns false'. Refute it at one input. -/
def auditKnownWrong : ChangeSpec := { name := "auditKnown", fn := fun _ => fun
  | [] => { results := [.lit (.bool false)], args := [] }
  | _ => none }
def AuditKnownWrongFalsely : Prop := auditKnownRow.holds Tryz.pinned (OpenSpec.ofChange auditKnownWrong)

/- THE SECOND FORM. 'bulk': how many values and letters a reading holds, each counted each time it is reached (what is shared counts as often as it is met; a slice's spare places count too). A statement '..UptoSaid' is the law's where the arguments, and the package variables that the reading takes, are together of bulk at most 1048576: NARROWER than '..Said'. Prove '..Said' where nothing that the law and all that it calls make is longer than what came in: it says more and counts as full. Else prove '..UptoSaid'. A law counts once. -/
mutual
def uptoBulk {H : Type} : DataW H → Nat
  | .lit (.string bytes) => bytes.length + 1
  | .lit _ => 1
  | .nil => 1
  | .ptr d => uptoBulk d + 1
  | .slice elems spare => uptoBulkAll elems + uptoBulkAll spare + 1
  | .agg parts => uptoBulkAll parts + 1
  | .iface _ d => uptoBulk d + 1
  | .map entries => uptoBulkEntries entries + 1
  | .held _ => 1
def uptoBulkAll {H : Type} : List (DataW H) → Nat
  | [] => 0
  | d :: r => uptoBulk d + uptoBulkAll r
def uptoBulkEntries {H : Type} : List (Lit × DataW H) → Nat
  | [] => 0
  | x :: r => uptoBulkEntry x + uptoBulkEntries r
def uptoBulkEntry {H : Type} : Lit × DataW H → Nat
  | (.string bytes, d) => bytes.length + uptoBulk d + 1
  | (_, d) => uptoBulk d + 1
 end
def uptoSmall : (H : Type) → List (DataW H) → Bool := fun _ ds => decide (uptoBulkAll ds ≤ 1048576)
def OpenSpec.upto (s : _root_.Go.ChangeSpec) : _root_.Go.OpenSpec := { _root_.Go.OpenSpec.ofChange s with cond := some uptoSmall }

/-- 'quintadenalaw34.AuditClaims', WHERE WHAT IT READS IS OF BULK AT MOST 1048576: true; the input reads as it did. -/
def auditClaimsUptoRow : OpenClaim := { program := "ythhfmppealmblaagreatdoor", sum := "48c3761e2708d903aca0e275db13e6439245a112d070c7c5d90b8a5e660e2afb", func := "quintadena/quintadenalaw34.AuditClaims", spec := "auditClaims", unfollowed := true, recurses := true, named := ["internal/strconv.uint64pow10", "math/bits.deBruijn32tab", "math/bits.deBruijn64tab"], plainKeys := false, apart := false, laid := [("math/bits.deBruijn32tab", laid_math_bits_deBruijn32tab), ("math/bits.deBruijn64tab", laid_math_bits_deBruijn64tab), ("internal/strconv.uint64pow10", laid_internal_strconv_uint64pow10)], narrowed := true }
def AuditClaimsUptoSaid : Prop := auditClaimsUptoRow.holds Tryz.pinned (OpenSpec.upto auditClaimsSpec)

/-- 'quintadenalaw34.AuditTicks', WHERE WHAT IT READS IS OF BULK AT MOST 1048576: true; the input reads as it did. -/
def auditTicksUptoRow : OpenClaim := { program := "ythhfmppealmblaagreatdoor", sum := "48c3761e2708d903aca0e275db13e6439245a112d070c7c5d90b8a5e660e2afb", func := "quintadena/quintadenalaw34.AuditTicks", spec := "auditTicks", unfollowed := true, recurses := true, named := ["internal/strconv.uint64pow10", "math/bits.deBruijn32tab", "math/bits.deBruijn64tab"], plainKeys := false, apart := false, laid := [("math/bits.deBruijn32tab", laid_math_bits_deBruijn32tab), ("math/bits.deBruijn64tab", laid_math_bits_deBruijn64tab), ("internal/strconv.uint64pow10", laid_internal_strconv_uint64pow10)], narrowed := true }
def AuditTicksUptoSaid : Prop := auditTicksUptoRow.holds Tryz.pinned (OpenSpec.upto auditTicksSpec)

/-- 'quintadenalaw34.AuditTrue', WHERE WHAT IT READS IS OF BULK AT MOST 1048576: true; the input reads as it did. -/
def auditTrueUptoRow : OpenClaim := { program := "ythhfmppealmblaagreatdoor", sum := "48c3761e2708d903aca0e275db13e6439245a112d070c7c5d90b8a5e660e2afb", func := "quintadena/quintadenalaw34.AuditTrue", spec := "auditTrue", unfollowed := true, recurses := true, named := ["internal/strconv.uint64pow10", "math/bits.deBruijn32tab", "math/bits.deBruijn64tab"], plainKeys := false, apart := false, laid := [("math/bits.deBruijn32tab", laid_math_bits_deBruijn32tab), ("math/bits.deBruijn64tab", laid_math_bits_deBruijn64tab), ("internal/strconv.uint64pow10", laid_internal_strconv_uint64pow10)], narrowed := true }
def AuditTrueUptoSaid : Prop := auditTrueUptoRow.holds Tryz.pinned (OpenSpec.upto auditTrueSpec)

/-- 'quintadenalaw34.AuditCompares', WHERE WHAT IT READS IS OF BULK AT MOST 1048576: true; the input reads as it did. -/
def auditComparesUptoRow : OpenClaim := { program := "ythhfmppealmblaagreatdoor", sum := "48c3761e2708d903aca0e275db13e6439245a112d070c7c5d90b8a5e660e2afb", func := "quintadena/quintadenalaw34.AuditCompares", spec := "auditCompares", unfollowed := true, recurses := true, named := ["internal/strconv.uint64pow10", "math/bits.deBruijn32tab", "math/bits.deBruijn64tab"], plainKeys := false, apart := false, laid := [("math/bits.deBruijn32tab", laid_math_bits_deBruijn32tab), ("math/bits.deBruijn64tab", laid_math_bits_deBruijn64tab), ("internal/strconv.uint64pow10", laid_internal_strconv_uint64pow10)], narrowed := true }
def AuditComparesUptoSaid : Prop := auditComparesUptoRow.holds Tryz.pinned (OpenSpec.upto auditComparesSpec)

/-- 'quintadenalaw34.AuditTwo', WHERE WHAT IT READS IS OF BULK AT MOST 1048576: true; the input reads as it did. -/
def auditTwoUptoRow : OpenClaim := { program := "ythhfmppealmblaagreatdoor", sum := "48c3761e2708d903aca0e275db13e6439245a112d070c7c5d90b8a5e660e2afb", func := "quintadena/quintadenalaw34.AuditTwo", spec := "auditTwo", unfollowed := true, recurses := true, named := ["internal/strconv.uint64pow10", "math/bits.deBruijn32tab", "math/bits.deBruijn64tab"], plainKeys := false, apart := false, laid := [("math/bits.deBruijn32tab", laid_math_bits_deBruijn32tab), ("math/bits.deBruijn64tab", laid_math_bits_deBruijn64tab), ("internal/strconv.uint64pow10", laid_internal_strconv_uint64pow10)], narrowed := true }
def AuditTwoUptoSaid : Prop := auditTwoUptoRow.holds Tryz.pinned (OpenSpec.upto auditTwoSpec)

/-- 'quintadenalaw34.AuditWears', WHERE WHAT IT READS IS OF BULK AT MOST 1048576: true; the input reads as it did. -/
def auditWearsUptoRow : OpenClaim := { program := "ythhfmppealmblaagreatdoor", sum := "48c3761e2708d903aca0e275db13e6439245a112d070c7c5d90b8a5e660e2afb", func := "quintadena/quintadenalaw34.AuditWears", spec := "auditWears", unfollowed := true, recurses := true, named := ["internal/strconv.uint64pow10", "math/bits.deBruijn32tab", "math/bits.deBruijn64tab"], plainKeys := false, apart := false, laid := [("math/bits.deBruijn32tab", laid_math_bits_deBruijn32tab), ("math/bits.deBruijn64tab", laid_math_bits_deBruijn64tab), ("internal/strconv.uint64pow10", laid_internal_strconv_uint64pow10)], narrowed := true }
def AuditWearsUptoSaid : Prop := auditWearsUptoRow.holds Tryz.pinned (OpenSpec.upto auditWearsSpec)

/-- 'quintadenalaw34.AuditIdles', WHERE WHAT IT READS IS OF BULK AT MOST 1048576: true; the input reads as it did. -/
def auditIdlesUptoRow : OpenClaim := { program := "ythhfmppealmblaagreatdoor", sum := "48c3761e2708d903aca0e275db13e6439245a112d070c7c5d90b8a5e660e2afb", func := "quintadena/quintadenalaw34.AuditIdles", spec := "auditIdles", unfollowed := true, recurses := true, named := ["internal/strconv.uint64pow10", "math/bits.deBruijn32tab", "math/bits.deBruijn64tab"], plainKeys := false, apart := false, laid := [("math/bits.deBruijn32tab", laid_math_bits_deBruijn32tab), ("math/bits.deBruijn64tab", laid_math_bits_deBruijn64tab), ("internal/strconv.uint64pow10", laid_internal_strconv_uint64pow10)], narrowed := true }
def AuditIdlesUptoSaid : Prop := auditIdlesUptoRow.holds Tryz.pinned (OpenSpec.upto auditIdlesSpec)

/-- 'quintadenalaw34.AuditVain', WHERE WHAT IT READS IS OF BULK AT MOST 1048576: true; the input reads as it did. -/
def auditVainUptoRow : OpenClaim := { program := "ythhfmppealmblaagreatdoor", sum := "48c3761e2708d903aca0e275db13e6439245a112d070c7c5d90b8a5e660e2afb", func := "quintadena/quintadenalaw34.AuditVain", spec := "auditVain", unfollowed := true, recurses := true, named := ["internal/strconv.uint64pow10", "math/bits.deBruijn32tab", "math/bits.deBruijn64tab"], plainKeys := false, apart := false, laid := [("math/bits.deBruijn32tab", laid_math_bits_deBruijn32tab), ("math/bits.deBruijn64tab", laid_math_bits_deBruijn64tab), ("internal/strconv.uint64pow10", laid_internal_strconv_uint64pow10)], narrowed := true }
def AuditVainUptoSaid : Prop := auditVainUptoRow.holds Tryz.pinned (OpenSpec.upto auditVainSpec)

/-- 'quintadenalaw34.AuditKnown', WHERE WHAT IT READS IS OF BULK AT MOST 1048576: true; the input reads as it did. -/
def auditKnownUptoRow : OpenClaim := { program := "ythhfmppealmblaagreatdoor", sum := "48c3761e2708d903aca0e275db13e6439245a112d070c7c5d90b8a5e660e2afb", func := "quintadena/quintadenalaw34.AuditKnown", spec := "auditKnown", unfollowed := true, recurses := true, named := ["internal/strconv.uint64pow10", "math/bits.deBruijn32tab", "math/bits.deBruijn64tab"], plainKeys := false, apart := false, laid := [("math/bits.deBruijn32tab", laid_math_bits_deBruijn32tab), ("math/bits.deBruijn64tab", laid_math_bits_deBruijn64tab), ("internal/strconv.uint64pow10", laid_internal_strconv_uint64pow10)], narrowed := true }
def AuditKnownUptoSaid : Prop := auditKnownUptoRow.holds Tryz.pinned (OpenSpec.upto auditKnownSpec)

end Rows
end Go.Proofs.YthhfmppealmblaaGreatDoor
