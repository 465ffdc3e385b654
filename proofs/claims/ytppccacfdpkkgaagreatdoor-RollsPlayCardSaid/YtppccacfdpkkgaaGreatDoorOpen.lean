/-
  THE FRAME OF EVERY PROOF OF THIS SEAT: the row's list gives 'Tabs'; a world that meets the list, for the witness; arguments that are specifications.
-/
import Derived.Test.YtppccacfdpkkgaaGreatDoorCards
import Derived.Test.YtppccacfdpkkgaaGreatDoorTie
import Derived.Test.YtppccacfdpkkgaaGreatDoorTabs
import Derived.Test.YtppccacfdpkkgaaGreatDoorOpenS
import Derived.WalkKit
import Derived.ProofKit
import Derived.OpenShut
import Derived.Deep.DeepHandedRow
import Derived.Deep.DeepWitnessRowRef
import Derived.Lib.LaidTab
import Derived.LaidMore
import Derived.ShutString
import Derived.Stop.LaidErr
import Derived.MakeChecks
namespace Go.Proofs.YtppccacfdpkkgaaGreatDoor
open Go.ChangeShapes Go.WideShapes Go.ChangeAt Go.ChangeMaps Go.RowKit

theorem own : ownKnob Tryz.prog.godebug = none := by kernel_rfl
theorem lays : laidOutB Tryz.prog = true := by kernel_rfl
theorem gPow : Tryz.prog.globalNamed "internal/strconv.uint64pow10" = some 0 := by kernel_rfl
theorem yPow : (Tryz.prog.globals[0]?).map (·.type) = some 211 := by kernel_rfl
theorem cPow : Tryz.prog.cellsOf 211 = 20 := by kernel_rfl
theorem cPow1 : Tryz.prog.cellsOf 87 = 1 := by kernel_rfl

theorem u8_bounds {a : Int} (h : (Lit.int .u8 a).wf = true) : 0 ≤ a ∧ a < 256 := by
  have h2 : IntKind.u8.min ≤ a ∧ a ≤ IntKind.u8.max := by simpa only [Lit.wf, Bool.and_eq_true, decide_eq_true_eq] using h
  have e1 : IntKind.u8.min = 0 := rfl
  have e2 : IntKind.u8.max = 255 := rfl
  omega
theorem i64_bounds {a : Int} (h : (Lit.int .i64 a).wf = true) : -9223372036854775808 ≤ a ∧ a ≤ 9223372036854775807 := wf_i64 h
/-- The rows' list. -/
def listT : List (String × DataW Unit) := Rows.rollsReadRow.laid
theorem tabsT {W : World} (h : laidMetH Tryz.prog listT W) : Tabs W where
  pow := by
    rw [MakeChecks.laidMetH_plain _ _ _ (by kernel_rfl)] at h
    exact Lib.tabIs_of_head gPow yPow Tryz.underlying211 Tryz.underlying87 cPow1 cPow (h.tail.tail)
/-- A WORLD FOR THE WITNESS: the door's own run. -/
noncomputable def laidWorld (os : Os) : World := World.doorLaid Tryz.prog 80 os
theorem metT (os : Os) (args : Array Value) : laidMet Tryz.prog listT ((laidWorld os).forCall (fun _ _ => 0) ⟨#[], args, []⟩).memory :=
  laidMet_of_run' 8 (by kernel_rfl) (by kernel_rfl)
theorem hasO (os : Os) (args : Array Value) : ((laidWorld os).forCall (fun _ _ => 0) ⟨#[], args, []⟩).variablesRefB Tryz.prog = true := by kernel_rfl
theorem restT (os : Os) (args : Array Value) : ((((laidWorld os).forCall (fun _ _ => 0) ⟨#[], args, []⟩).heap.toList.drop Tryz.prog.globals.size).take ((begin Tryz.prog (fun _ _ => 0) default).world.heap.size - Tryz.prog.globals.size)) =
    (begin Tryz.prog (fun _ _ => 0) default).world.heap.toList.drop Tryz.prog.globals.size := by kernel_rfl
end Go.Proofs.YtppccacfdpkkgaaGreatDoor
