/-
  THE FRAME OF EVERY PROOF OF THIS SEAT: the row's list gives 'Tabs'; a world that meets the list, for the witness; arguments that are specifications.
-/
import Derived.Test.YtppccacfdpkkgaaDoorCards
import Derived.Test.YtppccacfdpkkgaaDoorTie
import Derived.Test.YtppccacfdpkkgaaDoorTabs
import Derived.Test.YtppccacfdpkkgaaDoorOpenS
import Derived.WalkKit
import Derived.ProofKit
import Derived.OpenShut
import Derived.Deep.DeepHandedRow
import Derived.Deep.DeepWitnessRowRef
import Derived.Lib.LaidTab
import Derived.LaidMore
import Derived.ShutString
import Derived.Stop.LaidErr
import Derived.MakeChecks
namespace Go.Proofs.YtppccacfdpkkgaaDoor
open Go.ChangeShapes Go.WideShapes Go.ChangeAt Go.ChangeMaps Go.RowKit

theorem own : ownKnob Tryd.prog.godebug = none := by kernel_rfl
theorem lays : laidOutB Tryd.prog = true := by kernel_rfl
theorem gPow : Tryd.prog.globalNamed "internal/strconv.uint64pow10" = some 1 := by kernel_rfl
theorem yPow : (Tryd.prog.globals[1]?).map (·.type) = some 190 := by kernel_rfl
theorem cPow : Tryd.prog.cellsOf 190 = 20 := by kernel_rfl
theorem cPow1 : Tryd.prog.cellsOf 76 = 1 := by kernel_rfl

theorem u8_bounds {a : Int} (h : (Lit.int .u8 a).wf = true) : 0 ≤ a ∧ a < 256 := by
  have h2 : IntKind.u8.min ≤ a ∧ a ≤ IntKind.u8.max := by simpa only [Lit.wf, Bool.and_eq_true, decide_eq_true_eq] using h
  have e1 : IntKind.u8.min = 0 := rfl
  have e2 : IntKind.u8.max = 255 := rfl
  omega
theorem i64_bounds {a : Int} (h : (Lit.int .i64 a).wf = true) : -9223372036854775808 ≤ a ∧ a ≤ 9223372036854775807 := wf_i64 h
/-- The rows' list. -/
def listT : List (String × DataW Unit) := Rows.rollsWeakRow.laid
theorem tabsT {W : World} (h : laidMetH Tryd.prog listT W) : Tabs W where
  pow := by
    rw [MakeChecks.laidMetH_plain _ _ _ (by kernel_rfl)] at h
    exact Lib.tabIs_of_head gPow yPow Tryd.underlying190 Tryd.underlying76 cPow1 cPow (h.tail.tail)
/-- A WORLD FOR THE WITNESS: the door's own run. -/
noncomputable def laidWorld (os : Os) : World := World.doorLaid Tryd.prog 80 os
theorem metT (os : Os) (args : Array Value) : laidMet Tryd.prog listT ((laidWorld os).forCall (fun _ _ => 0) ⟨#[], args, []⟩).memory :=
  laidMet_of_run' 8 (by kernel_rfl) (by kernel_rfl)
theorem hasO (os : Os) (args : Array Value) : ((laidWorld os).forCall (fun _ _ => 0) ⟨#[], args, []⟩).variablesRefB Tryd.prog = true := by kernel_rfl
theorem restT (os : Os) (args : Array Value) : ((((laidWorld os).forCall (fun _ _ => 0) ⟨#[], args, []⟩).heap.toList.drop Tryd.prog.globals.size).take ((begin Tryd.prog (fun _ _ => 0) default).world.heap.size - Tryd.prog.globals.size)) =
    (begin Tryd.prog (fun _ _ => 0) default).world.heap.toList.drop Tryd.prog.globals.size := by kernel_rfl
end Go.Proofs.YtppccacfdpkkgaaDoor
