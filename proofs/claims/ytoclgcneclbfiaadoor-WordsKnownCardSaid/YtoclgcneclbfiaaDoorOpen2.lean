/-
  THE FRAME, MORE: what the lists with strconv.ErrRange give; struct arguments.
-/
import Derived.Test.YtoclgcneclbfiaaDoorOpen
import Derived.Test.YtoclgcneclbfiaaDoorW17
import Derived.Lib.SmallJoins
namespace Go.Proofs.YtoclgcneclbfiaaDoor
open Go.ChangeShapes Go.WideShapes Go.ChangeAt Go.ChangeMaps Go.RowKit
theorem gRange : Tryd.prog.globalNamed "strconv.ErrRange" = some 4 := by kernel_rfl
theorem yRange : (Tryd.prog.globals[4]?).map (·.type) = some 81 := by kernel_rfl
theorem c145 : Tryd.prog.cellsOf 145 = 1 := by kernel_rfl
theorem star : "*" ++ "errors.errorString" = "*errors.errorString" := by decide
theorem row143 (u : TypeId) (h : Tryd.prog.typeName? 3 u = some "*errors.errorString") : u = 143 :=
  typeName_ptr_named (nm := "errors.errorString") (by rw [star]; kernel_rfl) (by kernel_rfl) (by decide) u (by rw [star]; exact h)
theorem errV9 {W : World} (h : laidMetH Tryd.prog list9 W) : ErrV W := by
  rw [MakeChecks.laidMetH_plain _ _ _ (by kernel_rfl)] at h
  obtain ⟨a, s, hv, _⟩ := laid_sentinel h.tail.tail.tail.tail gRange yRange Tryd.underlying81 row143 Tryd.underlying143 Tryd.underlying145 rfl rfl Tryd.underlying9 c145 c9
  exact ⟨_, _, by simpa using World.var?_cell gRange hv 0⟩
end Go.Proofs.YtoclgcneclbfiaaDoor
