/-
  THE FRAME OF EVERY PROOF OF THIS SEAT: the row's list gives 'Tabs'; a world that meets the list, for the witness; the post from a walk that returns true and leaves old memory alone.
-/
import Derived.Test.YtoclgcneclbfiaaDoorCards
import Derived.Test.YtoclgcneclbfiaaDoorTie
import Derived.Test.YtoclgcneclbfiaaDoorTabs
import Derived.WalkKit
import Derived.ProofKit
import Derived.OpenShut
import Derived.Deep.DeepHandedRow
import Derived.Deep.DeepWitnessRowRef
import Derived.Lib.LaidTab
import Derived.LaidMore
import Derived.ShutString
import Derived.Stop.LaidErr
import Derived.MakeChecks
namespace Go.Proofs.YtoclgcneclbfiaaDoor
open Go.ChangeShapes Go.WideShapes Go.ChangeAt Go.ChangeMaps Go.RowKit

theorem own : ownKnob Tryd.prog.godebug = none := by kernel_rfl
theorem lays : laidOutB Tryd.prog = true := by kernel_rfl
theorem gNames : Tryd.prog.globalNamed "quintadena/words.names" = some 0 := by kernel_rfl
theorem gSteps : Tryd.prog.globalNamed "quintadena/words.steps" = some 1 := by kernel_rfl
theorem gPow : Tryd.prog.globalNamed "internal/strconv.uint64pow10" = some 5 := by kernel_rfl
theorem yNames : (Tryd.prog.globals[0]?).map (·.type) = some 62 := by kernel_rfl
theorem ySteps : (Tryd.prog.globals[1]?).map (·.type) = some 65 := by kernel_rfl
theorem yPow : (Tryd.prog.globals[5]?).map (·.type) = some 132 := by kernel_rfl
theorem c62 : Tryd.prog.cellsOf 62 = 12 := by kernel_rfl
theorem c65 : Tryd.prog.cellsOf 65 = 7 := by kernel_rfl
theorem c132 : Tryd.prog.cellsOf 132 = 20 := by kernel_rfl
theorem c9 : Tryd.prog.cellsOf 9 = 1 := by kernel_rfl
theorem c3 : Tryd.prog.cellsOf 3 = 1 := by kernel_rfl
theorem c110 : Tryd.prog.cellsOf 110 = 1 := by kernel_rfl

/-- An array of strings that reads as a list of texts holds them, cell for cell. -/
theorem cells_of_strs {H : Type} {enc : TypeId × Value → H} {P : Program} {w : World} {base : Nat} {sp : Nat → Bool} {held : Bool} {fuel : Nat} {t e : TypeId} {n : Nat} {cs : List Value} {zs : List (List UInt8)} {p : List MemPlace}
    (ht : P.underlying t = some (.array n e)) (he : P.underlying e = some .string) (hce : P.cellsOf e = 1) (hct : P.cellsOf t = n)
    (h : DataW.trod enc P w base sp held fuel t cs = some (.agg (zs.map fun z => .lit (.string z)), p)) : cs = zs.map fun z => Value.string ⟨z.toArray⟩ := by
  cases fuel with
  | zero => simp [DataW.trod] at h
  | succ fuel =>
    simp only [DataW.trod, ht, hce, hct, Nat.mul_one] at h
    split at h
    · rename_i hl
      obtain ⟨xs, hm, hx⟩ := Option.map_eq_some_iff.1 h
      have hxs : xs.map (·.1) = zs.map fun z => (DataW.lit (.string z) : DataW H) := by
        have := congrArg Prod.fst hx
        simpa using this
      have hxl : xs.length = n := by simpa using Lib.mapM_length hm
      have hzl : zs.length = n := by
        have := congrArg List.length hxs
        simp at this
        omega
      apply List.ext_getElem?
      intro i
      by_cases hi : i < n
      · obtain ⟨b, hb, hf⟩ := Lib.mapM_at hm i i (by simp [hi])
        obtain ⟨z, hc, rfl, _⟩ := DataW.trod_string he hf
        have h1 : cs[i]? = some (.string z) := by
          have := congrArg (·[0]?) hc
          simpa [List.getElem?_take, List.getElem?_drop] using this
        have h2 : (xs.map (·.1))[i]? = some (DataW.lit (.string z.data.toList) : DataW H) := by simp [hb]
        rw [hxs] at h2
        simp only [List.getElem?_map, Option.map_eq_some_iff, DataW.lit.injEq, Lit.string.injEq] at h2
        obtain ⟨z', hz', rfl⟩ := h2
        simp [h1, hz']
      · rw [List.getElem?_eq_none (by omega), List.getElem?_eq_none (by simp; omega)]
    · cases h

def nameList : List (List UInt8) := [[99], [99, 35], [100], [100, 35], [101], [102], [102, 35], [103], [103, 35], [97], [97, 35], [98]]
def stepList : List Int := [9, 11, 0, 2, 4, 5, 7]

/-- WHAT THE ROW's LIST AND THE WORLD's SHAPE GIVE. -/
theorem tabs_of {W : World} {r1 r2 r3 : List (String × DataW Unit)}
    (h1 : laidMet Tryd.prog (("internal/strconv.uint64pow10", Lib.tabData .u64 Lib.pow10Tab) :: r1) W)
    (h2 : laidMet Tryd.prog (("quintadena/words.names", .agg (nameList.map fun z => .lit (.string z))) :: r2) W)
    (h3 : laidMet Tryd.prog (("quintadena/words.steps", Lib.tabData .i64 stepList) :: r3) W) (hs : W.ShapedOpen Tryd.prog) : Tabs W where
  pow := Lib.tabIs_of_head gPow yPow Tryd.underlying132 Tryd.underlying110 c110 c132 h1
  names := by
    obtain ⟨ps, ⟨g', t', cs, fuel, p, q, hg', ht', hvar, hd, _, _⟩, _⟩ := h2
    obtain rfl := Option.some.inj (gNames.symm.trans hg')
    obtain rfl := Option.some.inj (yNames.symm.trans ht')
    have := cells_of_strs Tryd.underlying62 Tryd.underlying9 c9 c62 hd
    intro i hi
    rw [World.var?_cell gNames hvar i]
    have e : cs[i]? = cs.toList[i]? := by simp
    rw [e, this]
    exact (show ∀ i : Fin 12, (nameList.map fun z => Value.string ⟨z.toArray⟩)[i.val]? = some (.string (nm i.val)) by intro i; match i with
      | 0 => rfl | 1 => rfl | 2 => rfl | 3 => rfl | 4 => rfl | 5 => rfl | 6 => rfl | 7 => rfl | 8 => rfl | 9 => rfl | 10 => rfl | 11 => rfl) ⟨i, hi⟩
  steps i hi := (Lib.tabIs_of_head gSteps ySteps Tryd.underlying65 Tryd.underlying3 c3 c65 h3).cell gSteps i hi
  mlen := Go.Proofs.cell_of_shapedOpen_int (zero := #[.int .i64 0]) (t := 3) hs (of_decide_eq_true (by kernel_rfl)) (by kernel_rfl) rfl (by kernel_rfl) (by kernel_rfl) Tryd.underlying3

theorem u8_bounds {a : Int} (h : (Lit.int .u8 a).wf = true) : 0 ≤ a ∧ a < 256 := by
  have h2 : IntKind.u8.min ≤ a ∧ a ≤ IntKind.u8.max := by simpa only [Lit.wf, Bool.and_eq_true, decide_eq_true_eq] using h
  have e1 : IntKind.u8.min = 0 := rfl
  have e2 : IntKind.u8.max = 255 := rfl
  omega
theorem i64_bounds {a : Int} (h : (Lit.int .i64 a).wf = true) : -9223372036854775808 ≤ a ∧ a ≤ 9223372036854775807 := by
  have h2 : IntKind.i64.min ≤ a ∧ a ≤ IntKind.i64.max := by simpa only [Lit.wf, Bool.and_eq_true, decide_eq_true_eq] using h
  have e1 : IntKind.i64.min = -9223372036854775808 := rfl
  have e2 : IntKind.i64.max = 9223372036854775807 := rfl
  omega
/-- The list of seven of the rows; the list of the other three. -/
def list7 : List (String × DataW Unit) := Rows.wordsAlikeRow.laid
def list9 : List (String × DataW Unit) := Rows.wordsFeetRow.laid
theorem tabs7 {W : World} (h : laidMetH Tryd.prog list7 W) (hs : W.ShapedOpen Tryd.prog) : Tabs W := by
  rw [MakeChecks.laidMetH_plain _ _ _ (by kernel_rfl)] at h
  have h1 := h.tail.tail
  have h2 := h1.tail.tail
  exact tabs_of h1 h2 h2.tail hs
theorem tabs9 {W : World} (h : laidMetH Tryd.prog list9 W) (hs : W.ShapedOpen Tryd.prog) : Tabs W := by
  rw [MakeChecks.laidMetH_plain _ _ _ (by kernel_rfl)] at h
  have h1 := h.tail.tail
  have h2 := h1.tail.tail.tail.tail
  exact tabs_of h1 h2 h2.tail hs

/-- The integers of an array, as values. -/
def intsOf : DataW Unit → Array Value
  | .agg ds => (ds.map fun | .lit (.int k n) => Value.int k n | _ => .int .u8 0).toArray
  | _ => #[]
/-- A WORLD FOR THE WITNESS: the door's own run, and Go's table of first bytes laid. -/
noncomputable def laidWorld (os : Os) : World :=
  { World.doorLaid Tryd.prog 80 os with heap := (World.doorLaid Tryd.prog 80 os).heap.modify 6 fun
      | .cells _ t frozen => .cells (intsOf Go.Pinned.utf8First) t frozen
      | o => o }
theorem met7 (os : Os) (args : Array Value) : laidMet Tryd.prog list7 ((laidWorld os).forCall (fun _ _ => 0) ⟨#[], args, []⟩).memory :=
  laidMet_of_run' 8 (by kernel_rfl) (by kernel_rfl)
theorem met9 (os : Os) (args : Array Value) : laidMet Tryd.prog list9 ((laidWorld os).forCall (fun _ _ => 0) ⟨#[], args, []⟩).memory :=
  laidMet_of_run' 8 (by kernel_rfl) (by kernel_rfl)
theorem metH7 (os : Os) (args : Array Value) : laidMetH Tryd.prog list7 ((laidWorld os).forCall (fun _ _ => 0) ⟨#[], args, []⟩).memory := by
  rw [MakeChecks.laidMetH_plain _ _ _ (by kernel_rfl)]
  exact met7 os args
theorem metH9 (os : Os) (args : Array Value) : laidMetH Tryd.prog list9 ((laidWorld os).forCall (fun _ _ => 0) ⟨#[], args, []⟩).memory := by
  rw [MakeChecks.laidMetH_plain _ _ _ (by kernel_rfl)]
  exact met9 os args
theorem has7 (os : Os) (args : Array Value) : ((laidWorld os).forCall (fun _ _ => 0) ⟨#[], args, []⟩).variablesRefB Tryd.prog = true := by kernel_rfl
theorem rest7 (os : Os) (args : Array Value) : ((((laidWorld os).forCall (fun _ _ => 0) ⟨#[], args, []⟩).heap.toList.drop Tryd.prog.globals.size).take ((begin Tryd.prog (fun _ _ => 0) default).world.heap.size - Tryd.prog.globals.size)) =
    (begin Tryd.prog (fun _ _ => 0) default).world.heap.toList.drop Tryd.prog.globals.size := by kernel_rfl
end Go.Proofs.YtoclgcneclbfiaaDoor
