/-
  PLAIN: fields and lines: what a field is; how a line falls into pieces. No program in sight.
-/
import Derived.Test.YtoclgcneclbfiaaDoorPlainQ
import Derived.Lib.Bytealg
import Derived.Lib.IndexLaws
namespace Go.Proofs.YtoclgcneclbfiaaDoor
open Go.RowKit

/-- A byte of a bare field; a bare field; a field. -/
def bareU (c : UInt8) : Bool := prB 33 c && decide (c ≠ 34)
def bareB (l : List UInt8) : Bool := decide (1 ≤ l.length) && decide (l.length ≤ 200) && l.all bareU
def rightB (q : Bool) (l : List UInt8) : Bool := if q then textB l else bareB l
theorem bareB_eq (l : List UInt8) : bareB l = (decide (1 ≤ l.length) && decide (l.length ≤ 200) && printedB 33 l && !decide (0 ≤ Lib.indexByte l 34)) := by
  have h : l.all bareU = (printedB 33 l && !decide (0 ≤ Lib.indexByte l 34)) := by
    have hi : (0 ≤ Lib.indexByte l 34) ↔ (34 : UInt8) ∈ l := by
      constructor
      · intro h
        obtain ⟨o, ho⟩ : ∃ o : Nat, Lib.indexByte l 34 = o := ⟨(Lib.indexByte l 34).toNat, by omega⟩
        exact List.mem_of_getElem? (Lib.indexByte_some ho).1
      · intro h
        by_cases hn : Lib.indexByte l 34 < 0
        · have hm : Lib.indexByte l 34 = -1 := by have := Lib.indexByte_ge l 34; omega
          obtain ⟨k, hk⟩ := List.mem_iff_getElem?.1 h
          exact absurd hk (Lib.indexByte_none hm k)
        · omega
    rw [Bool.eq_iff_iff]
    simp only [Bool.and_eq_true, Bool.not_eq_true', decide_eq_false_iff_not, hi, printedB, List.all_eq_true, bareU, decide_eq_true_eq]
    constructor
    · exact fun h => ⟨fun x hx => (h x hx).1, fun hm => (h 34 hm).2 rfl⟩
    · exact fun h x hx => ⟨h.1 x hx, fun e => h.2 (e ▸ hx)⟩
  unfold bareB
  rw [h]; simp only [Bool.and_assoc]
end Go.Proofs.YtoclgcneclbfiaaDoor
