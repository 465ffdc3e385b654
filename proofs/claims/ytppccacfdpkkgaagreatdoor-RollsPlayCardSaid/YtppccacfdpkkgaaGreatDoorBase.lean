/-
  SMALL WORDS that the contracts share.
-/
import Derived.Test.YtppccacfdpkkgaaGreatDoorTabs
import Derived.Test.YtppccacfdpkkgaaGreatDoorBlk
namespace Go.Proofs.YtppccacfdpkkgaaGreatDoor
open Go.RowKit
theorem ret_tup {a b : Value} {x y : ByteArray} (h : x = y) (h2 : a = b) : Ending.returned (.tuple #[.string x, a]) = .returned (.tuple #[.string y, b]) := by rw [h, h2]
theorem below_step {w a b : World} (h : Below w.heap.size w a) (hb : Below a.heap.size a b) : Below w.heap.size w b := h.trans (hb.mono h.size)
end Go.Proofs.YtppccacfdpkkgaaGreatDoor
