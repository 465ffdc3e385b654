/-
  A part of the proof: AJ7.
-/
import Derived.Test.YthhfmppealmblaaGreatDoorK16
import Derived.Test.YthhfmppealmblaaGreatDoorK17
import Derived.Test.YthhfmppealmblaaGreatDoorK07
import Derived.Test.YthhfmppealmblaaGreatDoorK02
namespace Go.Proofs.YthhfmppealmblaaGreatDoor
open Go.RowKit
end Go.Proofs.YthhfmppealmblaaGreatDoor
