/-
  A part of the proof: AH9.
-/
import Derived.Test.YthhfmppealmblaaGreatDoorK15
namespace Go.Proofs.YthhfmppealmblaaGreatDoor
open Go.RowKit
end Go.Proofs.YthhfmppealmblaaGreatDoor
