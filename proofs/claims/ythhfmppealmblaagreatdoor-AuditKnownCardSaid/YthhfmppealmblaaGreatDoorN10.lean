/-
  A part of the proof: AE5.
-/
import Derived.Test.YthhfmppealmblaaGreatDoorN09
namespace Go.Proofs.YthhfmppealmblaaGreatDoor
open Go.RowKit
end Go.Proofs.YthhfmppealmblaaGreatDoor
