/-
  A part of the proof: W1r, W20.
-/
import Derived.Test.YthhfmppealmblaaGreatDoorN01
namespace Go.Proofs.YthhfmppealmblaaGreatDoor
open Go.RowKit
end Go.Proofs.YthhfmppealmblaaGreatDoor
namespace Go.Proofs.YthhfmppealmblaaGreatDoor
open Go.RowKit
end Go.Proofs.YthhfmppealmblaaGreatDoor
