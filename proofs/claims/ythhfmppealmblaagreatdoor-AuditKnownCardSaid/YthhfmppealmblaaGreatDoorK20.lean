/-
  A part of the proof: AK2.
-/
import Derived.Test.YthhfmppealmblaaGreatDoorK07
import Derived.Test.YthhfmppealmblaaGreatDoorK19
import Derived.Deep.RegionLaw
namespace Go.Proofs.YthhfmppealmblaaGreatDoor
open Go.RowKit
end Go.Proofs.YthhfmppealmblaaGreatDoor
