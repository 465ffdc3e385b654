/-
  A part of the proof: AK2.
-/
import Derived.Test.YthhfmppealmblaaGreatDoorM21
import Derived.Test.YthhfmppealmblaaGreatDoorM35
import Derived.Deep.RegionLaw
namespace Go.Proofs.YthhfmppealmblaaGreatDoor
open Go.RowKit
end Go.Proofs.YthhfmppealmblaaGreatDoor
