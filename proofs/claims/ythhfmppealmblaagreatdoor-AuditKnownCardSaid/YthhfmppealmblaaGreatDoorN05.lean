/-
  A part of the proof: DD.
-/
import Derived.Test.YthhfmppealmblaaGreatDoorN03
import Derived.Test.YthhfmppealmblaaGreatDoorN04
import Derived.Deep.QuietTactic
import Derived.BigQuiet
namespace Go.Proofs.YthhfmppealmblaaGreatDoor
open Go.RowKit
end Go.Proofs.YthhfmppealmblaaGreatDoor
