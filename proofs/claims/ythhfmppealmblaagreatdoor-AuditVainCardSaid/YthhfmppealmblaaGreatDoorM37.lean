/-
  A part of the proof: AK4.
-/
import Derived.Test.YthhfmppealmblaaGreatDoorM36
namespace Go.Proofs.YthhfmppealmblaaGreatDoor
open Go.RowKit
theorem audE_parts {S:Sp} {l:List Ev} (h:audE S l=0):(checkP S).2=0∧(recE S l).2=0:=by
 unfold audE at h
 split at h
 ·rename_i q
  split at h
  ·rename_i q2
   exact ⟨q,q2⟩
  ·cases h
 ·rename_i q
  exact absurd h q
end Go.Proofs.YthhfmppealmblaaGreatDoor
