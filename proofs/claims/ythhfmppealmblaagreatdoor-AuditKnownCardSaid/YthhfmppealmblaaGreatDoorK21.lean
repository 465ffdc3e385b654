/-
  A part of the proof: AK4.
-/
import Derived.Test.YthhfmppealmblaaGreatDoorK20
namespace Go.Proofs.YthhfmppealmblaaGreatDoor
open Go.RowKit
theorem row_form {W:World} {base:Nat} {t:TypeId} {k n:Nat} {v:Value} {xs:List Value} (h:W.ownsRow base t k v n xs):∃ a n c,v = .slice a n c:=by
 rcases h.2 with ⟨rfl,_⟩ | ⟨g,cap,cur,rfl,_⟩
 ·exact ⟨_,_,_,rfl⟩
 ·exact ⟨_,_,_,rfl⟩
theorem audE_parts {S:Sp} {l:List Ev} (h:audE S l=0):(checkP S).2=0∧(recE S l).2=0:=by
 unfold audE at h
 split at h
 ·rename_i q
  split at h
  ·rename_i q2
   exact ⟨q,q2⟩
  ·cases h
 ·rename_i q
  exact absurd h q
end Go.Proofs.YthhfmppealmblaaGreatDoor
