/-
  A part of the proof: AE4.
-/
import Derived.Test.YthhfmppealmblaaGreatDoorN07
import Derived.Test.YthhfmppealmblaaGreatDoorN08
namespace Go.Proofs.YthhfmppealmblaaGreatDoor
open Go.RowKit
def evR (S:Sp) (tick:Int) (g:Th→Int) (x:Ev):Int :=
 if x.1<tick∨100000000<x.1 then 7 else if evE S x=0 then (if x.2.1≠5∧g (thing x)=x.2.2.2.2 then 8 else 0) else evE S x
theorem evR_tick {S:Sp} {tick:Int} {g:Th→Int} {x:Ev} (h:x.1<tick∨100000000<x.1):evR S tick g x=7:=by unfold evR;rw [if_pos h]
theorem evR_bad {S:Sp} {tick:Int} {g:Th→Int} {x:Ev} (h:¬ (x.1<tick∨100000000<x.1)) {e:Int} (he:evE S x=e) (h0:e≠0):evR S tick g x=e:=by unfold evR;rw [if_neg h,he,if_neg h0]
theorem evR_good {S:Sp} {tick:Int} {g:Th→Int} {x:Ev} (h:¬ (x.1<tick∨100000000<x.1)) (he:evE S x=0):evR S tick g x=if x.2.1≠5∧g (thing x)=x.2.2.2.2 then 8 else 0:=by unfold evR;rw [if_neg h,if_pos he]
end Go.Proofs.YthhfmppealmblaaGreatDoor
