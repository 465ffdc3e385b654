/-
  A part of the proof: KF.
-/
import Derived.StillTailTactics
import Derived.OwnWalkIn
import Derived.RangeFuncCalls
import Derived.OrdersIn
import Derived.StillTail
import Derived.Below
namespace Go.Proofs.YthhfmppealmblaaGreatDoor
open Go.RowKit
theorem wpIn_normal {F:Fence} {n:Nat} {P:Program} {c:Code} {Q:Exit→Act→World→Prop} {a:Act} {w:World} (h:c.wpIn F n P (Exit.then (fun a w=>Q .normal a w) (fun _ _ _=>False)) a w):c.wpIn F n P Q a w:=by
 refine wpIn_mono h ?_
 intro e a' w' hq
 cases e with
 | normal=>exact hq
 | exit id=>exact hq.elim
 | goto l=>exact hq.elim
 | ret=>exact hq.elim
 | panic ch=>exact hq.elim
 | outgrown=>exact hq.elim
theorem operIn_round {n l:Nat} {P:Program} {o:Oper} {a:Act} {w:World} {K:Act→World→Prop} {Q:Exit→Act→World→Prop} (hd:∀ c,o.op ≠ .defer c) (h:o.wp P a w K Q):o.wpIn (Fence.wide.inRound l) n P a w K Q:=by
 refine ⟨fun f _=>trivial,?_⟩
 rw [show (Fence.wide.inRound l).round=some l from rfl,Oper.semAt_some l _ _ hd]
 unfold Oper.wp at h
 generalize (execOp a.eval o).run P w=r at h
 cases r with
 | ok x w' =>
  cases x with
  | value v=>exact h
  | skip=>exact h
  | defer d=>exact h
  | enter f args=>exact ⟨fun hx=>(by cases hx),(callsIn_wide.2 h).inRound l⟩
  | row row args=>exact ⟨fun hx=>(by cases hx),fun c cs _=>by
    obtain ⟨v,w'',hr,hs⟩:=h c cs
    exact ⟨v,w'',hr,stepsIn_wide.2 hs⟩⟩
  | _=>exact h.elim
 | halt x w' =>
  cases x with
  | panic v=>exact h
  | _=>exact h.elim
def plainOp (o:Oper):Bool:=match o.op with
 | .defer _=>false
 | _=>true
theorem plainOp_is {o:Oper} (h:plainOp o=true):∀ c,o.op ≠ .defer c:=by
 intro c e
 unfold plainOp at h
 rw [e] at h
 cases h
def upd (x:Nat→Value) (d:Nat) (v:Value):Nat→Value:=fun n=>if n=d then v else x n
theorem upd_same (x:Nat→Value) (d:Nat) (v:Value):upd x d v d=v:=if_pos rfl
theorem upd_other (x:Nat→Value) {d n:Nat} (v:Value) (h:n≠d):upd x d v n=x n:=if_neg h
def backB (md:Region.Mode) (ops:Array Oper):Bool:=(List.range ops.size).all fun i=>match ops[i]? with
 | some o=>o.after.all fun e=>!Region.binds md e || decide (e.on<i)
 | none=>true
theorem backB_spec {md:Region.Mode} {ops:Array Oper} (h:backB md ops=true) {i:Nat} {o:Oper} (ho:ops[i]?=some o):∀ e∈o.after,Region.binds md e=true→e.on<i:=by
 have hi:i<ops.size:=(Array.getElem?_eq_some_iff.1 ho).1
 have h1:=List.all_eq_true.1 h i (List.mem_range.2 hi)
 simp only [ho] at h1
 intro e he hb
 have h2:=Array.all_eq_true_iff_forall_mem.1 h1 e he
 simp only [hb,Bool.not_true,Bool.false_or,decide_eq_true_eq] at h2
 exact h2
def apartB (ops:Array Oper):Bool:=(List.range ops.size).all fun i=>(List.range ops.size).all fun j=>decide (i=j) || match ops[i]?.bind (·.dst),ops[j]?.bind (·.dst) with
 | some a,some b=>decide (a≠b)
 | _,_=>true
theorem apartB_spec {ops:Array Oper} (h:apartB ops=true) {i j:Nat} {o o':Oper} {d d':Nat} (hi:ops[i]?=some o) (hj:ops[j]?=some o') (hd:o.dst=some d) (hd':o'.dst=some d') (hne:i≠j):d≠d':=by
 have h1:=List.all_eq_true.1 (List.all_eq_true.1 h i (List.mem_range.2 (Array.getElem?_eq_some_iff.1 hi).1)) j (List.mem_range.2 (Array.getElem?_eq_some_iff.1 hj).1)
 rw [hi,hj] at h1
 simp only [Option.bind_some,hd,hd',Bool.or_eq_true,decide_eq_true_eq] at h1
 rcases h1 with h1 | h1
 ·exact absurd h1 hne
 ·exact h1
section
variable {P : Program} {md : Region.Mode} {ops : Array Oper} {Q : Exit → Act → World → Prop}
end
end Go.Proofs.YthhfmppealmblaaGreatDoor
