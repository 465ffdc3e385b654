/-
  A part of the proof: KF.
-/
import Derived.StillTailTactics
import Derived.OwnWalkIn
import Derived.RangeFuncCalls
import Derived.OrdersIn
import Derived.StillTail
import Derived.Below
namespace Go.Proofs.YthhfmppealmblaaGreatDoor
open Go.RowKit
theorem wpIn_normal {F:Fence} {n:Nat} {P:Program} {c:Code} {Q:Exit→Act→World→Prop} {a:Act} {w:World} (h:c.wpIn F n P (Exit.then (fun a w=>Q .normal a w) (fun _ _ _=>False)) a w):c.wpIn F n P Q a w:=by
 refine wpIn_mono h ?_
 intro e a' w' hq
 cases e with
 | normal=>exact hq
 | exit id=>exact hq.elim
 | goto l=>exact hq.elim
 | ret=>exact hq.elim
 | panic ch=>exact hq.elim
 | outgrown=>exact hq.elim
theorem operIn_round {n l:Nat} {P:Program} {o:Oper} {a:Act} {w:World} {K:Act→World→Prop} {Q:Exit→Act→World→Prop} (hd:∀ c,o.op ≠ .defer c) (h:o.wp P a w K Q):o.wpIn (Fence.wide.inRound l) n P a w K Q:=by
 refine ⟨fun f _=>trivial,?_⟩
 rw [show (Fence.wide.inRound l).round=some l from rfl,Oper.semAt_some l _ _ hd]
 unfold Oper.wp at h
 generalize (execOp a.eval o).run P w=r at h
 cases r with
 | ok x w' =>
  cases x with
  | value v=>exact h
  | skip=>exact h
  | defer d=>exact h
  | enter f args=>exact ⟨fun hx=>(by cases hx),(callsIn_wide.2 h).inRound l⟩
  | row row args=>exact ⟨fun hx=>(by cases hx),fun c cs _=>by
    obtain ⟨v,w'',hr,hs⟩:=h c cs
    exact ⟨v,w'',hr,stepsIn_wide.2 hs⟩⟩
  | _=>exact h.elim
 | halt x w' =>
  cases x with
  | panic v=>exact h
  | _=>exact h.elim
def plainOp (o:Oper):Bool:=match o.op with
 | .defer _=>false
 | _=>true
theorem plainOp_is {o:Oper} (h:plainOp o=true):∀ c,o.op ≠ .defer c:=by
 intro c e
 unfold plainOp at h
 rw [e] at h
 cases h
def upd (x:Nat→Value) (d:Nat) (v:Value):Nat→Value:=fun n=>if n=d then v else x n
theorem upd_same (x:Nat→Value) (d:Nat) (v:Value):upd x d v d=v:=if_pos rfl
theorem upd_other (x:Nat→Value) {d n:Nat} (v:Value) (h:n≠d):upd x d v n=x n:=if_neg h
def backB (md:Region.Mode) (ops:Array Oper):Bool:=(List.range ops.size).all fun i=>match ops[i]? with
 | some o=>o.after.all fun e=>!Region.binds md e || decide (e.on<i)
 | none=>true
theorem backB_spec {md:Region.Mode} {ops:Array Oper} (h:backB md ops=true) {i:Nat} {o:Oper} (ho:ops[i]?=some o):∀ e∈o.after,Region.binds md e=true→e.on<i:=by
 have hi:i<ops.size:=(Array.getElem?_eq_some_iff.1 ho).1
 have h1:=List.all_eq_true.1 h i (List.mem_range.2 hi)
 simp only [ho] at h1
 intro e he hb
 have h2:=Array.all_eq_true_iff_forall_mem.1 h1 e he
 simp only [hb,Bool.not_true,Bool.false_or,decide_eq_true_eq] at h2
 exact h2
def apartB (ops:Array Oper):Bool:=(List.range ops.size).all fun i=>(List.range ops.size).all fun j=>decide (i=j) || match ops[i]?.bind (·.dst),ops[j]?.bind (·.dst) with
 | some a,some b=>decide (a≠b)
 | _,_=>true
theorem apartB_spec {ops:Array Oper} (h:apartB ops=true) {i j:Nat} {o o':Oper} {d d':Nat} (hi:ops[i]?=some o) (hj:ops[j]?=some o') (hd:o.dst=some d) (hd':o'.dst=some d') (hne:i≠j):d≠d':=by
 have h1:=List.all_eq_true.1 (List.all_eq_true.1 h i (List.mem_range.2 (Array.getElem?_eq_some_iff.1 hi).1)) j (List.mem_range.2 (Array.getElem?_eq_some_iff.1 hj).1)
 rw [hi,hj] at h1
 simp only [Option.bind_some,hd,hd',Bool.or_eq_true,decide_eq_true_eq] at h1
 rcases h1 with h1 | h1
 ·exact absurd h1 hne
 ·exact h1
section
variable {P : Program} {md : Region.Mode} {ops : Array Oper} {Q : Exit → Act → World → Prop}
structure FlowInv (ops:Array Oper) (Res:Nat→Value→World→Prop) (w0:World) (listed:Array Bool) (x:Nat→Value) (w:World):Prop where
 b:Below w0.heap.size w0 w
 res:∀ (i:Nat) (o:Oper) (d:Nat),ops[i]?=some o→o.dst=some d→listed.getD i false=true→Res i (x d) w
theorem flow_go (F:(Nat→Value)→Act) (Res:Nat→Value→World→Prop) (w0:World) (hback:backB md ops=true) (hapart:apartB ops=true)
  (mono:∀ i v w w',Res i v w→Below w.heap.size w w'→Res i v w')
  (hput:∀ (i:Nat) (o:Oper) (d:Nat),ops[i]?=some o→o.dst=some d→∀ x v,(F x).put (some d) v=F (upd x d v))
  (step:∀ (i:Nat) (o:Oper),ops[i]?=some o→∀ x w,Below w0.heap.size w0 w→(∀ j,Region.waitsFor md ops i j=true→∀ (o':Oper) (d':Nat),ops[j]?=some o'→o'.dst=some d'→Res j (x d') w) →
   ∀ K:Act→World→Prop,(∀ v w',Below w.heap.size w w'→Res i v w'→K ((F x).put o.dst v) w')→wpOp P ops Q i K (F x) w)
  (done:∀ x w,Below w0.heap.size w0 w→(∀ (i:Nat) (o:Oper) (d:Nat),ops[i]?=some o→o.dst=some d→Res i (x d) w)→Q .normal (F x) w) :
  ∀ (fuel:Nat) (U:List Nat) (listed:Array Bool) (x:Nat→Value) (w:World),listed.size=ops.size→U.length≤fuel→(∀ i,i<ops.size→listed.getD i false=true∨i∈U)→FlowInv ops Res w0 listed x w→wpAny P md ops Q fuel listed (F x) w:=by
 have all_done:∀ (listed:Array Bool) (x:Nat→Value) (w:World),(∀ i,i<ops.size→listed.getD i false=true)→FlowInv ops Res w0 listed x w→Q .normal (F x) w:=fun listed x w hall hI =>
  done x w hI.b fun i o d ho hd=>hI.res i o d ho hd (hall i (Array.getElem?_eq_some_iff.1 ho).1)
 have none_left:∀ (listed:Array Bool),listed.size=ops.size→Region.ready md ops listed=[]→∀ i,i<ops.size→listed.getD i false=true:=by
  intro listed hsz hr i
  induction i using Nat.strongRecOn with
  | _ i ih =>
   intro hi
   cases hl:listed.getD i false with
   | true=>rfl
   | false =>
    have hm:i∈Region.ready md ops listed:=by
     obtain ⟨o,ho⟩:∃ o,ops[i]?=some o:=⟨ops[i],Array.getElem?_eq_getElem hi⟩
     exact mem_ready.2 ⟨getD_in (by rw [hsz];exact hi) hl,o,ho,fun e he hb=>by
      have hlt:=backB_spec hback ho e he hb
      exact ih e.on hlt (by omega)⟩
    rw [hr] at hm
    cases hm
 intro fuel
 induction fuel with
 | zero =>
  intro U listed x w hsz hU hL hI
  have hU0:U=[]:=List.length_eq_zero_iff.1 (Nat.le_zero.1 hU)
  subst hU0
  have hall:∀ i,i<ops.size→listed.getD i false=true:=fun i hi=>(hL i hi).resolve_right (by simp)
  refine ⟨?_,all_done listed x w hall hI⟩
  cases hr:Region.ready md ops listed with
  | nil=>rfl
  | cons j rest =>
   obtain ⟨h1,o,ho,_⟩:=mem_ready.1 (by rw [hr];exact List.mem_cons_self:j∈Region.ready md ops listed)
   have:=hall j (Array.getElem?_eq_some_iff.1 ho).1
   rw [getD_both h1] at this
   cases this
 | succ fuel ih =>
  intro U listed x w hsz hU hL hI
  refine ⟨fun hr=>all_done listed x w (none_left listed hsz hr) hI,fun i hi=>?_⟩
  obtain ⟨hun,o,ho,hall⟩:=mem_ready.1 hi
  have hil:i<ops.size:=(Array.getElem?_eq_some_iff.1 ho).1
  have hiU:i∈U:=(hL i hil).resolve_left (by rw [getD_both hun];simp)
  refine step i o ho x w hI.b (fun j hw o' d' ho' hd'=>?_) _ ?_
  ·obtain ⟨oi,hoi,e,he,hb,hon⟩:=Region.waitsFor_spec hw
   have:oi=o:=Option.some.inj (hoi.symm.trans ho)
   subst this
   exact hI.res j o' d' ho' hd' (by rw [← hon];exact hall e he hb)
  ·intro v w' hb hres
   have hset:∀ j,j≠i→(listed.setIfInBounds i true).getD j false=listed.getD j false:=fun j hj=>getD_set_ne false (fun e=>hj e.symm)
   have hL':∀ j,j<ops.size→(listed.setIfInBounds i true).getD j false=true∨j∈U.erase i:=fun j hj=>by
    by_cases e:j=i
    ·subst e
     left
     rw [Array.getD_eq_getD_getElem?,Array.getElem?_setIfInBounds_self_of_lt (by rw [hsz];exact hil)]
     rfl
    ·rcases hL j hj with h | h
     ·exact .inl (by rw [hset j e];exact h)
     ·exact .inr ((List.mem_erase_of_ne e).2 h)
   have hlen:(U.erase i).length≤fuel:=by rw [List.length_erase_of_mem hiU];omega
   cases hd:o.dst with
   | none =>
    rw [show (F x).put none v=F x from rfl]
    refine ih (U.erase i) _ x w' (by simpa using hsz) hlen hL' ⟨hI.b.trans (hb.mono hI.b.size),fun j o' d' ho' hd' hlj=>?_⟩
    by_cases e:j=i
    ·subst e
     have:o'=o:=Option.some.inj (ho'.symm.trans ho)
     subst this
     rw [hd] at hd'
     cases hd'
    ·rw [hset j e] at hlj
     exact mono j _ w w' (hI.res j o' d' ho' hd' hlj) hb
   | some d =>
    rw [hput i o d ho hd]
    refine ih (U.erase i) _ _ w' (by simpa using hsz) hlen hL' ⟨hI.b.trans (hb.mono hI.b.size),fun j o' d' ho' hd' hlj=>?_⟩
    by_cases e:j=i
    ·subst e
     have:o'=o:=Option.some.inj (ho'.symm.trans ho)
     subst this
     have:d'=d:=Option.some.inj (hd'.symm.trans hd)
     subst this
     rw [upd_same]
     exact hres
    ·rw [hset j e] at hlj
     rw [upd_other x v (apartB_spec hapart ho' ho hd' hd e)]
     exact mono j _ w w' (hI.res j o' d' ho' hd' hlj) hb
theorem wp_region_flow {id:Nat} (F:(Nat→Value)→Act) (Res:Nat→Value→World→Prop) {a:Act} (x0:Nat→Value) {w:World} (ha:a=F x0) (hm:P.follows .mixedOrders=true) (hback:backB .any ops=true) (hapart:apartB ops=true)
  (mono:∀ i v w w',Res i v w→Below w.heap.size w w'→Res i v w')
  (hput:∀ (i:Nat) (o:Oper) (d:Nat),ops[i]?=some o→o.dst=some d→∀ x v,(F x).put (some d) v=F (upd x d v))
  (step:∀ (i:Nat) (o:Oper),ops[i]?=some o→∀ x w',Below w.heap.size w w'→(∀ j,Region.waitsFor .any ops i j=true→∀ (o':Oper) (d':Nat),ops[j]?=some o'→o'.dst=some d'→Res j (x d') w') →
   ∀ K:Act→World→Prop,(∀ v w2,Below w'.heap.size w' w2→Res i v w2→K ((F x).put o.dst v) w2)→wpOp P ops Q i K (F x) w')
  (done:∀ x w',Below w.heap.size w w'→(∀ (i:Nat) (o:Oper) (d:Nat),ops[i]?=some o→o.dst=some d→Res i (x d) w')→Q .normal (F x) w'):(Code.region id ops true).wp P Q a w:=by
 subst ha
 refine wp_region_any hm ?_
 refine flow_go F Res w hback hapart mono hput step done ops.size (List.range ops.size) _ x0 _ (by simp) (by simp) (fun i hi => .inr (List.mem_range.2 hi)) ⟨(Below.refl w.heap.size w).drew,fun i o d _ _ hl=>?_⟩
 rw [getD_replicate_false] at hl
 cases hl
end
theorem wp_plain {P:Program} {c:Code} {K:Act→World→Prop} {Q':Exit→Act→World→Prop} {a:Act} {w:World} (h:c.wp P (Exit.then K (fun _ _ _=>False)) a w):c.wp P (Exit.then K Q') a w:=by
 refine Code.wp_mono ?_ h
 intro e a' w' hq
 cases e with
 | normal=>exact hq
 | exit id=>exact hq.elim
 | goto l=>exact hq.elim
 | ret=>exact hq.elim
 | panic ch=>exact hq.elim
 | outgrown=>exact hq.elim
end Go.Proofs.YthhfmppealmblaaGreatDoor
