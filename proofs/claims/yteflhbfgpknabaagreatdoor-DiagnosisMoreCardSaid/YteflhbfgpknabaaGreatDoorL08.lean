/-
  A part of the proof: KF,AE4,AE5,AC,AR1,AR2,Held,AR3,AH1,DC,DE,DF,DG,DH,DJ.
-/
import Derived.StillTailTactics
import Derived.OwnWalkIn
import Derived.RangeFuncCalls
import Derived.OrdersIn
import Derived.StillTail
import Derived.Below
import Derived.Test.YteflhbfgpknabaaGreatDoorL07
import Derived.Test.YteflhbfgpknabaaGreatDoorL06
import Derived.Test.YteflhbfgpknabaaGreatDoorL02
import Derived.Maps.AppendAt
import Derived.Lib.AppendZeros
import Derived.Test.YteflhbfgpknabaaGreatDoorL01
import Derived.Deep.RegionLaw
namespace Go.Proofs.YteflhbfgpknabaaGreatDoor
theorem oj {α : Type} {a b : α} (h : some a = some b) : a = b := Option.some.inj h
open Go.RowKit
theorem wpIn_normal {F:Fence} {n:Nat} {P:Program} {c:Code} {Q:Exit→Act→World→Prop} {a:Act} {w:World} (h:c.wpIn F n P (Exit.then (fun a w=>Q .normal a w) (fun _ _ _=>False)) a w):c.wpIn F n P Q a w:=by
 refine wpIn_mono h ?_
 intro e a' w' hq
 cases e with
 | normal=>exact hq
 | exit id=>exact hq.elim
 | goto l=>exact hq.elim
 | ret=>exact hq.elim
 | panic ch=>exact hq.elim
 | outgrown=>exact hq.elim
theorem operIn_round {n l:Nat} {P:Program} {o:Oper} {a:Act} {w:World} {K:Act→World→Prop} {Q:Exit→Act→World→Prop} (hd:∀ c,o.op ≠ .defer c) (h:o.wp P a w K Q):o.wpIn (Fence.wide.inRound l) n P a w K Q:=by
 refine ⟨fun f _=>trivial,?_⟩
 rw [show (Fence.wide.inRound l).round=some l from rfl,Oper.semAt_some l _ _ hd]
 unfold Oper.wp at h
 generalize (execOp a.eval o).run P w=r at h
 cases r with
 | ok x w' =>
  cases x with
  | value v=>exact h
  | skip=>exact h
  | defer d=>exact h
  | enter f args=>exact ⟨fun hx=>(by cases hx),(callsIn_wide.2 h).inRound l⟩
  | row row args=>exact ⟨fun hx=>(by cases hx),fun c cs _=>by
    obtain ⟨v,w'',hr,hs⟩:=h c cs
    exact ⟨v,w'',hr,stepsIn_wide.2 hs⟩⟩
  | _=>exact h.elim
 | halt x w' =>
  cases x with
  | panic v=>exact h
  | _=>exact h.elim
theorem anyIn_round {n l:Nat} {P:Program} {md:Region.Mode} {ops:Array Oper} {Q:Exit→Act→World→Prop} (hQ:¬ LetsOut Q) (hd:∀ (i:Nat) (o:Oper),ops[i]?=some o→∀ c,o.op ≠ .defer c):∀ (fuel:Nat) (listed:Array Bool) (a:Act) (w:World),wpAny P md ops Q fuel listed a w→wpAnyIn (Fence.wide.inRound l) n P md ops Q fuel listed a w
 | 0,_,_,_,h => h
 | fuel+1,listed,a,w,h=>by
  refine ⟨h.1,fun i hi=>?_⟩
  have h2:=h.2 i hi
  unfold wpOp at h2
  unfold wpOpIn
  cases ho:ops[i]? with
  | none =>
   rw [ho] at h2
   exact anyIn_round hQ hd fuel _ _ _ h2
  | some o =>
   rw [ho] at h2
   simp only at h2 ⊢
   by_cases hw:Region.wanted o (yielded ops a.tmps)=true
   ·rw [if_pos hw] at h2 ⊢
    rcases h2 with h2 | h2
    ·exact operIn_round (hd i o ho) (Oper.wp_mono (fun a w h=>anyIn_round hQ hd fuel _ a w h) h2)
    ·exact absurd h2.2 hQ
   ·rw [if_neg hw] at h2 ⊢
    exact ⟨fun f _=>trivial,anyIn_round hQ hd fuel _ _ _ h2⟩
def plainOp (o:Oper):Bool:=match o.op with
 | .defer _=>false
 | _=>true
theorem plainOp_is {o:Oper} (h:plainOp o=true):∀ c,o.op ≠ .defer c:=by
 intro c e
 unfold plainOp at h
 rw [e] at h
 cases h
theorem wpIn_region_still_round {id n r:Nat} {P:Program} {Q:Exit→Act→World→Prop} {a:Act} {w:World} {l:List Oper} (k:Nat) (hm:P.follows .mixedOrders=true) (hB:Region.lexTailB .any l.toArray k=true) (hd:l.all plainOp=true)
  (h:wpStill P l.toArray { w with drawn:=w.drawn+1 } (fun a'=>wpList P l.toArray (Exit.then (fun a w=>Q .normal a w) (fun _ _ _=>False)) (l.drop k) a' { w with drawn:=w.drawn+1 }) (l.take k) a):(Code.region id l.toArray true).wpIn (Fence.wide.inRound r) n P Q a w:=by
 refine wpIn_normal (wpIn_region_any hm (anyIn_round ?_ ?_ _ _ _ _ ?_))
 ·rintro ⟨a,w,h⟩
  exact h
 ·intro i o ho
  have hm:o∈l:=by
   rw [List.getElem?_toArray] at ho
   exact List.mem_of_getElem? ho
  exact plainOp_is (List.all_eq_true.1 hd o hm)
 ·simp only [Region.lexTailB,Bool.and_eq_true,decide_eq_true_eq] at hB
  obtain ⟨⟨⟨⟨hsel,hn⟩,hs⟩,hc⟩,hlex⟩:=hB
  have hn':k<l.length:=by simpa using hn
  have htl:(l.take k).length=k:=by simp;omega
  have hdl:(l.drop k).length=l.toArray.size-k:=by simp
  have inv0:HeadInv .any l.toArray k (Array.replicate l.toArray.size false) :=
   ⟨by simp,fun j oj _ hl=>(by rw [getD_replicate_false] at hl;cases hl),fun t _ ht=>getD_in (by simpa using ht) (getD_replicate_false _ _)⟩
  have H:=wpAnyL_lex (md:=.any) (g:=l.toArray.size-k) hsel hs hc hn (l.take k) 0 _ a (fun j hj=>by
   have hj':j<k:=by rw [htl] at hj;exact hj
   simp [hj']) (by simpa using htl) inv0 (by rw [htl];exact hlex) h
  have:=wpAny_of_head (Q':=Exit.then (fun a w=>Q .normal a w) (fun _ _ _=>False)) (g:=l.toArray.size-k) (fun listed a' hL=>by
   have:=wpAny_of_seq (md:=.any) (Q':=Exit.then (fun a w=>Q .normal a w) (fun _ _ _=>False)) (l.drop k) k listed a' { w with drawn:=w.drawn+1 } (fun j=>by simp [List.getElem?_drop]) (by rw [hdl];exact hL.1) hL.2
   rwa [hdl] at this) _ _ _ H
  rw [htl,show k+(l.toArray.size-k)=l.toArray.size by omega] at this
  exact this
def upd (x:Nat→Value) (d:Nat) (v:Value):Nat→Value:=fun n=>if n=d then v else x n
theorem upd_same (x:Nat→Value) (d:Nat) (v:Value):upd x d v d=v:=if_pos rfl
theorem upd_other (x:Nat→Value) {d n:Nat} (v:Value) (h:n≠d):upd x d v n=x n:=if_neg h
def backB (md:Region.Mode) (ops:Array Oper):Bool:=(List.range ops.size).all fun i=>match ops[i]? with
 | some o=>o.after.all fun e=>!Region.binds md e||decide (e.on<i)
 | none=>true
theorem backB_spec {md:Region.Mode} {ops:Array Oper} (h:backB md ops=true) {i:Nat} {o:Oper} (ho:ops[i]?=some o):∀ e∈o.after,Region.binds md e=true→e.on<i:=by
 have hi:i<ops.size:=(Array.getElem?_eq_some_iff.1 ho).1
 have h1:=List.all_eq_true.1 h i (List.mem_range.2 hi)
 simp only [ho] at h1
 intro e he hb
 have h2:=Array.all_eq_true_iff_forall_mem.1 h1 e he
 simp only [hb,Bool.not_true,Bool.false_or,decide_eq_true_eq] at h2
 exact h2
def apartB (ops:Array Oper):Bool:=(List.range ops.size).all fun i=>(List.range ops.size).all fun j=>decide (i=j)||match ops[i]?.bind (·.dst),ops[j]?.bind (·.dst) with
 | some a,some b=>decide (a≠b)
 | _,_=>true
theorem apartB_spec {ops:Array Oper} (h:apartB ops=true) {i j:Nat} {o o':Oper} {d d':Nat} (hi:ops[i]?=some o) (hj:ops[j]?=some o') (hd:o.dst=some d) (hd':o'.dst=some d') (hne:i≠j):d≠d':=by
 have h1:=List.all_eq_true.1 (List.all_eq_true.1 h i (List.mem_range.2 (Array.getElem?_eq_some_iff.1 hi).1)) j (List.mem_range.2 (Array.getElem?_eq_some_iff.1 hj).1)
 rw [hi,hj] at h1
 simp only [Option.bind_some,hd,hd',Bool.or_eq_true,decide_eq_true_eq] at h1
 rcases h1 with h1 | h1
 ·exact absurd h1 hne
 ·exact h1
section
variable {P : Program} {md : Region.Mode} {ops : Array Oper} {Q : Exit → Act → World → Prop}
structure FlowInv (ops:Array Oper) (Res:Nat→Value→World→Prop) (w0:World) (listed:Array Bool) (x:Nat→Value) (w:World):Prop where
 b:Below w0.heap.size w0 w
 res:∀ (i:Nat) (o:Oper) (d:Nat),ops[i]?=some o→o.dst=some d→listed.getD i false=true→Res i (x d) w
theorem flow_go (F:(Nat→Value)→Act) (Res:Nat→Value→World→Prop) (w0:World) (hback:backB md ops=true) (hapart:apartB ops=true)
  (mono:∀ i v w w',Res i v w→Below w.heap.size w w'→Res i v w')
  (hput:∀ (i:Nat) (o:Oper) (d:Nat),ops[i]?=some o→o.dst=some d→∀ x v,(F x).put (some d) v=F (upd x d v))
  (step:∀ (i:Nat) (o:Oper),ops[i]?=some o→∀ x w,Below w0.heap.size w0 w→(∀ j,Region.waitsFor md ops i j=true→∀ (o':Oper) (d':Nat),ops[j]?=some o'→o'.dst=some d'→Res j (x d') w) →
   ∀ K:Act→World→Prop,(∀ v w',Below w.heap.size w w'→Res i v w'→K ((F x).put o.dst v) w')→wpOp P ops Q i K (F x) w)
  (done:∀ x w,Below w0.heap.size w0 w→(∀ (i:Nat) (o:Oper) (d:Nat),ops[i]?=some o→o.dst=some d→Res i (x d) w)→Q .normal (F x) w) :
  ∀ (fuel:Nat) (U:List Nat) (listed:Array Bool) (x:Nat→Value) (w:World),listed.size=ops.size→U.length≤fuel→(∀ i,i<ops.size→listed.getD i false=true∨i∈U)→FlowInv ops Res w0 listed x w→wpAny P md ops Q fuel listed (F x) w:=by
 have all_done:∀ (listed:Array Bool) (x:Nat→Value) (w:World),(∀ i,i<ops.size→listed.getD i false=true)→FlowInv ops Res w0 listed x w→Q .normal (F x) w:=fun listed x w hall hI =>
  done x w hI.b fun i o d ho hd=>hI.res i o d ho hd (hall i (Array.getElem?_eq_some_iff.1 ho).1)
 have none_left:∀ (listed:Array Bool),listed.size=ops.size→Region.ready md ops listed=[]→∀ i,i<ops.size→listed.getD i false=true:=by
  intro listed hsz hr i
  induction i using Nat.strongRecOn with
  | _ i ih =>
   intro hi
   cases hl:listed.getD i false with
   | true=>rfl
   | false =>
    have hm:i∈Region.ready md ops listed:=by
     obtain ⟨o,ho⟩:∃ o,ops[i]?=some o:=⟨ops[i],Array.getElem?_eq_getElem hi⟩
     exact mem_ready.2 ⟨getD_in (by rw [hsz];exact hi) hl,o,ho,fun e he hb=>by
      have hlt:=backB_spec hback ho e he hb
      exact ih e.on hlt (by omega)⟩
    rw [hr] at hm
    cases hm
 intro fuel
 induction fuel with
 | zero =>
  intro U listed x w hsz hU hL hI
  have hU0:U=[]:=List.length_eq_zero_iff.1 (Nat.le_zero.1 hU)
  subst hU0
  have hall:∀ i,i<ops.size→listed.getD i false=true:=fun i hi=>(hL i hi).resolve_right (by simp)
  refine ⟨?_,all_done listed x w hall hI⟩
  cases hr:Region.ready md ops listed with
  | nil=>rfl
  | cons j rest =>
   obtain ⟨h1,o,ho,_⟩:=mem_ready.1 (by rw [hr];exact List.mem_cons_self:j∈Region.ready md ops listed)
   have:=hall j (Array.getElem?_eq_some_iff.1 ho).1
   rw [getD_both h1] at this
   cases this
 | succ fuel ih =>
  intro U listed x w hsz hU hL hI
  refine ⟨fun hr=>all_done listed x w (none_left listed hsz hr) hI,fun i hi=>?_⟩
  obtain ⟨hun,o,ho,hall⟩:=mem_ready.1 hi
  have hil:i<ops.size:=(Array.getElem?_eq_some_iff.1 ho).1
  have hiU:i∈U:=(hL i hil).resolve_left (by rw [getD_both hun];simp)
  refine step i o ho x w hI.b (fun j hw o' d' ho' hd'=>?_) _ ?_
  ·obtain ⟨oi,hoi,e,he,hb,hon⟩:=Region.waitsFor_spec hw
   have:oi=o:=Option.some.inj (hoi.symm.trans ho)
   subst this
   exact hI.res j o' d' ho' hd' (by rw [← hon];exact hall e he hb)
  ·intro v w' hb hres
   have hset:∀ j,j≠i→(listed.setIfInBounds i true).getD j false=listed.getD j false:=fun j hj=>getD_set_ne false (fun e=>hj e.symm)
   have hL':∀ j,j<ops.size→(listed.setIfInBounds i true).getD j false=true∨j∈U.erase i:=fun j hj=>by
    by_cases e:j=i
    ·subst e
     left
     rw [Array.getD_eq_getD_getElem?,Array.getElem?_setIfInBounds_self_of_lt (by rw [hsz];exact hil)]
     rfl
    ·rcases hL j hj with h | h
     ·exact .inl (by rw [hset j e];exact h)
     ·exact .inr ((List.mem_erase_of_ne e).2 h)
   have hlen:(U.erase i).length≤fuel:=by rw [List.length_erase_of_mem hiU];omega
   cases hd:o.dst with
   | none =>
    rw [show (F x).put none v=F x from rfl]
    refine ih (U.erase i) _ x w' (by simpa using hsz) hlen hL' ⟨hI.b.trans (hb.mono hI.b.size),fun j o' d' ho' hd' hlj=>?_⟩
    by_cases e:j=i
    ·subst e
     have:o'=o:=Option.some.inj (ho'.symm.trans ho)
     subst this
     rw [hd] at hd'
     cases hd'
    ·rw [hset j e] at hlj
     exact mono j _ w w' (hI.res j o' d' ho' hd' hlj) hb
   | some d =>
    rw [hput i o d ho hd]
    refine ih (U.erase i) _ _ w' (by simpa using hsz) hlen hL' ⟨hI.b.trans (hb.mono hI.b.size),fun j o' d' ho' hd' hlj=>?_⟩
    by_cases e:j=i
    ·subst e
     have:o'=o:=Option.some.inj (ho'.symm.trans ho)
     subst this
     have:d'=d:=Option.some.inj (hd'.symm.trans hd)
     subst this
     rw [upd_same]
     exact hres
    ·rw [hset j e] at hlj
     rw [upd_other x v (apartB_spec hapart ho' ho hd' hd e)]
     exact mono j _ w w' (hI.res j o' d' ho' hd' hlj) hb
theorem wp_region_flow {id:Nat} (F:(Nat→Value)→Act) (Res:Nat→Value→World→Prop) {a:Act} (x0:Nat→Value) {w:World} (ha:a=F x0) (hm:P.follows .mixedOrders=true) (hback:backB .any ops=true) (hapart:apartB ops=true)
  (mono:∀ i v w w',Res i v w→Below w.heap.size w w'→Res i v w')
  (hput:∀ (i:Nat) (o:Oper) (d:Nat),ops[i]?=some o→o.dst=some d→∀ x v,(F x).put (some d) v=F (upd x d v))
  (step:∀ (i:Nat) (o:Oper),ops[i]?=some o→∀ x w',Below w.heap.size w w'→(∀ j,Region.waitsFor .any ops i j=true→∀ (o':Oper) (d':Nat),ops[j]?=some o'→o'.dst=some d'→Res j (x d') w') →
   ∀ K:Act→World→Prop,(∀ v w2,Below w'.heap.size w' w2→Res i v w2→K ((F x).put o.dst v) w2)→wpOp P ops Q i K (F x) w')
  (done:∀ x w',Below w.heap.size w w'→(∀ (i:Nat) (o:Oper) (d:Nat),ops[i]?=some o→o.dst=some d→Res i (x d) w')→Q .normal (F x) w'):(Code.region id ops true).wp P Q a w:=by
 subst ha
 refine wp_region_any hm ?_
 refine flow_go F Res w hback hapart mono hput step done ops.size (List.range ops.size) _ x0 _ (by simp) (by simp) (fun i hi => .inr (List.mem_range.2 hi)) ⟨(Below.refl w.heap.size w).drew,fun i o d _ _ hl=>?_⟩
 rw [getD_replicate_false] at hl
 cases hl
end
theorem wp_plain {P:Program} {c:Code} {K:Act→World→Prop} {Q':Exit→Act→World→Prop} {a:Act} {w:World} (h:c.wp P (Exit.then K (fun _ _ _=>False)) a w):c.wp P (Exit.then K Q') a w:=by
 refine Code.wp_mono ?_ h
 intro e a' w' hq
 cases e with
 | normal=>exact hq
 | exit id=>exact hq.elim
 | goto l=>exact hq.elim
 | ret=>exact hq.elim
 | panic ch=>exact hq.elim
 | outgrown=>exact hq.elim
theorem append_src (W:World) (base:Nat) (t e:TypeId) (i:TypeInfo) (z:Value) (size bytes:Nat) (ht:Tryz.prog.underlying t=some (.slice e)) (hi:Tryz.prog.info? e=some i) (hz:i.zero=some z) (hsize:i.size=size) (hby:i.bytes=bytes) (hzs:z.cells.size=size) (hsz:0<size) (hb64:bytes≤64)
  (V:Value) (n:Nat) (xs:List Value) (hown:W.ownsRow base e size V n xs) (v:Value) (rows:List (List Value)) (hk:∀ r∈rows,r.length=size) (h1:∀ u∈rows.flatten,u.oneCell'=true) (hv:ARd W v size rows) (hl:n+rows.length≤1000000000) (hb:base≤W.heap.size) :
  ∃ V' w',(Builtin.append_ #[t,t] t #[V,v]).run Tryz.prog W = .ok V' w'∧w'.ownsRow base e size V' (n+rows.length) (xs++rows.flatten)∧W.grownBy w' V.ownBlock:=by
 obtain ⟨a,c,rfl,hc⟩:=hv
 have hfl:=flat_len rows hk
 have hbb:(n+rows.length) * bytes≤140737488355328:=by
  have:=Nat.mul_le_mul hl hb64
  omega
 have key:∀ ad,a=some ad→(∀ j u,rows.flatten[j]?=some u→W.cell? (ad.add j)=some u)→∃ V' w',(Builtin.append_ #[t,t] t #[V,.slice a rows.length c]).run Tryz.prog W = .ok V' w'∧w'.ownsRow base e size V' (n+rows.length) (xs++rows.flatten)∧W.grownBy w' V.ownBlock:=by
  rintro ad rfl hcell
  obtain ⟨V',w',h2,h3,h4,_⟩:=run_append_own (P:=Tryz.prog) W base t t e i z size bytes ht hi hz hsize hby hzs hsz V n xs hown ad rows.length c rows.flatten hfl hcell h1 (by unfold maxLen;omega) hbb hb
  exact ⟨V',w',h2,h3,h4⟩
 rcases Nat.eq_zero_or_pos rows.length with h0 | h0
 ·have e0:rows=[]:=List.length_eq_zero_iff.1 h0
  cases a with
  | some ad=>exact key ad rfl (fun j u hj=>by rw [e0] at hj;cases hj)
  | none =>
   subst e0
   refine ⟨V,W,?_,by simpa using hown,World.grownBy.refl _ _⟩
   rcases hown.2 with ⟨rfl,rfl⟩ | ⟨g,cap,cur,rfl,_,_,hcap,_⟩
   ·simp [Builtin.append_,run_underlying ht,sizeOf,typeInfo,hi,Builtin.lenOf,Builtin.firstCells]
   ·simp [Builtin.append_,run_underlying ht,sizeOf,typeInfo,hi,Builtin.lenOf,Builtin.firstCells,hcap,storeCells]
 ·obtain ⟨b,o,rfl,_,_⟩:=hc 0 h0
  refine key _ rfl fun j u hj=>?_
  have hj2:j<rows.length * size:=by rw [← hfl];exact (List.getElem?_eq_some_iff.1 hj).1
  have hq:j / size<rows.length:=Nat.div_lt_of_lt_mul (by rw [Nat.mul_comm];exact hj2)
  have hm:j % size<size:=Nat.mod_lt _ hsz
  obtain ⟨b2,o2,e2,_,hr⟩:=hc (j / size) hq
  cases e2
  have h5:=flat_get rows hk (j / size) hq (j % size) hm
  have h6:j / size * size+j % size=j:=by rw [Nat.mul_comm];exact Nat.div_add_mod j size
  rw [h6,hj] at h5
  have h7:=hr (j % size) u h5.symm
  rw [Addr.add_lit]
  rw [Nat.add_assoc,h6] at h7
  exact h7
theorem ARd.pre {W:World} {a:Option Addr} {c:Nat} {l:List Int} (h:ARd W (.slice a l.length c) 1 (l.map iC)) {i:Nat} (hi:i≤l.length) (c':Nat):ARd W (.slice a i c') 1 ((l.take i).map iC):=by
 obtain ⟨a2,c2,e,hr⟩:=h
 rw [List.length_map] at e
 cases e
 refine ⟨a,c',by simp [Nat.min_eq_left hi],fun j hj=>?_⟩
 have hj2:j<l.length:=by simp at hj;omega
 obtain ⟨b,o,ha,hlt,hc⟩:=hr j (by simpa using hj2)
 refine ⟨b,o,ha,hlt,fun k u hk=>hc k u ?_⟩
 rw [← hk]
 simp
theorem ARd.suf {W:World} {b o c:Nat} {l:List Int} (h:ARd W (.slice (some ⟨b,o,none⟩) l.length c) 1 (l.map iC)) {i:Nat} (hi:i<l.length) (c':Nat):ARd W (.slice (some ⟨b,o+i,none⟩) (l.length-i) c') 1 ((l.drop i).map iC):=by
 obtain ⟨a2,c2,e,hr⟩:=h
 rw [List.length_map] at e
 cases e
 refine ⟨some ⟨b,o+i,none⟩,c',by simp,fun j hj=>?_⟩
 have hj2:i+j<l.length:=by simp at hj;omega
 obtain ⟨b2,o2,ha,hlt,hc⟩:=hr (i+j) (by simpa using hj2)
 cases ha
 refine ⟨b,o+i,rfl,hlt,fun k u hk=>?_⟩
 have:=hc k u (by rw [← hk];simp)
 rw [show o+(i+j) * 1+k=o+i+j * 1+k by omega] at this
 exact this
theorem row_empty (w:World) (t:TypeId):(w.alloc (.cells #[] t)).ownsRow w.heap.size t 1 (.slice (some ⟨w.heap.size,0,none⟩) 0 0) ([]:List Int).length (iCs []) :=
 ⟨rfl,.inr ⟨w.heap.size,0,#[],rfl,Nat.le_refl _,World.alloc_heap_new w _,Nat.le_refl _,Nat.zero_le _,rfl,rfl⟩⟩
theorem hold4 {W0 W w':World} {a0:Addr} {u0:Value} {a1:Addr} {u1:Value} {a2:Addr} {u2:Value} {a3:Addr} {u3:Value} (h:Below W0.heap.size W0 W∧W.cell? a0=some u0∧W.cell? a1=some u1∧W.cell? a2=some u2∧W.cell? a3=some u3) (hb:Below W.heap.size W w'):Below W0.heap.size W0 w'∧w'.cell? a0=some u0∧w'.cell? a1=some u1∧w'.cell? a2=some u2∧w'.cell? a3=some u3:=by
 obtain ⟨hB,h0,h1,h2,h3⟩:=h
 exact ⟨below_step hB hb,(hb.cell (cell_size h0)).trans h0,(hb.cell (cell_size h1)).trans h1,(hb.cell (cell_size h2)).trans h2,(hb.cell (cell_size h3)).trans h3⟩
theorem hold7 {W0 W w':World} {a0:Addr} {u0:Value} {a1:Addr} {u1:Value} {a2:Addr} {u2:Value} {a3:Addr} {u3:Value} {a4:Addr} {u4:Value} {a5:Addr} {u5:Value} {a6:Addr} {u6:Value} (h:Below W0.heap.size W0 W∧W.cell? a0=some u0∧W.cell? a1=some u1∧W.cell? a2=some u2∧W.cell? a3=some u3∧W.cell? a4=some u4∧W.cell? a5=some u5∧W.cell? a6=some u6) (hb:Below W.heap.size W w'):Below W0.heap.size W0 w'∧w'.cell? a0=some u0∧w'.cell? a1=some u1∧w'.cell? a2=some u2∧w'.cell? a3=some u3∧w'.cell? a4=some u4∧w'.cell? a5=some u5∧w'.cell? a6=some u6:=by
 obtain ⟨hB,h0,h1,h2,h3,h4,h5,h6⟩:=h
 exact ⟨below_step hB hb,(hb.cell (cell_size h0)).trans h0,(hb.cell (cell_size h1)).trans h1,(hb.cell (cell_size h2)).trans h2,(hb.cell (cell_size h3)).trans h3,(hb.cell (cell_size h4)).trans h4,(hb.cell (cell_size h5)).trans h5,(hb.cell (cell_size h6)).trans h6⟩
theorem hold8 {W0 W w':World} {a0:Addr} {u0:Value} {a1:Addr} {u1:Value} {a2:Addr} {u2:Value} {a3:Addr} {u3:Value} {a4:Addr} {u4:Value} {a5:Addr} {u5:Value} {a6:Addr} {u6:Value} {a7:Addr} {u7:Value} (h:Below W0.heap.size W0 W∧W.cell? a0=some u0∧W.cell? a1=some u1∧W.cell? a2=some u2∧W.cell? a3=some u3∧W.cell? a4=some u4∧W.cell? a5=some u5∧W.cell? a6=some u6∧W.cell? a7=some u7) (hb:Below W.heap.size W w'):Below W0.heap.size W0 w'∧w'.cell? a0=some u0∧w'.cell? a1=some u1∧w'.cell? a2=some u2∧w'.cell? a3=some u3∧w'.cell? a4=some u4∧w'.cell? a5=some u5∧w'.cell? a6=some u6∧w'.cell? a7=some u7:=by
 obtain ⟨hB,h0,h1,h2,h3,h4,h5,h6,h7⟩:=h
 exact ⟨below_step hB hb,(hb.cell (cell_size h0)).trans h0,(hb.cell (cell_size h1)).trans h1,(hb.cell (cell_size h2)).trans h2,(hb.cell (cell_size h3)).trans h3,(hb.cell (cell_size h4)).trans h4,(hb.cell (cell_size h5)).trans h5,(hb.cell (cell_size h6)).trans h6,(hb.cell (cell_size h7)).trans h7⟩
theorem hold9 {W0 W w':World} {a0:Addr} {u0:Value} {a1:Addr} {u1:Value} {a2:Addr} {u2:Value} {a3:Addr} {u3:Value} {a4:Addr} {u4:Value} {a5:Addr} {u5:Value} {a6:Addr} {u6:Value} {a7:Addr} {u7:Value} {a8:Addr} {u8:Value} (h:Below W0.heap.size W0 W∧W.cell? a0=some u0∧W.cell? a1=some u1∧W.cell? a2=some u2∧W.cell? a3=some u3∧W.cell? a4=some u4∧W.cell? a5=some u5∧W.cell? a6=some u6∧W.cell? a7=some u7∧W.cell? a8=some u8) (hb:Below W.heap.size W w'):Below W0.heap.size W0 w'∧w'.cell? a0=some u0∧w'.cell? a1=some u1∧w'.cell? a2=some u2∧w'.cell? a3=some u3∧w'.cell? a4=some u4∧w'.cell? a5=some u5∧w'.cell? a6=some u6∧w'.cell? a7=some u7∧w'.cell? a8=some u8:=by
 obtain ⟨hB,h0,h1,h2,h3,h4,h5,h6,h7,h8⟩:=h
 exact ⟨below_step hB hb,(hb.cell (cell_size h0)).trans h0,(hb.cell (cell_size h1)).trans h1,(hb.cell (cell_size h2)).trans h2,(hb.cell (cell_size h3)).trans h3,(hb.cell (cell_size h4)).trans h4,(hb.cell (cell_size h5)).trans h5,(hb.cell (cell_size h6)).trans h6,(hb.cell (cell_size h7)).trans h7,(hb.cell (cell_size h8)).trans h8⟩
theorem row_not {W:World} {base:Nat} {t t':TypeId} {k n:Nat} {v:Value} {xs:List Value} (h:W.ownsRow base t k v n xs) {B:Nat} {cs:Array Value} (hb:Blk W B t' cs) (ht:t'≠t):v.ownBlock≠some B:=by
 intro e
 rcases h.2 with ⟨rfl,_⟩ | ⟨g,cap,cur,rfl,_,hg,_⟩
 ·cases e
 ·simp only [Value.ownBlock,Option.some.injEq] at e
  subst e
  rw [show W.heap[g]?=_ from hb] at hg
  cases hg
  exact ht rfl
def onL (f:Th→Int) (k:Int) (n:Nat):List Int:=((List.range n).map fun (i:Nat)=>(i:Int)).filter fun i=>decide (f (k,0,i)=1)
theorem mem_onL {f:Th→Int} {k:Int} {n:Nat} {i:Int}:i∈onL f k n↔0≤i∧i<n∧f (k,0,i)=1:=by
 unfold onL
 rw [List.mem_filter,List.mem_map,decide_eq_true_iff]
 constructor
 ·rintro ⟨⟨a,ha,rfl⟩,h⟩
  have:=List.mem_range.1 ha
  exact ⟨by omega,by omega,h⟩
 ·rintro ⟨h1,h2,h3⟩
  exact ⟨⟨i.toNat,List.mem_range.2 (by omega),by omega⟩,h3⟩
theorem len_onL (f:Th→Int) (k:Int) (n:Nat):(onL f k n).length≤n:=by
 unfold onL
 have:=List.length_filter_le (fun i=>decide (f (k,0,i)=1)) ((List.range n).map fun (i:Nat)=>(i:Int))
 rw [List.length_map,List.length_range] at this
 exact this
def playN (f:Th→Int) (d:Int) (n:Nat):List Int:=((List.range n).map fun (k:Nat)=>(k:Int)).filter fun k=>decide (f (1,d,k)=1)
theorem playN_all (f:Th→Int) (d:Int):playN f d 128=playedL f d:=rfl
theorem len_playN (f:Th→Int) (d:Int) (n:Nat):(playN f d n).length≤n:=by
 unfold playN
 have:=List.length_filter_le (fun i=>decide (f (1,d,i)=1)) ((List.range n).map fun (i:Nat)=>(i:Int))
 rw [List.length_map,List.length_range] at this
 exact this
structure HdRd (W:World) (vk vs vc:Value) (S:Sp) (f:Th→Int):Prop where
 keys:∃ g:Nat→Value,ARd W vk 1 ((List.range S.ds.length).map fun d=>[g d])∧∀ d,d<S.ds.length→ARd W (g d) 1 ((playedL f d).map iC)
 stops:ARd W vs 1 ((onL f 2 S.ss.length).map iC)
 cous:ARd W vc 1 ((onL f 3 S.cs.length).map iC)
theorem HdRd.later {W W':World} {vk vs vc:Value} {S:Sp} {f:Th→Int} (h:HdRd W vk vs vc S f) (hb:Below W.heap.size W W'):HdRd W' vk vs vc S f:=by
 obtain ⟨⟨g,h1,h2⟩,h3,h4⟩:=h
 exact ⟨⟨g,h1.later hb,fun d hd=>(h2 d hd).later hb⟩,h3.later hb,h4.later hb⟩
theorem int64_info:(Tryz.prog.info? 3).map (fun i=>(i.zero,i.size,i.bytes))=some (some (.int .i64 0),1,8):=by kernel_rfl
end Go.Proofs.YteflhbfgpknabaaGreatDoor
namespace Go.Proofs.YteflhbfgpknabaaGreatDoor
structure Hn where
 ks:List (List Int)
 ss:List Int
 cs:List Int
def risF (l:List Int) (lo up bad:Int) (i:Nat):Int:=if l.getD i 0<lo∨up<l.getD i 0 then bad else if 0<i∧l.getD i 0≤l.getD (i-1) 0 then 8 else 0
def risE (l:List Int) (lo up bad:Int):Int:=firstErr (risF l lo up bad) l.length
def keyF (S:Sp) (H:Hn) (d:Nat):Int:=risE (H.ks.getD d []) (S.ds[d]?.map (·.lo) |>.getD 0) (S.ds[d]?.map (·.hi) |>.getD 0) 7
def hndE (S:Sp) (H:Hn):Int :=
 if H.ks.length≠S.ds.length then 2
 else if firstErr (keyF S H) S.ds.length≠0 then firstErr (keyF S H) S.ds.length
 else if risE H.ss 0 ((S.ss.length:Int)-1) 4≠0 then risE H.ss 0 ((S.ss.length:Int)-1) 4
 else risE H.cs 0 ((S.cs.length:Int)-1) 4
theorem getD_int {l:List Int} {i:Nat} (h:i<l.length):l.getD i 0=l[i]:=by simp [h]
theorem risE_ok {l:List Int} {lo up bad:Int} (hb:bad≠0) (h:risE l lo up bad=0):l.Pairwise (· < ·)∧∀ x∈l,lo≤x∧x≤up:=by
 have h1:∀ i,i<l.length→risF l lo up bad i=0:=fun i hi=>firstErr_none h i hi
 have h2:∀ i (hi:i<l.length),lo≤l[i]∧l[i]≤up∧(0<i→l.getD (i-1) 0<l[i]):=fun i hi=>by
  have:=h1 i hi
  unfold risF at this
  rw [getD_int hi] at this
  split at this
  ·exact absurd this hb
  ·split at this
   ·cases this
   ·rename_i a b
    refine ⟨by omega,by omega,fun hi0=>?_⟩
    have:=fun q=>b ⟨hi0,q⟩
    omega
 refine ⟨?_,fun x hx=>?_⟩
 ·have key:∀ (k i:Nat) (hk:i+k<l.length),0<k→l[i]'(by omega)<l[i+k]:=by
   intro k
   induction k with
   | zero=>intro i _ h0;omega
   | succ k ih =>
    intro i hk _
    have h3:=(h2 (i+(k+1)) hk).2.2 (by omega)
    rw [show i+(k+1)-1=i+k by omega,getD_int (by omega)] at h3
    rcases Nat.eq_zero_or_pos k with rfl | hp
    ·simpa using h3
    ·have:=ih i (by omega) hp
     omega
  rw [List.pairwise_iff_getElem]
  intro i j hi hj hij
  have:=key (j-i) i (by omega) (by omega)
  simpa only [show i+(j-i)=j by omega] using this
 ·obtain ⟨i,hi,rfl⟩:=List.getElem_of_mem hx
  exact ⟨(h2 i hi).1,(h2 i hi).2.1⟩
def onH (H:Hn):Th→Int:=fun t =>
 if t.1=1 then (if 0≤t.2.1∧t.2.2∈H.ks.getD t.2.1.toNat [] then 1 else 0)
 else if t.2.1=0∧t.1=2 then (if t.2.2∈H.ss then 1 else 0)
 else if t.2.1=0∧t.1=3 then (if t.2.2∈H.cs then 1 else 0) else 0
theorem onH_key (H:Hn) (d k:Int):onH H (1,d,k)=if 0≤d∧k∈H.ks.getD d.toNat [] then 1 else 0:=if_pos rfl
theorem onH_stop (H:Hn) (n:Int):onH H (2,0,n)=if n∈H.ss then 1 else 0:=(if_neg (fun h=>absurd (show (2:Int)=1 from h) (by decide))).trans (if_pos ⟨rfl,rfl⟩)
theorem onH_cou (H:Hn) (n:Int):onH H (3,0,n)=if n∈H.cs then 1 else 0:=(if_neg (fun h=>absurd (show (3:Int)=1 from h) (by decide))).trans ((if_neg (fun h=>absurd (show (3:Int)=2 from h.2) (by decide))).trans (if_pos ⟨rfl,rfl⟩))
structure HnOk (S:Sp) (H:Hn):Prop where
 len:H.ks.length=S.ds.length
 keys:∀ d,d<S.ds.length→playedL (onH H) (d:Int)=H.ks.getD d []
 ss:onL (onH H) 2 S.ss.length=H.ss
 cs:onL (onH H) 3 S.cs.length=H.cs
 on:OnOk S (onH H)
theorem asc_ints {l m:List Int} (hl:l.Pairwise (· < ·)) (hm:m.Pairwise (· < ·)) (h:∀ x,x∈l↔x∈m):l=m:=lt_same (lt:=fun a b=>a<b) (fun a h=>by omega) (fun a b h=>by omega) hl hm h
theorem asc_on (f:Th→Int) (k:Int) (n:Nat):(onL f k n).Pairwise (· < ·):=by
 unfold onL
 refine List.Pairwise.filter _ ?_
 rw [List.pairwise_map]
 exact List.pairwise_lt_range.imp fun h=>by omega
theorem asc_pl (f:Th→Int) (d:Int):(playedL f d).Pairwise (· < ·):=by
 unfold playedL
 refine List.Pairwise.filter _ ?_
 rw [List.pairwise_map]
 exact List.pairwise_lt_range.imp fun h=>by omega
theorem one_iff {p:Prop} [Decidable p]:(if p then (1:Int) else 0)=1↔p:=by split <;> simp [*]
theorem one_ne {p:Prop} [Decidable p] (h:(if p then (1:Int) else 0)≠0):p:=by
 split at h
 ·assumption
 ·exact absurd rfl h
theorem hnd_ok {S:Sp} (hc:(checkP S).2=0) {H:Hn} (h:hndE S H=0):HnOk S H:=by
 have g:=spGood hc
 unfold hndE at h
 split at h
 ·cases h
 rename_i hlen
 have hlen:H.ks.length=S.ds.length:=by omega
 split at h
 ·exact absurd h (by assumption)
 rename_i hk
 split at h
 ·exact absurd h (by assumption)
 rename_i hs
 have hk0:∀ d,d<S.ds.length→keyF S H d=0:=fun d hd=>firstErr_none (by simpa using hk) d hd
 obtain ⟨hsa,hsr⟩:=risE_ok (by decide) (show risE H.ss 0 ((S.ss.length:Int)-1) 4=0 by simpa using hs)
 obtain ⟨hca,hcr⟩:=risE_ok (by decide) h
 have hkk:∀ d (hd:d<S.ds.length),(H.ks.getD d []).Pairwise (· < ·)∧∀ x∈H.ks.getD d [],S.ds[d].lo≤x∧x≤S.ds[d].hi:=fun d hd=>by
  have:=hk0 d hd
  unfold keyF at this
  rw [List.getElem?_eq_getElem hd] at this
  exact risE_ok (by decide) this
 have hdv:∀ d (hd:d<S.ds.length),0≤S.ds[d].lo∧S.ds[d].hi≤127:=fun d hd=>by
  have:=g.d _ (List.getElem_mem hd)
  unfold dvE at this
  split at this
  ·omega
  ·cases this
 refine ⟨hlen,fun d hd=>?_,?_,?_,⟨fun d k hn=>?_,fun t ht=>?_,fun d n hn=>?_,fun d n hn=>?_⟩⟩
 ·refine asc_ints (asc_pl _ _) (hkk d hd).1 fun x=>?_
  rw [mem_playedL,onH_key,one_iff,Int.toNat_natCast]
  constructor
  ·exact fun h=>h.2.2.2
  ·intro hx
   have h1:=(hkk d hd).2 x hx
   have h2:=hdv d hd
   exact ⟨by omega,by omega,by omega,hx⟩
 ·refine asc_ints (asc_on _ _ _) hsa fun x=>?_
  rw [mem_onL,onH_stop,one_iff]
  exact ⟨fun h=>h.2.2,fun hx=>⟨(hsr x hx).1,by have:=(hsr x hx).2;omega,hx⟩⟩
 ·refine asc_ints (asc_on _ _ _) hca fun x=>?_
  rw [mem_onL,onH_cou,one_iff]
  exact ⟨fun h=>h.2.2,fun hx=>⟨(hcr x hx).1,by have:=(hcr x hx).2;omega,hx⟩⟩
 ·rw [onH_key] at hn
  obtain ⟨hd0,hx⟩:=one_ne hn
  have hdl:d.toNat<S.ds.length:=by
   rcases Nat.lt_or_ge d.toNat H.ks.length with q | q
   ·omega
   ·rw [List.getD_eq_getElem?_getD,List.getElem?_eq_none q] at hx
    cases hx
  have h1:=(hkk _ hdl).2 k hx
  have h2:=hdv _ hdl
  have hds:=g.ds
  refine ⟨?_,by omega,by omega,by omega⟩
  unfold keyOk keyIn
  simp only
  rw [List.getElem?_eq_getElem hdl]
  simp only [Bool.and_eq_true,decide_eq_true_iff]
  exact ⟨⟨hd0,h1⟩,by omega⟩
 ·unfold onH
  split
  ·split
   ·exact .inr rfl
   ·exact .inl rfl
  ·split
   ·split
    ·exact .inr rfl
    ·exact .inl rfl
   ·split
    ·split
     ·exact .inr rfl
     ·exact .inl rfl
    ·exact .inl rfl
 ·unfold onH at hn
  rw [if_neg (fun h=>absurd (show (2:Int)=1 from h) (by decide))] at hn
  split at hn
  ·rename_i h0
   have hx:=one_ne hn
   exact ⟨h0.1,(hsr n hx).1,by have:=(hsr n hx).2;omega⟩
  ·split at hn
   ·rename_i h0
    exact absurd (show (2:Int)=3 from h0.2) (by decide)
   ·exact absurd rfl hn
 ·unfold onH at hn
  rw [if_neg (fun h=>absurd (show (3:Int)=1 from h) (by decide))] at hn
  split at hn
  ·rename_i h0
   exact absurd (show (3:Int)=2 from h0.2) (by decide)
  ·split at hn
   ·rename_i h0
    have hx:=one_ne hn
    exact ⟨h0.1,(hcr n hx).1,by have:=(hcr n hx).2;omega⟩
   ·exact absurd rfl hn
structure Tl where
 h:Hn
 l:List Pp
instance (a b:Pp):Decidable (ppLt a b):=by unfold ppLt;infer_instance
def pipB (S:Sp) (l:List Pp):Bool:=decide (l.Pairwise ppLt)&&l.all fun p=>decide (p∈allFrom 0 S.rs)
theorem pipB_iff {S:Sp} {l:List Pp}:pipB S l=true↔l.Pairwise ppLt∧∀ p∈l,p∈allFrom 0 S.rs:=by
 unfold pipB
 rw [Bool.and_eq_true,decide_eq_true_iff,List.all_eq_true]
 simp only [decide_eq_true_iff]
def tlF (S:Sp) (L:List Tl) (i:Nat):Int:=match L[i]? with
 | some t=>if hndE S t.h≠0 then hndE S t.h else if pipB S t.l=true then 0 else 2
 | none=>0
def trlE (S:Sp) (L:List Tl):Int:=if (checkP S).2≠0 then (checkP S).2 else if 20<L.length then 3 else firstErr (tlF S L) L.length
def hnE (S:Sp) (H:Hn):Int:=if (checkP S).2≠0 then (checkP S).2 else hndE S H
theorem trlE_ok {S:Sp} {L:List Tl} (h:trlE S L=0):(checkP S).2=0∧L.length≤20∧∀ t∈L,hndE S t.h=0∧t.l.Pairwise ppLt∧∀ p∈t.l,p∈allFrom 0 S.rs:=by
 unfold trlE at h
 split at h
 ·rename_i h1;exact absurd h h1
 ·rename_i h1
  split at h
  ·cases h
  ·refine ⟨by omega,by omega,fun t ht=>?_⟩
   obtain ⟨i,hi,rfl⟩:=List.getElem_of_mem ht
   have h2:=firstErr_none h i hi
   unfold tlF at h2
   rw [List.getElem?_eq_getElem hi] at h2
   simp only at h2
   split at h2
   ·rename_i h3;exact absurd h2 h3
   ·rename_i h3
    split at h2
    ·rename_i h4
     exact ⟨by omega,pipB_iff.1 h4⟩
    ·cases h2
def fstI (b:Nat→Bool):Nat→Int
 | 0 => -1
 | n+1=>if fstI b n ≠ -1 then fstI b n else if b n=true then (n:Int) else -1
theorem fstI_ge (b:Nat→Bool):∀ n,-1≤fstI b n∧fstI b n<n
 | 0=>by unfold fstI;omega
 | n+1=>by
  have:=fstI_ge b n
  unfold fstI
  split
  ·omega
  ·split <;> omega
theorem fstI_none {b:Nat→Bool}:∀ {n:Nat},fstI b n = -1↔∀ i,i<n→b i=false
 | 0=>⟨fun _ i hi=>absurd hi (Nat.not_lt_zero i),fun _=>rfl⟩
 | n+1=>by
  have ih:=@fstI_none b n
  unfold fstI
  constructor
  ·intro h i hi
   split at h
   ·rename_i h1;exact absurd h h1
   ·rename_i h1
    have h1:fstI b n = -1:=by omega
    split at h
    ·omega
    ·rename_i h2
     rcases Nat.lt_or_ge i n with q | q
     ·exact ih.1 h1 i q
     ·have:i=n:=by omega
      subst this
      simpa using h2
  ·intro h
   rw [if_neg (by rw [ih.2 fun i hi=>h i (by omega)];simp),if_neg (by rw [h n (Nat.lt_succ_self n)];simp)]
theorem fstI_at {b:Nat→Bool} {k:Nat} (h:∀ i,i<k→b i=false) (hk:b k=true):∀ {n:Nat},k<n→fstI b n=k
 | 0,hn => absurd hn (Nat.not_lt_zero k)
 | n+1,hn=>by
  unfold fstI
  rcases Nat.lt_or_ge k n with q | q
  ·have:=fstI_at h hk q
   rw [if_pos (by omega),this]
  ·have e:k=n:=by omega
   subst e
   rw [if_neg (by rw [fstI_none.2 h];simp),if_pos hk]
def badB (S:Sp) (B:(Th→Int)→Pp→Bool) (F:List Ft) (L:List Tl) (i:Nat):Bool:=match L[i]? with
 | some t=>!decide (hearL S B F (onH t.h)=t.l)
 | none=>false
def failI (S:Sp) (B:(Th→Int)→Pp→Bool) (F:List Ft) (L:List Tl):Int:=fstI (badB S B F L) L.length
def trs (L:List Tl):List Tr:=L.map fun t=>(onH t.h,t.l)
theorem failI_exps {S:Sp} {B:(Th→Int)→Pp→Bool} {F:List Ft} {L:List Tl}:failI S B F L = -1↔Exps S B F (trs L):=by
 unfold failI
 rw [fstI_none]
 unfold Exps trs
 constructor
 ·intro h t ht
  obtain ⟨x,hx,rfl⟩:=List.mem_map.1 ht
  obtain ⟨i,hi,rfl⟩:=List.getElem_of_mem hx
  have:=h i hi
  unfold badB at this
  rw [List.getElem?_eq_getElem hi] at this
  simpa using this
 ·intro h i hi
  have:=h _ (List.mem_map.2 ⟨_,List.getElem_mem hi,rfl⟩)
  unfold badB
  rw [List.getElem?_eq_getElem hi]
  simpa using this
theorem hearL_asc (S:Sp) (B:(Th→Int)→Pp→Bool) (F:List Ft) (f:Th→Int):(hearL S B F f).Pairwise ppLt∧∀ p∈hearL S B F f,p∈allFrom 0 S.rs:=⟨(asc_allFrom 0 S.rs).filter _,fun _ h=>(List.mem_filter.1 h).1⟩
def sameN (S:Sp) (B:(Th→Int)→Pp→Bool) (M:List (List Ft)) (f:Th→Int) (F:List Ft):Nat:=(M.filter fun G=>decide (hearL S B F f=hearL S B G f)).length
def leftN (S:Sp) (B:(Th→Int)→Pp→Bool) (M:List (List Ft)) (f:Th→Int):Nat:=(M.map (sameN S B M f)).foldl max 0
theorem foldl_max_le {l:List Nat}:∀ {a:Nat},a≤l.foldl max a∧∀ x∈l,x≤l.foldl max a:=by
 induction l with
 | nil=>intro a;exact ⟨Nat.le_refl _,fun x h=>(by cases h)⟩
 | cons y l ih =>
  intro a
  obtain ⟨h1,h2⟩:=@ih (max a y)
  rw [List.foldl_cons]
  refine ⟨by omega,fun x hx=>?_⟩
  rcases List.mem_cons.1 hx with rfl | hx
  ·omega
  ·exact h2 x hx
theorem leftN_ge {S:Sp} {B:(Th→Int)→Pp→Bool} {M:List (List Ft)} {f:Th→Int} {F:List Ft} (h:F∈M):sameN S B M f F≤leftN S B M f:=foldl_max_le.2 _ (List.mem_map.2 ⟨F,h,rfl⟩)
def bestI (v:Nat→Nat):Nat→Nat × Nat
 | 0=>(0,v 0)
 | n+1=>if v (n+1)<(bestI v n).2 then (n+1,v (n+1)) else bestI v n
theorem leaP_ok {S:Sp} {B:(Th→Int)→Pp→Bool} {T:List Tr} {most:Nat} {M:List (List Ft)} (h:LeaP S B T most M 0):∃ many,many≤most∧(∀ g,FtsOk S g→g.length<many→¬ Exps S B g T)∧SetsP S B T many M∧M≠[]∧M.length≤200:=by
 rcases h with ⟨k,hk,hmin,N,hN,hne,⟨a,rfl,_⟩ | ⟨_,_,e⟩⟩ | ⟨_,_,e⟩
 ·exact ⟨k,hk,hmin,hN,hne,a⟩
 ·cases e
 ·cases e
theorem SetsP.size {S:Sp} {B:(Th→Int)→Pp→Bool} {T:List Tr} {many:Nat} {M:List (List Ft)} (h:SetsP S B T many M) {F:List Ft} (hF:F∈M):F.length=many:=((h.2 F).1 hF).2.1
def pipesFt (k:Int) (S:Sp):List Ft:=(allFrom 0 S.rs).map fun p=>(k,p.1,p.2)
def numsFt (k:Int) (n:Nat):List Ft:=(List.range n).map fun (i:Nat)=>(k,(i:Int),0)
def allFt (S:Sp):List Ft:=pipesFt 1 S++pipesFt 2 S++numsFt 3 S.ss.length++numsFt 4 S.ss.length++numsFt 5 S.cs.length++numsFt 6 S.cs.length
theorem mem_pipesFt {k:Int} {S:Sp} {x:Ft}:x∈pipesFt k S↔x.1=k∧(x.2.1,x.2.2)∈allFrom 0 S.rs:=by
 unfold pipesFt
 rw [List.mem_map]
 constructor
 ·rintro ⟨p,hp,rfl⟩
  exact ⟨rfl,hp⟩
 ·rintro ⟨h1,h2⟩
  exact ⟨_,h2,by rw [← h1]⟩
theorem mem_numsFt {k:Int} {n:Nat} {x:Ft}:x∈numsFt k n↔x.1=k∧0≤x.2.1∧x.2.1<n∧x.2.2=0:=by
 unfold numsFt
 rw [List.mem_map]
 constructor
 ·rintro ⟨i,hi,rfl⟩
  have:=List.mem_range.1 hi
  exact ⟨rfl,Int.natCast_nonneg i,Int.ofNat_lt.2 this,rfl⟩
 ·rintro ⟨h1,h2,h3,h4⟩
  obtain ⟨a,b,c⟩:=x
  simp only at h1 h2 h3 h4
  subst h1
  subst h4
  exact ⟨b.toNat,List.mem_range.2 (by omega),by rw [Int.toNat_of_nonneg h2]⟩
theorem mem_allFt {S:Sp} {x:Ft}:x∈allFt S↔ftOk S x=true:=by
 unfold allFt ftOk
 simp only [List.mem_append,mem_pipesFt,mem_numsFt]
 constructor
 ·rintro (((((h | h) | h) | h) | h) | h)
  ·rw [if_pos (.inl h.1)];simpa using h.2
  ·rw [if_pos (.inr h.1)];simpa using h.2
  ·rw [if_neg (by omega),if_pos (.inl h.1)];simpa using h.2
  ·rw [if_neg (by omega),if_pos (.inr h.1)];simpa using h.2
  ·rw [if_neg (by omega),if_neg (by omega),if_pos (.inl h.1)];simpa using h.2
  ·rw [if_neg (by omega),if_neg (by omega),if_pos (.inr h.1)];simpa using h.2
 ·intro h
  split at h
  ·rename_i hk
   have h:=of_decide_eq_true h
   rcases hk with hk | hk
   ·exact .inl (.inl (.inl (.inl (.inl ⟨hk,h⟩))))
   ·exact .inl (.inl (.inl (.inl (.inr ⟨hk,h⟩))))
  ·split at h
   ·rename_i hk
    have h:=of_decide_eq_true h
    rcases hk with hk | hk
    ·exact .inl (.inl (.inl (.inr ⟨hk,h⟩)))
    ·exact .inl (.inl (.inr ⟨hk,h⟩))
   ·split at h
    ·rename_i hk
     have h:=of_decide_eq_true h
     rcases hk with hk | hk
     ·exact .inl (.inr ⟨hk,h⟩)
     ·exact .inr ⟨hk,h⟩
    ·cases h
theorem asc_pipesFt (k:Int) (S:Sp):(pipesFt k S).Pairwise fLt:=by
 unfold pipesFt
 rw [List.pairwise_map]
 exact (asc_allFrom 0 S.rs).imp fun {a b} h => .inr ⟨rfl,h⟩
theorem asc_numsFt (k:Int) (n:Nat):(numsFt k n).Pairwise fLt:=by
 unfold numsFt
 rw [List.pairwise_map]
 exact List.pairwise_lt_range.imp fun {a b} h => .inr ⟨rfl,.inl (Int.ofNat_lt.2 h)⟩
theorem asc_allFt (S:Sp):(allFt S).Pairwise fLt:=by
 unfold allFt
 have hp:=fun k=>asc_pipesFt k S
 have hn:=fun k n=>asc_numsFt k n
 have key:∀ {l m:List Ft} {k:Int},l.Pairwise fLt→(∀ x∈l,x.1<k)→m.Pairwise fLt→(∀ x∈m,x.1=k)→(l++m).Pairwise fLt∧∀ x∈l++m,x.1<k+1:=by
  intro l m k h1 h2 h3 h4
  refine ⟨List.pairwise_append.2 ⟨h1,h3,fun a ha b hb => .inl (by rw [h4 b hb];exact h2 a ha)⟩,fun x hx=>?_⟩
  rcases List.mem_append.1 hx with h | h
  ·have:=h2 x h;omega
  ·have:=h4 x h;omega
 obtain ⟨a1,a2⟩:=key (k:=2) (hp 1) (fun x hx=>by have:=(mem_pipesFt.1 hx).1;omega) (hp 2) (fun x hx=>(mem_pipesFt.1 hx).1)
 obtain ⟨b1,b2⟩:=key (k:=3) a1 a2 (hn 3 S.ss.length) (fun x hx=>(mem_numsFt.1 hx).1)
 obtain ⟨c1,c2⟩:=key (k:=4) b1 b2 (hn 4 S.ss.length) (fun x hx=>(mem_numsFt.1 hx).1)
 obtain ⟨d1,d2⟩:=key (k:=5) c1 c2 (hn 5 S.cs.length) (fun x hx=>(mem_numsFt.1 hx).1)
 exact (key (k:=6) d1 d2 (hn 6 S.cs.length) (fun x hx=>(mem_numsFt.1 hx).1)).1
def subs:List Ft→Nat→List (List Ft)
 | _,0=>[[]]
 | [],_+1=>[]
 | x :: l,k+1=>(subs l k).map (x :: ·)++subs l (k+1)
theorem mem_subs:∀ {l:List Ft} {k:Nat} {F:List Ft},F∈subs l k↔F.Sublist l∧F.length=k
 | l,0,F=>by
  rw [show subs l 0=[[]] by cases l <;> rfl,List.mem_singleton]
  exact ⟨fun h=>by subst h;exact ⟨List.nil_sublist _,rfl⟩,fun h=>List.length_eq_zero_iff.1 h.2⟩
 | [],k+1,F=>by
  rw [subs]
  exact ⟨fun h=>(by cases h),fun h=>by have:=List.sublist_nil.1 h.1;subst this;cases h.2⟩
 | x :: l,k+1,F=>by
  rw [subs,List.mem_append,List.mem_map,mem_subs]
  constructor
  ·rintro (⟨G,hG,rfl⟩ | ⟨h1,h2⟩)
   ·obtain ⟨h1,h2⟩:=mem_subs.1 hG
    exact ⟨h1.cons_cons x,by rw [List.length_cons,h2]⟩
   ·exact ⟨h1.cons x,h2⟩
  ·rintro ⟨h1,h2⟩
   cases h1 with
   | cons _ h=>exact .inr ⟨h,h2⟩
   | cons_cons _ h=>exact .inl ⟨_,mem_subs.2 ⟨h,by simpa using h2⟩,rfl⟩
theorem subs_lex:∀ {l:List Ft} {k:Nat},l.Pairwise fLt→(subs l k).Pairwise lexLt
 | l,0,_=>by rw [show subs l 0=[[]] by cases l <;> rfl];exact List.pairwise_singleton _ _
 | [],k+1,_=>by rw [subs];exact List.Pairwise.nil
 | x :: l,k+1,h=>by
  rw [List.pairwise_cons] at h
  rw [subs,List.pairwise_append]
  refine ⟨?_,subs_lex h.2,?_⟩
  ·rw [List.pairwise_map]
   exact (subs_lex h.2).imp fun hh => .inr ⟨rfl,hh⟩
  ·intro a ha b hb
   obtain ⟨G,_,rfl⟩:=List.mem_map.1 ha
   obtain ⟨h1,h2⟩:=mem_subs.1 hb
   cases b with
   | nil=>cases h2
   | cons y b=>exact .inl (h.1 y (h1.subset (by simp)))
def okB (S:Sp) (B:(Th→Int)→Pp→Bool) (T:List Tr) (F:List Ft):Bool:=!conB F&&T.all fun t=>decide (hearL S B F t.1=t.2)
theorem okB_iff {S:Sp} {B:(Th→Int)→Pp→Bool} {T:List Tr} {F:List Ft}:okB S B T F=true↔(∀ x∈F,opp x ∉ F)∧Exps S B F T:=by
 unfold okB Exps
 rw [Bool.and_eq_true,Bool.not_eq_true',conB_iff,List.all_eq_true]
 simp only [decide_eq_true_iff]
theorem sets_all (S:Sp) (B:(Th→Int)→Pp→Bool) (T:List Tr) (many:Nat):SetsP S B T many ((subs (allFt S) many).filter (okB S B T)):=by
 refine ⟨(subs_lex (asc_allFt S)).filter _,fun F=>?_⟩
 rw [List.mem_filter,mem_subs,okB_iff]
 constructor
 ·rintro ⟨⟨h1,h2⟩,h3,h4⟩
  exact ⟨⟨(asc_allFt S).sublist h1,fun x hx=>mem_allFt.1 (h1.subset hx),h3⟩,h2,h4⟩
 ·rintro ⟨h1,h2,h3⟩
  refine ⟨⟨?_,h2⟩,h1.con,h3⟩
  have e:F=(allFt S).filter fun x=>decide (x∈F):=fts_one h1.asc ((asc_allFt S).filter _) fun x=>by
   rw [List.mem_filter,decide_eq_true_iff,mem_allFt]
   exact ⟨fun hx=>⟨h1.ok x hx,hx⟩,fun hx=>hx.2⟩
  rw [e]
  exact List.filter_sublist
theorem lea_all {S:Sp} {B:(Th→Int)→Pp→Bool} {T:List Tr} {most k:Nat} (hk:k≤most) (h0:∀ j,j<k→(subs (allFt S) j).filter (okB S B T)=[]) (h1:(subs (allFt S) k).filter (okB S B T)≠[]) (h2:((subs (allFt S) k).filter (okB S B T)).length≤200):LeaP S B T most ((subs (allFt S) k).filter (okB S B T)) 0:=by
 refine .inl ⟨k,hk,fun g hg hl hE=>?_,_,sets_all S B T k,h1,.inl ⟨h2,rfl,rfl⟩⟩
 have:=((sets_all S B T g.length).2 g).2 ⟨hg,rfl,hE⟩
 rw [h0 _ hl] at this
 cases this
def hearN (S:Sp) (B:(Th→Int)→Pp→Bool) (F:List Ft) (f:Th→Int) (k:Nat):List Pp :=
 (allFrom 0 S.rs).filter fun p=>(B (onF F f) p||decide ((1,p.1,p.2)∈F.take k))&&!decide ((2,p.1,p.2)∈F.take k)
theorem hearN_zero (S:Sp) (B:(Th→Int)→Pp→Bool) (F:List Ft) (f:Th→Int):hearN S B F f 0=sndL S B (onF F f):=by
 unfold hearN sndL
 congr 1
 funext p
 simp
theorem hearN_all (S:Sp) (B:(Th→Int)→Pp→Bool) (F:List Ft) (f:Th→Int):hearN S B F f F.length=hearL S B F f:=by
 unfold hearN hearL hearB
 rw [List.take_length]
theorem hearN_asc (S:Sp) (B:(Th→Int)→Pp→Bool) (F:List Ft) (f:Th→Int) (k:Nat):(hearN S B F f k).Pairwise ppLt:=(asc_allFrom 0 S.rs).filter _
theorem mem_hearN {S:Sp} {B:(Th→Int)→Pp→Bool} {F:List Ft} {f:Th→Int} {k:Nat} {p:Pp}:p∈hearN S B F f k↔p∈allFrom 0 S.rs∧(B (onF F f) p=true∨(1,p.1,p.2)∈F.take k)∧(2,p.1,p.2) ∉ F.take k:=by
 unfold hearN
 rw [List.mem_filter,Bool.and_eq_true,Bool.or_eq_true,Bool.not_eq_true',decide_eq_true_iff,decide_eq_false_iff_not]
theorem pps_one {l m:List Pp} (hl:l.Pairwise ppLt) (hm:m.Pairwise ppLt) (h:∀ p,p∈l↔p∈m):l=m:=asc_ext hl hm h
theorem hearN_skip {S:Sp} {B:(Th→Int)→Pp→Bool} {F:List Ft} {f:Th→Int} {k:Nat} (hk:k<F.length) (h1:F[k].1≠1) (h2:F[k].1≠2):hearN S B F f (k+1)=hearN S B F f k:=by
 refine pps_one (hearN_asc _ _ _ _ _) (hearN_asc _ _ _ _ _) fun p=>?_
 have e:∀ x:Ft,x.1=1∨x.1=2→(x∈F.take (k+1)↔x∈F.take k):=fun x hx=>by
  rw [List.take_succ_eq_append_getElem hk,List.mem_append,List.mem_singleton]
  refine ⟨fun h=>h.elim id fun h=>?_,.inl⟩
  subst h
  rcases hx with q | q
  ·exact absurd q h1
  ·exact absurd q h2
 rw [mem_hearN,mem_hearN,e _ (.inl rfl),e _ (.inr rfl)]
theorem hearN_cipher {S:Sp} {B:(Th→Int)→Pp→Bool} {F:List Ft} (hF:FtsOk S F) {f:Th→Int} {k:Nat} (hk:k<F.length) (h1:F[k].1=1):∀ p,p∈hearN S B F f (k+1)↔p∈hearN S B F f k∨p=(F[k].2.1,F[k].2.2):=by
 intro p
 have hx:=hF.ok _ (List.getElem_mem hk)
 have hin:(F[k].2.1,F[k].2.2)∈allFrom 0 S.rs:=by
  unfold ftOk at hx
  rw [if_pos (.inl h1)] at hx
  exact of_decide_eq_true hx
 have hno:((2,F[k].2.1,F[k].2.2):Ft) ∉ F:=by
  have h:=hF.con _ (List.getElem_mem hk)
  unfold opp at h
  rw [h1] at h
  simpa using h
 have hxe:F[k]=(1,F[k].2.1,F[k].2.2):=by rw [← h1]
 rw [mem_hearN,mem_hearN,List.take_succ_eq_append_getElem hk]
 simp only [List.mem_append,List.mem_singleton]
 constructor
 ·rintro ⟨a,b,c⟩
  by_cases e:p=(F[k].2.1,F[k].2.2)
  ·exact .inr e
  ·refine .inl ⟨a,?_,fun q=>c (.inl q)⟩
   rcases b with b | b | b
   ·exact .inl b
   ·exact .inr b
   ·rw [hxe] at b
    exact absurd (by rw [Prod.ext_iff] at b;exact b.2) e
 ·rintro (⟨a,b,c⟩ | rfl)
  ·refine ⟨a,?_,?_⟩
   ·rcases b with b | b
    ·exact .inl b
    ·exact .inr (.inl b)
   ·rintro (q | q)
    ·exact c q
    ·rw [hxe] at q
     exact absurd (show (2:Int)=1 from congrArg Prod.fst q) (by decide)
  ·refine ⟨hin,.inr (.inr hxe.symm),?_⟩
   rintro (q | q)
   ·exact hno (List.mem_of_mem_take q)
   ·rw [hxe] at q
    exact absurd (show (2:Int)=1 from congrArg Prod.fst q) (by decide)
theorem hearN_dead {S:Sp} {B:(Th→Int)→Pp→Bool} {F:List Ft} {f:Th→Int} {k:Nat} (hk:k<F.length) (h1:F[k].1=2):∀ p,p∈hearN S B F f (k+1)↔p∈hearN S B F f k∧p≠(F[k].2.1,F[k].2.2):=by
 intro p
 have hxe:F[k]=(2,F[k].2.1,F[k].2.2):=by rw [← h1]
 rw [mem_hearN,mem_hearN,List.take_succ_eq_append_getElem hk]
 simp only [List.mem_append,List.mem_singleton]
 constructor
 ·rintro ⟨a,b,c⟩
  refine ⟨⟨a,?_,fun q=>c (.inl q)⟩,fun e=>?_⟩
  ·rcases b with b | b | b
   ·exact .inl b
   ·exact .inr b
   ·rw [hxe] at b
    exact absurd (show (1:Int)=2 from congrArg Prod.fst b) (by decide)
  ·subst e
   exact c (.inr hxe.symm)
 ·rintro ⟨⟨a,b,c⟩,e⟩
  refine ⟨a,?_,?_⟩
  ·rcases b with b | b
   ·exact .inl b
   ·exact .inr (.inl b)
  ·rintro (q | q)
   ·exact c q
   ·rw [hxe] at q
    exact e (by rw [Prod.ext_iff] at q;exact q.2)
def chgM (l:List Int) (F:List Ft) (always:Int):Nat→List Int
 | 0=>l
 | k+1=>match F[k]? with
  | some x=>if x.1=always then chgM l F always k++[x.2.1] else if x.1=always+1 then (chgM l F always k).filter fun i=>!decide (i=x.2.1) else chgM l F always k
  | none=>chgM l F always k
theorem mem_chgM {S:Sp} {F:List Ft} (hF:FtsOk S F) {l:List Int} {always:Int} (ha:always=3∨always=5):∀ {k:Nat},k≤F.length→∀ i,i∈chgM l F always k↔(i∈l∨(always,i,0)∈F.take k)∧(always+1,i,0) ∉ F.take k
 | 0,_,i => by simp [chgM]
 | k+1,hk,i=>by
  have ih:=mem_chgM hF ha (k:=k) (by omega) (l:=l)
  have hkl:k<F.length:=hk
  have hx:=hF.ok _ (List.getElem_mem hkl)
  have hz:F[k].1=always∨F[k].1=always+1→F[k].2.2=0:=fun q=>by
   unfold ftOk at hx
   rw [if_neg (by omega)] at hx
   rcases ha with rfl | rfl
   ·rw [if_pos (by omega)] at hx
    exact (of_decide_eq_true hx).2.2
   ·rw [if_neg (by omega),if_pos (by omega)] at hx
    exact (of_decide_eq_true hx).2.2
  have hmem:∀ x:Ft,x∈F.take (k+1)↔x∈F.take k∨x=F[k]:=fun x=>by rw [List.take_succ_eq_append_getElem hkl,List.mem_append,List.mem_singleton]
  rw [chgM,List.getElem?_eq_getElem hkl]
  simp only
  rw [hmem,hmem]
  by_cases h1:F[k].1=always
  ·rw [if_pos h1,List.mem_append,List.mem_singleton,ih i]
   have hxe:F[k]=(always,F[k].2.1,0):=by rw [← h1,← hz (.inl h1)]
   have hop:((always+1,F[k].2.1,0):Ft) ∉ F:=by
    have h:=hF.con _ (List.getElem_mem hkl)
    rw [hxe] at h
    unfold opp at h
    rcases ha with rfl | rfl <;> simpa using h
   have hne:((always+1,i,0):Ft)≠F[k]:=fun q=>by
    have:=congrArg Prod.fst q
    simp only at this
    omega
   have hie:((always,i,0):Ft)=F[k]↔i=F[k].2.1:=by
    rw [hxe]
    simp
   rw [hie]
   constructor
   ·rintro (⟨a,b⟩ | rfl)
    ·exact ⟨a.elim .inl (fun q => .inr (.inl q)),fun q=>q.elim b hne⟩
    ·exact ⟨.inr (.inr rfl),fun q=>q.elim (fun q=>hop (List.mem_of_mem_take q)) hne⟩
   ·rintro ⟨a,b⟩
    rcases a with a | a | a
    ·exact .inl ⟨.inl a,fun q=>b (.inl q)⟩
    ·exact .inl ⟨.inr a,fun q=>b (.inl q)⟩
    ·exact .inr a
  ·rw [if_neg h1]
   have hne:((always,i,0):Ft)≠F[k]:=fun q=>h1 (congrArg Prod.fst q).symm
   by_cases h2:F[k].1=always+1
   ·rw [if_pos h2,List.mem_filter,ih i]
    have hxe:F[k]=(always+1,F[k].2.1,0):=by rw [← h2,← hz (.inr h2)]
    have hie:((always+1,i,0):Ft)=F[k]↔i=F[k].2.1:=by
     rw [hxe]
     simp
    rw [hie]
    simp only [Bool.not_eq_true',decide_eq_false_iff_not]
    constructor
    ·rintro ⟨⟨a,b⟩,c⟩
     exact ⟨a.elim .inl (fun q => .inr (.inl q)),fun q=>q.elim b c⟩
    ·rintro ⟨a,b⟩
     exact ⟨⟨a.elim .inl (fun q=>q.elim .inr (fun q=>absurd q hne)),fun q=>b (.inl q)⟩,fun q=>b (.inr q)⟩
   ·rw [if_neg h2,ih i]
    have hne2:((always+1,i,0):Ft)≠F[k]:=fun q=>h2 (congrArg Prod.fst q).symm
    constructor
    ·rintro ⟨a,b⟩
     exact ⟨a.elim .inl (fun q => .inr (.inl q)),fun q=>q.elim b hne2⟩
    ·rintro ⟨a,b⟩
     exact ⟨a.elim .inl (fun q=>q.elim .inr (fun q=>absurd q hne)),fun q=>b (.inl q)⟩
theorem chg_on {S:Sp} {F:List Ft} (hF:FtsOk S F) {H:Hn} (hH:HnOk S H) {k:Int} {n:Nat} {l:List Int} (hk:(k=2∧n=S.ss.length∧l=H.ss)∨(k=3∧n=S.cs.length∧l=H.cs)) {m:List Int} (hm:m.Pairwise (· < ·)) (hmem:∀ i,i∈m↔i∈chgM l F (2 * k-1) F.length):m=onL (onF F (onH H)) k n:=by
 refine asc_ints hm (asc_on _ _ _) fun i=>?_
 have hon:=onF_ok hF.ok hH.on
 rw [hmem,mem_onL]
 rcases hk with ⟨rfl,rfl,rfl⟩ | ⟨rfl,rfl,rfl⟩
 ·rw [show (2 * 2-1:Int)=3 from rfl,mem_chgM hF (.inl rfl) (Nat.le_refl _),List.take_length]
  have e:onF F (onH H) (2,0,i)=1↔(i∈H.ss∨(3,i,0)∈F)∧((3:Int)+1,i,0) ∉ F:=by
   rw [onF_stop,onH_stop,show (3:Int)+1=4 from rfl]
   by_cases a:((4,i,0):Ft)∈F <;> by_cases b:((3,i,0):Ft)∈F <;> by_cases c:i∈H.ss <;> simp [a,b,c]
  rw [e]
  refine ⟨fun h=>⟨?_,?_,h⟩,fun h=>h.2.2⟩
  ·exact (hon.stop 0 i (by rw [e.2 h];decide)).2.1
  ·exact (hon.stop 0 i (by rw [e.2 h];decide)).2.2
 ·rw [show (2 * 3-1:Int)=5 from rfl,mem_chgM hF (.inr rfl) (Nat.le_refl _),List.take_length]
  have e:onF F (onH H) (3,0,i)=1↔(i∈H.cs∨(5,i,0)∈F)∧((5:Int)+1,i,0) ∉ F:=by
   rw [onF_cou,onH_cou,show (5:Int)+1=6 from rfl]
   by_cases a:((6,i,0):Ft)∈F <;> by_cases b:((5,i,0):Ft)∈F <;> by_cases c:i∈H.cs <;> simp [a,b,c]
  rw [e]
  refine ⟨fun h=>⟨?_,?_,h⟩,fun h=>h.2.2⟩
  ·exact (hon.cou 0 i (by rw [e.2 h];decide)).2.1
  ·exact (hon.cou 0 i (by rw [e.2 h];decide)).2.2
structure AgP (S:Sp) (f:Th→Int) (cs:List Int) (m pd:List Pl):Prop where
 nodup:m.Nodup
 ok:∀ x∈m,keyOk S x=true
 act:∀ x∈m,Acts S f x
 sub:∀ x∈pd,x∈m
 key:∀ d k,0≤d∧d<(S.ds.length:Int)→k∈playedL f d→(d,k)∈m
 old:∀ x∈m,x ∉ pd→x.2∈playedL f x.1
 cou:∀ i (hi:i<S.cs.length),(i:Int)∈cs→∀ k∈takes S.cs[i].only (playedL f S.cs[i].frm),keyOk S (S.cs[i].to,k+S.cs[i].shift)=true→(S.cs[i].to,k+S.cs[i].shift)∈m
structure AgQ (S:Sp) (f:Th→Int) (cs:List Int) (i:Nat) (ks:List Int) (m pd:List Pl):Prop where
 p:AgP S f cs m pd
 part:∀ hi:i<S.cs.length,∀ k∈ks,keyOk S (S.cs[i].to,k+S.cs[i].shift)=true→(S.cs[i].to,k+S.cs[i].shift)∈m
theorem mem_addQ {S:Sp} {m q:List Pl} {x y:Pl}:y∈addQ S m q x↔y∈q∨(y=x∧keyOk S x=true∧x ∉ m):=by
 unfold addQ
 split
 ·rename_i h
  rw [List.mem_append,List.mem_singleton]
  exact ⟨fun q=>q.imp id fun e=>⟨e,h⟩,fun q=>q.imp id fun e=>e.1⟩
 ·rename_i h
  exact ⟨.inl,fun q=>q.elim id fun e=>absurd e.2 h⟩
theorem nodup_addM {S:Sp} {m:List Pl} {x:Pl} (h:m.Nodup):(addM S m x).Nodup:=by
 unfold addM
 split
 ·rename_i c
  rw [List.nodup_append]
  refine ⟨h,by simp,fun a ha b hb e=>?_⟩
  rw [List.mem_singleton] at hb
  exact c.2 (by rw [← hb,← e];exact ha)
 ·exact h
theorem len_addM {S:Sp} {m q:List Pl} {x:Pl}:(addM S m x).length+q.length=m.length+(addQ S m q x).length:=by
 unfold addM addQ
 split
 ·simp only [List.length_append,List.length_singleton];omega
 ·rfl
theorem AgP.put {S:Sp} {f:Th→Int} {cs:List Int} {m pd:List Pl} (h:AgP S f cs m pd) {x:Pl} (hx:keyOk S x=true→Acts S f x):AgP S f cs (addM S m x) (addQ S m pd x):=by
 refine ⟨nodup_addM h.nodup,fun y hy=>?_,fun y hy=>?_,fun y hy=>?_,fun d k hd hk=>mem_addM.2 (.inl (h.key d k hd hk)),fun y hy hn=>?_,fun i hi hc k hk ok=>mem_addM.2 (.inl (h.cou i hi hc k hk ok))⟩
 ·rcases mem_addM.1 hy with hy | ⟨rfl,hy⟩
  ·exact h.ok y hy
  ·exact hy
 ·rcases mem_addM.1 hy with hy | ⟨rfl,hy⟩
  ·exact h.act y hy
  ·exact hx hy
 ·rcases mem_addQ.1 hy with hy | ⟨rfl,hy,_⟩
  ·exact mem_addM.2 (.inl (h.sub y hy))
  ·exact mem_addM.2 (.inr ⟨rfl,hy⟩)
 ·rw [mem_addQ,not_or] at hn
  rcases mem_addM.1 hy with hy | ⟨rfl,hk⟩
  ·exact h.old y hy hn.1
  ·refine h.old y (Classical.byContradiction fun q=>hn.2 ⟨rfl,hk,q⟩) hn.1
theorem AgQ.start {S:Sp} {f:Th→Int} {cs:List Int} {i:Nat} {m pd:List Pl} (h:AgP S f cs m pd):AgQ S f cs i [] m pd:=⟨h,fun _ k hk=>(by cases hk)⟩
theorem AgQ.add {S:Sp} {f:Th→Int} {cs:List Int} {i:Nat} {ks:List Int} {m pd:List Pl} (h:AgQ S f cs i ks m pd) (hi:i<S.cs.length) (hon:f (3,0,(i:Int))=1) {k:Int} (hk:k∈takes S.cs[i].only (playedL f S.cs[i].frm)) :
  AgQ S f cs i (ks++[k]) (addM S m (S.cs[i].to,k+S.cs[i].shift)) (addQ S m pd (S.cs[i].to,k+S.cs[i].shift)):=by
 refine ⟨h.p.put fun ok => .cou i hi hon k hk ok,fun hi2 k2 hk2 ok=>?_⟩
 rcases List.mem_append.1 hk2 with hk2 | hk2
 ·exact mem_addM.2 (.inl (h.part hi2 k2 hk2 ok))
 ·rw [List.mem_singleton] at hk2
  subst hk2
  exact mem_addM.2 (.inr ⟨rfl,ok⟩)
theorem AgQ.end {S:Sp} {f:Th→Int} {cs:List Int} {i:Nat} {m pd:List Pl} (hi:i<S.cs.length) (h:AgQ S f cs i (takes S.cs[i].only (playedL f S.cs[i].frm)) m pd):AgP S f (cs++[(i:Int)]) m pd:=by
 refine ⟨h.p.nodup,h.p.ok,h.p.act,h.p.sub,h.p.key,h.p.old,fun j hj hc k hk ok=>?_⟩
 rcases List.mem_append.1 hc with hc | hc
 ·exact h.p.cou j hj hc k hk ok
 ·rw [List.mem_singleton] at hc
  have e:j=i:=by omega
  subst e
  exact h.part hj k hk ok
theorem AgP.all {S:Sp} {f:Th→Int} {cs:List Int} {m pd:List Pl} (h:AgP S f cs m pd) (hcs:∀ i,i<S.cs.length→f (3,0,(i:Int))=1→(i:Int)∈cs) (ht:∀ c∈S.cs,c.thr=true→c.only=0):AcI S f m pd∧AcH S f m:=by
 refine ⟨⟨h.nodup,h.ok,h.act,h.sub,fun x hx hn i hi hb hk=>?_⟩,⟨h.key,fun i hi hon=>h.cou i hi (hcs i hi hon)⟩⟩
 have h1:=h.old x hx hn
 have e:thrTo S x i=(S.cs[i].to,x.2+S.cs[i].shift):=by unfold thrTo;rw [List.getElem?_eq_getElem hi]
 unfold thrB at hb
 rw [List.getElem?_eq_getElem hi] at hb
 simp only [Bool.and_eq_true,decide_eq_true_iff] at hb
 rw [e] at hk ⊢
 refine h.cou i hi (hcs i hi hb.1.1) x.2 ?_ hk
 rw [ht _ (List.getElem_mem hi) hb.1.2,hb.2]
 unfold takes
 rw [if_neg (by decide),if_neg (by decide)]
 exact h1
structure AgT (S:Sp) (f:Th→Int) (l:List Pl) (cs:List Int) (m pd:List Pl):Prop where
 nodup:m.Nodup
 ok:∀ y∈m,keyOk S y=true
 act:∀ y∈m,Acts S f y
 sub:∀ y∈pd,y∈m
 here:∀ y∈l,y∈m
 closed:∀ y∈m,y ∉ l→y ∉ pd→∀ i,i<S.cs.length→thrB S f y i=true→keyOk S (thrTo S y i)=true→thrTo S y i∈m
 done:∀ x∈l,∀ i,i<S.cs.length→(i:Int)∈cs→thrB S f x i=true→keyOk S (thrTo S x i)=true→thrTo S x i∈m
theorem AgT.start {S:Sp} {f:Th→Int} {l m pd:List Pl} (h:AcI S f m (l++pd)):AgT S f l [] m pd :=
 ⟨h.nodup,h.ok,h.act,fun y hy=>h.sub y (List.mem_append_right _ hy),fun y hy=>h.sub y (List.mem_append_left _ hy),fun y hy h1 h2=>h.closed y hy (fun q=>(List.mem_append.1 q).elim h1 h2),fun _ _ _ _ hc=>(by cases hc)⟩
theorem AgT.skip {S:Sp} {f:Th→Int} {l:List Pl} {cs:List Int} {m pd:List Pl} (h:AgT S f l cs m pd) {i:Nat} (hn:∀ x∈l,thrB S f x i=false):AgT S f l (cs++[(i:Int)]) m pd :=
 ⟨h.nodup,h.ok,h.act,h.sub,h.here,h.closed,fun x hx j hj hc hb=>by
  rcases List.mem_append.1 hc with hc | hc
  ·exact h.done x hx j hj hc hb
  ·rw [List.mem_singleton] at hc
   have e:j=i:=by omega
   subst e
   rw [hn x hx] at hb
   cases hb⟩
structure AgU (S:Sp) (f:Th→Int) (l:List Pl) (cs:List Int) (i:Nat) (xs:List Pl) (m pd:List Pl):Prop where
 t:AgT S f l cs m pd
 part:∀ x∈xs,keyOk S (thrTo S x i)=true→thrTo S x i∈m
theorem AgT.put {S:Sp} {f:Th→Int} {l:List Pl} {cs:List Int} {m pd:List Pl} (h:AgT S f l cs m pd) {x:Pl} (hx:keyOk S x=true→Acts S f x):AgT S f l cs (addM S m x) (addQ S m pd x):=by
 refine ⟨nodup_addM h.nodup,fun y hy=>?_,fun y hy=>?_,fun y hy=>?_,fun y hy=>mem_addM.2 (.inl (h.here y hy)),fun y hy h1 hn i hi hb hk=>?_,fun y hy i hi hc hb hk=>mem_addM.2 (.inl (h.done y hy i hi hc hb hk))⟩
 ·rcases mem_addM.1 hy with hy | ⟨rfl,hy⟩
  ·exact h.ok y hy
  ·exact hy
 ·rcases mem_addM.1 hy with hy | ⟨rfl,hy⟩
  ·exact h.act y hy
  ·exact hx hy
 ·rcases mem_addQ.1 hy with hy | ⟨rfl,hy,_⟩
  ·exact mem_addM.2 (.inl (h.sub y hy))
  ·exact mem_addM.2 (.inr ⟨rfl,hy⟩)
 ·rw [mem_addQ,not_or] at hn
  rcases mem_addM.1 hy with hy | ⟨rfl,hkx⟩
  ·exact mem_addM.2 (.inl (h.closed y hy h1 hn.1 i hi hb hk))
  ·exact mem_addM.2 (.inl (h.closed y (Classical.byContradiction fun q=>hn.2 ⟨rfl,hkx,q⟩) h1 hn.1 i hi hb hk))
theorem AgU.start {S:Sp} {f:Th→Int} {l:List Pl} {cs:List Int} {i:Nat} {m pd:List Pl} (h:AgT S f l cs m pd):AgU S f l cs i [] m pd:=⟨h,fun _ hx=>(by cases hx)⟩
theorem AgU.add {S:Sp} {f:Th→Int} {l:List Pl} {cs:List Int} {i:Nat} {xs:List Pl} {m pd:List Pl} (h:AgU S f l cs i xs m pd) (hi:i<S.cs.length) {x:Pl} (hx:x∈l) (hb:thrB S f x i=true):AgU S f l cs i (xs++[x]) (addM S m (thrTo S x i)) (addQ S m pd (thrTo S x i)):=by
 refine ⟨h.t.put fun ok=>act_thr hi hb (h.t.act x (h.t.here x hx)) ok,fun y hy ok=>?_⟩
 rcases List.mem_append.1 hy with hy | hy
 ·exact mem_addM.2 (.inl (h.part y hy ok))
 ·rw [List.mem_singleton] at hy
  subst hy
  exact mem_addM.2 (.inr ⟨rfl,ok⟩)
theorem AgU.end {S:Sp} {f:Th→Int} {l:List Pl} {cs:List Int} {i:Nat} {m pd:List Pl} (h:AgU S f l cs i l m pd):AgT S f l (cs++[(i:Int)]) m pd :=
 ⟨h.t.nodup,h.t.ok,h.t.act,h.t.sub,h.t.here,h.t.closed,fun x hx j hj hc hb hk=>by
  rcases List.mem_append.1 hc with hc | hc
  ·exact h.t.done x hx j hj hc hb hk
  ·rw [List.mem_singleton] at hc
   have e:j=i:=by omega
   subst e
   exact h.part x hx hk⟩
theorem AgT.end {S:Sp} {f:Th→Int} {l:List Pl} {cs:List Int} {m pd:List Pl} (h:AgT S f l cs m pd) (hcs:∀ i,i<S.cs.length→f (3,0,(i:Int))=1→(i:Int)∈cs):AcI S f m pd :=
 ⟨h.nodup,h.ok,h.act,h.sub,fun x hx hn i hi hb hk=>by
  by_cases hl:x∈l
  ·refine h.done x hl i hi (hcs i hi ?_) hb hk
   unfold thrB at hb
   rw [List.getElem?_eq_getElem hi] at hb
   simp only [Bool.and_eq_true,decide_eq_true_iff] at hb
   exact hb.1.1
  ·exact h.closed x hx hl hn i hi hb hk⟩
end Go.Proofs.YteflhbfgpknabaaGreatDoor
