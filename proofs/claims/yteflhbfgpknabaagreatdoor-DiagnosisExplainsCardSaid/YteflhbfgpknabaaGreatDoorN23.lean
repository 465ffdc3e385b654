/-
  A part of the proof: KW, AK0, VM, HC.
-/
import Derived.Test.YteflhbfgpknabaaGreatDoorN08
import Derived.Test.YteflhbfgpknabaaGreatDoorN21
import Derived.Test.YteflhbfgpknabaaGreatDoorN22
import Derived.Test.YteflhbfgpknabaaGreatDoorN20
import Derived.Test.YteflhbfgpknabaaGreatDoorN01
import Derived.Below
namespace Go.Proofs.YteflhbfgpknabaaGreatDoor
open Go.RowKit
def upB (md:Region.Mode) (ops:Array Oper):Nat→Nat→Nat→Bool
 | 0,_,_ => false
 | f + 1,k,i=>(List.range ops.size).any fun j=>Region.waitsFor md ops k j && (decide (j=i) || upB md ops f j i)
section
variable {P : Program} {md : Region.Mode} {ops : Array Oper} {Q : Exit → Act → World → Prop}
def Shut (md:Region.Mode) (ops:Array Oper) (ℓ:Nat→Bool):Prop:=∀ k j,ℓ k=true→Region.waitsFor md ops k j=true→ℓ j=true
theorem shut_up {ℓ:Nat→Bool} (h:Shut md ops ℓ):∀ (f k i:Nat),upB md ops f k i=true→ℓ i=false→ℓ k=false
 | 0,k,i,hu,_ => by cases hu
 | f + 1,k,i,hu,hi=>by
  obtain ⟨j,_,hj⟩:=List.any_eq_true.1 hu
  rw [Bool.and_eq_true,Bool.or_eq_true,decide_eq_true_eq] at hj
  cases hk:ℓ k with
  | false=>rfl
  | true =>
   have h1:=h k j hk hj.1
   rcases hj.2 with e | e
   ·subst e; rw [hi] at h1; cases h1
   ·rw [shut_up h f j i e hi] at h1; cases h1
theorem shut_down {ℓ:Nat→Bool} (h:Shut md ops ℓ) {i:Nat} (hd:∀ j,Region.waitsFor md ops i j=true→ℓ j=true):∀ (f k:Nat),upB md ops f i k=true→ℓ k=true
 | 0,k,hu => by cases hu
 | f + 1,k,hu=>by
  obtain ⟨j,_,hj⟩:=List.any_eq_true.1 hu
  rw [Bool.and_eq_true,Bool.or_eq_true,decide_eq_true_eq] at hj
  have h1:=hd j hj.1
  rcases hj.2 with e | e
  ·subst e; exact h1
  ·cases hk:ℓ k with
   | true=>rfl
   | false=>rw [shut_up h f j k e hk] at h1; cases h1
def putX (x:Nat→Value):Option Nat→Value→Nat→Value
 | none,_=>x
 | some d,v=>upd x d v
def setB (ℓ:Nat→Bool) (i:Nat):Nat→Bool:=fun n=>if n=i then true else ℓ n
structure FlowJ (md:Region.Mode) (ops:Array Oper) (Res:Nat→Value→World→Prop) (J:(Nat→Bool)→(Nat→Value)→World→Prop) (ℓ:Nat→Bool) (x:Nat→Value) (w:World):Prop where
 j:J ℓ x w
 shut:Shut md ops ℓ
 res:∀ (i:Nat) (o:Oper) (d:Nat),ops[i]?=some o→o.dst=some d→ℓ i=true→(∃ k,ℓ k=false∧Region.waitsFor md ops k i=true)→Res i (x d) w
def FlowStep (P:Program) (md:Region.Mode) (ops:Array Oper) (Q:Exit→Act→World→Prop) (F:(Nat→Value)→Act) (Res:Nat→Value→World→Prop) (J:(Nat→Bool)→(Nat→Value)→World→Prop) (i:Nat) (o:Oper):Prop :=
 ∀ (ℓ:Nat→Bool) (x:Nat→Value) (w:World),J ℓ x w→ℓ i=false→(∀ f k,upB md ops f k i=true→ℓ k=false)→(∀ f k,upB md ops f i k=true→ℓ k=true)→(∀ j,Region.waitsFor md ops i j=true→∀ (o':Oper) (d':Nat),ops[j]?=some o'→o'.dst=some d'→Res j (x d') w) →
  ∀ K:Act→World→Prop,(∀ v w',J (setB ℓ i) (putX x o.dst v) w'→(∀ j v',ℓ j=true→(∃ k,k≠i∧ℓ k=false∧Region.waitsFor md ops k j=true)→Res j v' w→Res j v' w')→Res i v w'→K ((F x).put o.dst v) w')→wpOp P ops Q i K (F x) w
theorem flowJ_go (F:(Nat→Value)→Act) (Res:Nat→Value→World→Prop) (J:(Nat→Bool)→(Nat→Value)→World→Prop) (hback:backB md ops=true) (hapart:apartB ops=true)
  (hJ:∀ ℓ ℓ' x w,(∀ n,n < ops.size→ℓ n=ℓ' n)→J ℓ x w→J ℓ' x w)
  (hput:∀ (i:Nat) (o:Oper) (d:Nat),ops[i]?=some o→o.dst=some d→∀ x v,(F x).put (some d) v=F (upd x d v))
  (step:∀ (i:Nat) (o:Oper),ops[i]?=some o→FlowStep P md ops Q F Res J i o)
  (done:∀ ℓ x w,(∀ i,i < ops.size→ℓ i=true)→J ℓ x w→Q .normal (F x) w) :
  ∀ (fuel:Nat) (U:List Nat) (listed:Array Bool) (x:Nat→Value) (w:World),listed.size=ops.size→U.length≤fuel→(∀ i,i < ops.size→listed.getD i false=true∨i∈U)→FlowJ md ops Res J (fun n=>listed.getD n false) x w→wpAny P md ops Q fuel listed (F x) w:=by
 have all_done:∀ (listed:Array Bool) (x:Nat→Value) (w:World),(∀ i,i < ops.size→listed.getD i false=true)→FlowJ md ops Res J (fun n=>listed.getD n false) x w→Q .normal (F x) w:=fun listed x w hall hI=>done _ x w hall hI.j
 have none_left:∀ (listed:Array Bool),listed.size=ops.size→Region.ready md ops listed=[]→∀ i,i < ops.size→listed.getD i false=true:=by
  intro listed hsz hr i
  induction i using Nat.strongRecOn with
  | _ i ih =>
   intro hi
   cases hl:listed.getD i false with
   | true=>rfl
   | false =>
    have hm:i∈Region.ready md ops listed:=by
     obtain ⟨o,ho⟩:∃ o,ops[i]?=some o:=⟨ops[i],Array.getElem?_eq_getElem hi⟩
     exact mem_ready.2 ⟨getD_in (by rw [hsz]; exact hi) hl,o,ho,fun e he hb=>by
      have hlt:=backB_spec hback ho e he hb
      exact ih e.on hlt (by omega)⟩
    rw [hr] at hm
    cases hm
 intro fuel
 induction fuel with
 | zero =>
  intro U listed x w hsz hU hL hI
  have hU0:U=[]:=List.length_eq_zero_iff.1 (Nat.le_zero.1 hU)
  subst hU0
  have hall:∀ i,i < ops.size→listed.getD i false=true:=fun i hi=>(hL i hi).resolve_right (by simp)
  refine ⟨?_,all_done listed x w hall hI⟩
  cases hr:Region.ready md ops listed with
  | nil=>rfl
  | cons j rest =>
   obtain ⟨h1,o,ho,_⟩:=mem_ready.1 (by rw [hr]; exact List.mem_cons_self:j∈Region.ready md ops listed)
   have:=hall j (Array.getElem?_eq_some_iff.1 ho).1
   rw [getD_both h1] at this
   cases this
 | succ fuel ih =>
  intro U listed x w hsz hU hL hI
  refine ⟨fun hr=>all_done listed x w (none_left listed hsz hr) hI,fun i hi=>?_⟩
  obtain ⟨hun,o,ho,hall⟩:=mem_ready.1 hi
  have hil:i < ops.size:=(Array.getElem?_eq_some_iff.1 ho).1
  have hlf:listed.getD i false=false:=getD_both hun
  have hiU:i∈U:=(hL i hil).resolve_left (by rw [hlf]; simp)
  have hdeps:∀ j,Region.waitsFor md ops i j=true→listed.getD j false=true:=fun j hw=>by
   obtain ⟨oi,hoi,e,he,hb,hon⟩:=Region.waitsFor_spec hw
   have:oi=o:=Option.some.inj (hoi.symm.trans ho)
   subst this
   rw [← hon]
   exact hall e he hb
  refine step i o ho (fun n=>listed.getD n false) x w hI.j hlf (fun f k hu=>shut_up hI.shut f k i hu hlf) (shut_down hI.shut hdeps) (fun j hw o' d' ho' hd'=>hI.res j o' d' ho' hd' (hdeps j hw) ⟨i,hlf,hw⟩) _ ?_
  intro v w' hj hkeep hres
  have hset:∀ n,n < ops.size→setB (fun n=>listed.getD n false) i n=(listed.setIfInBounds i true).getD n false:=fun n hn=>by
   unfold setB
   by_cases e:n=i
   ·subst e
    rw [if_pos rfl,Array.getD_eq_getD_getElem?,Array.getElem?_setIfInBounds_self_of_lt (by rw [hsz]; exact hil)]
    rfl
   ·rw [if_neg e,getD_set_ne false (fun q=>e q.symm)]
  have hset2:∀ n,(listed.setIfInBounds i true).getD n false=true→n=i∨listed.getD n false=true:=fun n h=>by
   by_cases e:n=i
   ·exact .inl e
   ·rw [getD_set_ne false (fun q=>e q.symm)] at h
    exact .inr h
  have hset3:∀ n,listed.getD n false=true→(listed.setIfInBounds i true).getD n false=true:=fun n h=>by
   by_cases e:n=i
   ·subst e; rw [hlf] at h; cases h
   ·rw [getD_set_ne false (fun q=>e q.symm)]
    exact h
  have hL':∀ j,j < ops.size→(listed.setIfInBounds i true).getD j false=true∨j∈U.erase i:=fun j hj=>by
   by_cases e:j=i
   ·subst e
    left
    rw [Array.getD_eq_getD_getElem?,Array.getElem?_setIfInBounds_self_of_lt (by rw [hsz]; exact hil)]
    rfl
   ·rcases hL j hj with h | h
    ·exact .inl (hset3 j h)
    ·exact .inr ((List.mem_erase_of_ne e).2 h)
  have hlen:(U.erase i).length≤fuel:=by rw [List.length_erase_of_mem hiU]; omega
  have hj':J (fun n=>(listed.setIfInBounds i true).getD n false) (putX x o.dst v) w':=hJ _ _ _ _ hset hj
  have hshut':Shut md ops (fun n=>(listed.setIfInBounds i true).getD n false):=fun k j hk hw=>by
   rcases hset2 k hk with e | e
   ·subst e; exact hset3 j (hdeps j hw)
   ·exact hset3 j (hI.shut k j e hw)
  have hres':∀ (x':Nat→Value),(∀ j o' d',ops[j]?=some o'→o'.dst=some d'→j≠i→x' d'=x d')→(∀ d,o.dst=some d→x' d=v)→∀ (j:Nat) (o':Oper) (d':Nat),ops[j]?=some o'→o'.dst=some d'→(listed.setIfInBounds i true).getD j false=true→(∃ k,(listed.setIfInBounds i true).getD k false=false∧Region.waitsFor md ops k j=true)→Res j (x' d') w':=by
   intro x' hx1 hx2 j o' d' ho' hd' hlj hpend
   by_cases e:j=i
   ·subst e
    have:o'=o:=Option.some.inj (ho'.symm.trans ho)
    subst this
    rw [hx2 d' hd']
    exact hres
   ·rw [hx1 j o' d' ho' hd' e]
    have hlj2:=(hset2 j hlj).resolve_left e
    obtain ⟨k,hk,hkw⟩:=hpend
    have hki:k≠i:=fun q=>by
     subst q
     rw [Array.getD_eq_getD_getElem?,Array.getElem?_setIfInBounds_self_of_lt (by rw [hsz]; exact hil)] at hk
     cases hk
    rw [getD_set_ne false (fun q=>hki q.symm)] at hk
    exact hkeep j _ hlj2 ⟨k,hki,hk,hkw⟩ (hI.res j o' d' ho' hd' hlj2 ⟨k,hk,hkw⟩)
  cases hd:o.dst with
  | none =>
   rw [hd] at hj'
   rw [show (F x).put none v=F x from rfl]
   exact ih (U.erase i) _ x w' (by simpa using hsz) hlen hL' ⟨hj',hshut',hres' x (fun _ _ _ _ _ _=>rfl) (fun d q=>by rw [hd] at q; cases q)⟩
  | some d =>
   rw [hd] at hj'
   rw [hput i o d ho hd]
   refine ih (U.erase i) _ _ w' (by simpa using hsz) hlen hL' ⟨hj',hshut',hres' (upd x d v) (fun j o' d' ho' hd' hne=>upd_other x v (apartB_spec hapart ho' ho hd' hd hne)) (fun d' q=>?_)⟩
   rw [hd] at q
   obtain rfl:=Option.some.inj q
   exact upd_same _ _ _
def JA (A S:Nat) (w0:World) (Final:(Nat→Value)→World→Prop) (ℓ:Nat→Bool) (x:Nat→Value) (z:World):Prop:=(ℓ A=false→Below w0.heap.size w0 z)∧(ℓ S=true→Final x z)
theorem ja_cong {A S:Nat} {w0:World} {Final:(Nat→Value)→World→Prop} (hA:A < ops.size) (hS:S < ops.size) (ℓ ℓ':Nat→Bool) (x:Nat→Value) (w:World) (h:∀ n,n < ops.size→ℓ n=ℓ' n) (hj:JA A S w0 Final ℓ x w):JA A S w0 Final ℓ' x w:=⟨fun q=>hj.1 ((h A hA).trans q),fun q=>hj.2 ((h S hS).trans q)⟩
theorem ja_start {A S:Nat} {w0:World} {Final:(Nat→Value)→World→Prop} (hS:S < ops.size) {x:Nat→Value} (ℓ:Nat→Bool) (h:∀ n,n < ops.size→ℓ n=false):JA A S w0 Final ℓ x w0.drew:=⟨fun _=>(Below.refl _ _).drew,fun q=>by rw [h S hS] at q; cases q⟩
theorem ja_plain {A S i:Nat} {w0 w w':World} {Final:(Nat→Value)→World→Prop} {ℓ:Nat→Bool} {x x':Nat→Value} (hj:JA A S w0 Final ℓ x w) (hA:i≠A) (hS:i≠S) (hS2:ℓ S=false) (hb:Below w.heap.size w w'):JA A S w0 Final (setB ℓ i) x' w':=by
 refine ⟨fun q=>?_,fun q=>?_⟩
 ·rw [setB,if_neg (fun e=>hA e.symm)] at q
  have h1:=hj.1 q
  exact h1.trans (hb.mono h1.size)
 ·rw [setB,if_neg (fun e=>hS e.symm),hS2] at q
  cases q
theorem ja_mid {A S:Nat} {w0 w':World} {Final:(Nat→Value)→World→Prop} {ℓ:Nat→Bool} {x:Nat→Value} (hAS:S≠A) (hS2:ℓ S=false):JA A S w0 Final (setB ℓ A) x w':=by
 refine ⟨fun q=>?_,fun q=>?_⟩
 ·rw [setB,if_pos rfl] at q; cases q
 ·rw [setB,if_neg hAS,hS2] at q; cases q
theorem ja_last {A S:Nat} {w0 w':World} {Final:(Nat→Value)→World→Prop} {ℓ:Nat→Bool} {x:Nat→Value} (hA:A=S∨ℓ A=true) (hf:Final x w'):JA A S w0 Final (setB ℓ S) x w':=by
 refine ⟨fun q=>?_,fun _=>hf⟩
 unfold setB at q
 by_cases e:A=S
 ·rw [if_pos e] at q; cases q
 ·rw [if_neg e,hA.resolve_left e] at q; cases q
def lastB (md:Region.Mode) (ops:Array Oper) (i:Nat):Bool:=(List.range ops.size).all fun k=>decide (k=i) || upB md ops 3 i k
theorem lastB_spec {i:Nat} (h:lastB md ops i=true) {ℓ:Nat→Bool} (hd:∀ f k,upB md ops f i k=true→ℓ k=true) {j:Nat}:¬ ∃ k,k≠i∧ℓ k=false∧Region.waitsFor md ops k j=true:=by
 rintro ⟨k,hk,hl,hw⟩
 obtain ⟨ok,hok,_⟩:=Region.waitsFor_spec hw
 have h1:=List.all_eq_true.1 h k (List.mem_range.2 (Array.getElem?_eq_some_iff.1 hok).1)
 rw [Bool.or_eq_true,decide_eq_true_eq] at h1
 rw [hd 3 k (h1.resolve_left hk)] at hl
 cases hl
theorem wp_region_flowJ {id:Nat} (F:(Nat→Value)→Act) (Res:Nat→Value→World→Prop) (J:(Nat→Bool)→(Nat→Value)→World→Prop) {a:Act} (x0:Nat→Value) {w:World} (ha:a=F x0) (hm:P.follows .mixedOrders=true) (hback:backB .any ops=true) (hapart:apartB ops=true)
  (start:∀ ℓ,(∀ n,n < ops.size→ℓ n=false)→J ℓ x0 w.drew)
  (hJ:∀ ℓ ℓ' x w,(∀ n,n < ops.size→ℓ n=ℓ' n)→J ℓ x w→J ℓ' x w)
  (hput:∀ (i:Nat) (o:Oper) (d:Nat),ops[i]?=some o→o.dst=some d→∀ x v,(F x).put (some d) v=F (upd x d v))
  (step:∀ (i:Nat) (o:Oper),ops[i]?=some o→FlowStep P .any ops Q F Res J i o)
  (done:∀ ℓ x w,(∀ i,i < ops.size→ℓ i=true)→J ℓ x w→Q .normal (F x) w):(Code.region id ops true).wp P Q a w:=by
 subst ha
 refine wp_region_any hm ?_
 have h0:∀ n,(Array.replicate ops.size false).getD n false=false:=fun n=>by
  cases h:(Array.replicate ops.size false).getD n false with
  | false=>rfl
  | true=>rw [getD_replicate_false] at h; cases h
 refine flowJ_go F Res J hback hapart hJ hput step done ops.size (List.range ops.size) _ x0 _ (by simp) (by simp) (fun i hi => .inr (List.mem_range.2 hi)) ⟨start _ (fun n _=>h0 n),fun k j hk _=>?_,fun i o d _ _ hl=>?_⟩
 ·rw [h0] at hk; cases hk
 ·rw [h0] at hl; cases hl
end
theorem wp_normal {P:Program} {c:Code} {Q:Exit→Act→World→Prop} {a:Act} {w:World} (h:c.wp P (Exit.then (fun a w=>Q .normal a w) (fun _ _ _=>False)) a w):c.wp P Q a w:=by
 refine Code.wp_mono ?_ h
 intro e a' w' hq
 cases e with
 | normal=>exact hq
 | exit id=>exact hq.elim
 | goto l=>exact hq.elim
 | ret=>exact hq.elim
 | panic ch=>exact hq.elim
 | outgrown=>exact hq.elim
end Go.Proofs.YteflhbfgpknabaaGreatDoor
namespace Go.Proofs.YteflhbfgpknabaaGreatDoor
open Go.RowKit
section
variable {P : Program} {md : Region.Mode} {ops : Array Oper}
def JB (A S:Nat) (w0:World) (Mid:World→Prop) (Final:World→Prop) (ℓ:Nat→Bool) (_x:Nat→Value) (z:World):Prop:=(ℓ A=false→Below w0.heap.size w0 z)∧(ℓ A=true→ℓ S=false→Mid z)∧(ℓ S=true→Final z)
theorem jb_cong {A S:Nat} {w0:World} {Mid Final:World→Prop} (hA:A < ops.size) (hS:S < ops.size) (ℓ ℓ':Nat→Bool) (x:Nat→Value) (w:World) (h:∀ n,n < ops.size→ℓ n=ℓ' n) (hj:JB A S w0 Mid Final ℓ x w):JB A S w0 Mid Final ℓ' x w :=
 ⟨fun q=>hj.1 ((h A hA).trans q),fun q r=>hj.2.1 ((h A hA).trans q) ((h S hS).trans r),fun q=>hj.2.2 ((h S hS).trans q)⟩
theorem jb_start {A S:Nat} {w0:World} {Mid Final:World→Prop} (hA:A < ops.size) (hS:S < ops.size) {x:Nat→Value} (ℓ:Nat→Bool) (h:∀ n,n < ops.size→ℓ n=false):JB A S w0 Mid Final ℓ x w0.drew :=
 ⟨fun _=>(Below.refl _ _).drew,(fun q=>by rw [h A hA] at q; cases q),(fun q=>by rw [h S hS] at q; cases q)⟩
theorem jb_plain {A S i:Nat} {w0 w w':World} {Mid Final:World→Prop} {ℓ:Nat→Bool} {x x':Nat→Value} (hM:∀ w w',Mid w→Below w.heap.size w w'→Mid w') (hj:JB A S w0 Mid Final ℓ x w) (hA:i≠A) (hS:i≠S) (hS2:ℓ S=false) (hb:Below w.heap.size w w'):JB A S w0 Mid Final (setB ℓ i) x' w':=by
 refine ⟨fun q=>?_,fun q _=>?_,fun q=>?_⟩
 ·rw [setB,if_neg (fun e=>hA e.symm)] at q
  have h1:=hj.1 q
  exact h1.trans (hb.mono h1.size)
 ·rw [setB,if_neg (fun e=>hA e.symm)] at q
  exact hM _ _ (hj.2.1 q hS2) hb
 ·rw [setB,if_neg (fun e=>hS e.symm),hS2] at q
  cases q
theorem jb_mid {A S:Nat} {w0 w':World} {Mid Final:World→Prop} {ℓ:Nat→Bool} {x:Nat→Value} (hAS:S≠A) (hS2:ℓ S=false) (hm:Mid w'):JB A S w0 Mid Final (setB ℓ A) x w':=by
 refine ⟨fun q=>?_,fun _ _=>hm,fun q=>?_⟩
 ·rw [setB,if_pos rfl] at q; cases q
 ·rw [setB,if_neg hAS,hS2] at q; cases q
theorem jb_last {A S:Nat} {w0 w':World} {Mid Final:World→Prop} {ℓ:Nat→Bool} {x:Nat→Value} (hAS:A≠S) (hA:ℓ A=true) (hf:Final w'):JB A S w0 Mid Final (setB ℓ S) x w':=by
 refine ⟨fun q=>?_,fun _ q=>?_,fun _=>hf⟩
 ·rw [setB,if_neg hAS,hA] at q; cases q
 ·rw [setB,if_pos rfl] at q; cases q
end
end Go.Proofs.YteflhbfgpknabaaGreatDoor
namespace Go.Proofs.YteflhbfgpknabaaGreatDoor
open Go.RowKit Go.Shelf
theorem ins_asc {l:List Pp} {p:Pp} {i:Nat} (hs:l.Pairwise ppLt) (b:BsI l p i i) (hn:p ∉ l):(l.take i ++ p :: l.drop i).Pairwise ppLt:=by
 rw [List.pairwise_append,List.pairwise_cons]
 have hup:∀ q∈l.drop i,ppLt p q:=fun q hq=>by
  obtain ⟨j,hj,rfl⟩:=List.getElem_of_mem hq
  rw [List.length_drop] at hj
  rw [List.getElem_drop]
  have h1:=b.hi (i + j) (by omega) (by omega)
  have h2:¬ (l[i + j].1=p.1∧l[i + j].2=p.2):=fun h=>hn (by rw [← show l[i + j]=p from Prod.ext h.1 h.2]; exact List.getElem_mem _)
  unfold ppLt at *
  omega
 refine ⟨hs.sublist (List.take_sublist _ _),⟨hup,hs.sublist (List.drop_sublist _ _)⟩,fun a ha c hc=>?_⟩
 obtain ⟨j,hj,rfl⟩:=List.getElem_of_mem ha
 rw [List.length_take] at hj
 rw [List.getElem_take]
 have h1:=b.lo j (by omega) (by omega)
 rcases List.mem_cons.1 hc with rfl | hc
 ·exact h1
 ·exact ppLt_trans h1 (hup c hc)
theorem mem_ins {l:List Pp} {p x:Pp} {i:Nat}:x∈l.take i ++ p :: l.drop i ↔ x∈l∨x=p:=by
 rw [List.mem_append,List.mem_cons]
 conv=>rhs; rw [← List.take_append_drop i l,List.mem_append]
 constructor
 ·rintro (h | h | h)
  ·exact .inl (.inl h)
  ·exact .inr h
  ·exact .inl (.inr h)
 ·rintro ((h | h) | h)
  ·exact .inl h
  ·exact .inr (.inr h)
  ·exact .inr (.inl h)
theorem mem_del {l:List Pp} (hs:l.Pairwise ppLt) {i:Nat} (hi:i < l.length) (x:Pp):x∈l.take i ++ l.drop (i + 1) ↔ x∈l∧x≠l[i]:=by
 have h:l=l.take i ++ l[i] :: l.drop (i + 1):=by rw [← List.drop_eq_getElem_cons hi,List.take_append_drop]
 have hs':=hs
 rw [h,List.pairwise_append,List.pairwise_cons] at hs'
 obtain ⟨_,⟨h2,_⟩,h3⟩:=hs'
 have irr:∀ q:Pp,¬ ppLt q q:=fun q=>by unfold ppLt; omega
 have hm:x∈l ↔ x∈l.take i∨x=l[i]∨x∈l.drop (i + 1):=by
  conv=>lhs; rw [h,List.mem_append,List.mem_cons]
 rw [hm,List.mem_append]
 constructor
 ·rintro (q | q)
  ·exact ⟨.inl q,fun e=>irr x (by have:=h3 x q l[i] List.mem_cons_self; rwa [← e] at this)⟩
  ·exact ⟨.inr (.inr q),fun e=>irr x (by have:=h2 x q; rwa [← e] at this)⟩
 ·rintro ⟨q | q | q,hne⟩
  ·exact .inl q
  ·exact absurd q hne
  ·exact .inr q
theorem del_asc {l:List Pp} (hs:l.Pairwise ppLt) (i:Nat):(l.take i ++ l.drop (i + 1)).Pairwise ppLt:=by
 rw [List.pairwise_append]
 refine ⟨hs.sublist (List.take_sublist _ _),hs.sublist (List.drop_sublist _ _),fun a ha c hc=>?_⟩
 obtain ⟨j,hj,rfl⟩:=List.getElem_of_mem ha
 obtain ⟨k,hk,rfl⟩:=List.getElem_of_mem hc
 rw [List.length_take] at hj
 rw [List.length_drop] at hk
 rw [List.getElem_take,List.getElem_drop]
 exact List.pairwise_iff_getElem.1 hs _ _ _ _ (by omega)
theorem owns_setI {W:World} {base size n B i:Nat} {t T:TypeId} {u:Value} {xs:List Value} {cs:Array Value} (h:W.ownsRow base t size u n xs) {v:Value} (hB:Blk W B T cs) (ht:T≠t):(W.setCell ⟨B,i,none⟩ v).ownsRow base t size u n xs:=by
 obtain ⟨h1,h2⟩:=h
 refine ⟨h1,h2.imp id ?_⟩
 rintro ⟨g,cap,cur,e1,e2,e3,e4⟩
 refine ⟨g,cap,cur,e1,e2,?_,e4⟩
 rw [Below.heap_setCell W ⟨B,i,none⟩ v g (fun e=>ht (by
  have h5:W.heap[B]?=_:=hB
  rw [show g=B from e,h5] at e3
  cases e3
  rfl))]
 exact e3
def HrsR (m:List Pp) (w:World) (e:Ending) (w':World):Prop:=∃ v,e = .returned v∧w'.ownsRow w.heap.size 78 2 v m.length (ppCs m)∧Below w.heap.size w w'
set_option maxRecDepth 100000 in
set_option maxHeartbeats 6400000 in
theorem hearsD_any (v1 v2 v3 v4:Value) (S:Sp) (ok:SpWk S) (hc:(checkP S).2=0) (fp:Nat→Value) (vk vs vc fv:Value) (H:Hn) (hH:HnOk S H) (F:List Ft) (hF:FtsOk S F) (hFl:F.length≤10) (B:(Th→Int)→Pp→Bool) (hB:SndIs S B) (w:World) (hD:Deb w) (ht:Tabs w) (hsp:SpRd w v1 v2 v3 v4 fp S) (hcap:∀ i,i < S.ss.length→CapOk (fp i)) (hh:HnRd w vk vs vc H) (hfv:ARd w fv 3 (F.map ftC)) :
  Calls Tryz.prog 37 #[.agg #[v1,v2,v3,v4],fv,.agg #[vk,vs,vc]] w (HrsR (hearL S B F (onH H)) w):=by
 have hb0:=below_two w (.cells #[v1,v2,v3,v4] 27) (.cells #[vk,vs,vc] 32)
 have k0:=(Blk.new w 27 #[v1,v2,v3,v4]).alloc (.cells #[vk,vs,vc] 32)
 have k1:=Blk.new (w.alloc (.cells #[v1,v2,v3,v4] 27)) 32 #[vk,vs,vc]
 rw [World.size_alloc] at k1
 have HB0:=Lib.hid hb0
 have K0:=Lib.hid k0
 have K1:=Lib.hid k1
 have hls:H.ss.length≤1000:=by rw [← hH.ss]; have:=len_onL (onH H) 2 S.ss.length; have:=(sp_lens hc).2.2.1; omega
 have hlc:H.cs.length≤1000:=by rw [← hH.cs]; have:=len_onL (onH H) 3 S.cs.length; have:=(sp_lens hc).2.2.2; omega
 have HC1:=Lib.hid (fun (W:World) (hb:Below w.heap.size w W)=>changed_any H.ss vs F fv 3 (.inl rfl) hls hFl W ((hh.later hb).stops) (hfv.later hb))
 have HC2:=Lib.hid (fun (W:World) (hb:Below w.heap.size w W)=>changed_any H.cs vc F fv 5 (.inr rfl) hlc hFl W ((hh.later hb).cous) (hfv.later hb))
 have HL1:=Lib.hid (fun (m:List Int) (hs:m.Pairwise (· < ·)) (hm:∀ x,x∈m ↔ x∈chgM H.ss F 3 F.length)=>chg_on hF hH (k:=2) (n:=S.ss.length) (l:=H.ss) (.inl ⟨rfl,rfl,rfl⟩) hs hm)
 have HL2:=Lib.hid (fun (m:List Int) (hs:m.Pairwise (· < ·)) (hm:∀ x,x∈m ↔ x∈chgM H.cs F 5 F.length)=>chg_on hF hH (k:=3) (n:=S.cs.length) (l:=H.cs) (.inr ⟨rfl,rfl,rfl⟩) hs hm)
 have HPP:=Lib.hid (fun (W:World) (hb:Below w.heap.size w W) (us uc:Value) (h1:ARd W us 1 ((onL (onF F (onH H)) 2 S.ss.length).map iC)) (h2:ARd W uc 1 ((onL (onF F (onH H)) 3 S.cs.length).map iC))=>pipesS_any v1 v2 v3 v4 S ok hc fp vk us uc (onF F (onH H)) (onF_ok hF.ok hH.on) B hB W (hD.below hb) (ht.below hb) (hsp.later hb) hcap ((hh.later hb).turnedC hH h1 h2))
 have HFV:=Lib.hid hfv
 have HF:=Lib.hid hF
 have HLN:=Lib.hid (show ∀ k,(hearN S B F (onH H) k).length≤4000 from fun k=>Nat.le_trans (List.length_filter_le _ _) (by
  have h1:=allFrom_len (spGood hc).r 0
  have h2:=sp_lens hc
  omega))
 obtain ⟨af,cf,ev⟩:=hfv.ftForm
 subst ev
 obtain ⟨s0,s1,s2,s3⟩:=k0.four
 have h0:=k1.cell 0
 have h1:=k1.cell 1
 have h2:=k1.cell 2
 simp only [List.getElem?_toArray,List.getElem?_cons_zero,List.getElem?_cons_succ] at h0 h1 h2
 go_enter Tryz.func37,Tryz.ntmps37
 go_upto_region 1 with fail
 generalize (w.alloc (.cells #[v1,v2,v3,v4] 27)).alloc (.cells #[vk,vs,vc] 32)=W0 at *
 have HBD:=Lib.hid HB0.out
 have HKD:=Lib.hid K1.out
 have HSD:=Lib.hid K0.out
 have HMID:=Lib.hid (show ∀ z z':World,(fun z=>∃ (ua:Option Addr) (un:Nat) (ms:List Int),ms.Pairwise (· < ·)∧(∀ x,x∈ms ↔ x∈chgM H.ss F 3 F.length)∧z.ownsRow w.heap.size 3 1 (.slice ua ms.length un) ms.length (vI ms)∧Blk z (w.heap.size + 1) 32 #[vk,.slice ua ms.length un,vc]∧Blk z w.heap.size 27 #[v1,v2,v3,v4]∧Below w.heap.size w z) z→Below z.heap.size z z'→(fun z=>∃ (ua:Option Addr) (un:Nat) (ms:List Int),ms.Pairwise (· < ·)∧(∀ x,x∈ms ↔ x∈chgM H.ss F 3 F.length)∧z.ownsRow w.heap.size 3 1 (.slice ua ms.length un) ms.length (vI ms)∧Blk z (w.heap.size + 1) 32 #[vk,.slice ua ms.length un,vc]∧Blk z w.heap.size 27 #[v1,v2,v3,v4]∧Below w.heap.size w z) z' from fun z z' ⟨a,n,m,p1,p2,r,k,s,l⟩ hb=>⟨a,n,m,p1,p2,row_later r hb,k.below hb,s.below hb,below_step l hb⟩)
 clear hb0 k0 k1 s0 s1 s2 s3 h0 h1 h2 hsp hcap hh hfv hD ht ok HB0 K0 K1
 have hmxx:Tryz.prog.follows .mixedOrders=true:=by kernel_rfl
 refine wp_normal (wp_region_flowJ (fun xX=>{ tmps:=#[.agg #[v1,v2,v3,v4],.slice af F.length cf,.agg #[vk,vs,vc],.pointer (some ⟨w.heap.size,0,none⟩),undef,.pointer (some ⟨w.heap.size + 1,0,none⟩),.slice none 0 0,undef,undef,undef,undef,undef,undef,undef,(xX 14),(xX 15),(xX 16),(xX 17),(xX 18),(xX 19),(xX 20),(xX 21),(xX 22),(xX 23),undef,undef,undef,undef,undef,undef,undef,undef,undef,undef,undef,undef,undef,undef,undef,undef,undef,undef,undef,undef,undef,undef,undef,undef,undef,undef,undef,undef,undef,undef,undef,undef,undef,undef,undef,undef,undef,undef,undef,undef,undef,undef,undef,undef,undef,undef,undef,undef],defers:=[] }) (fun iI v z=>match iI with
  | 0=>v = .pointer (some ⟨w.heap.size + 1,1,none⟩)
  | 1=>v=vs
  | 2=>v = .slice af F.length cf
  | 3=>∃ (ua:Option Addr) (un:Nat) (ms:List Int),v = .slice ua ms.length un∧ms.Pairwise (· < ·)∧(∀ x,x∈ms ↔ x∈chgM H.ss F 3 F.length)∧z.ownsRow w.heap.size 3 1 (.slice ua ms.length un) ms.length (vI ms)
  | 4=>v = .pointer (some ⟨w.heap.size + 1,2,none⟩)
  | 5=>v=vc
  | 6=>v = .slice af F.length cf
  | 7=>∃ (va:Option Addr) (vn:Nat) (mc:List Int),v = .slice va mc.length vn∧mc.Pairwise (· < ·)∧(∀ x,x∈mc ↔ x∈chgM H.cs F 5 F.length)∧z.ownsRow w.heap.size 3 1 (.slice va mc.length vn) mc.length (vI mc)
  | 8=>v = .pointer (some ⟨w.heap.size + 1,1,none⟩)
  | 9=>True
  | 10=>v = .pointer (some ⟨w.heap.size + 1,2,none⟩)
  | 11=>True
  | _=>True) (JB 9 11 W0 (fun z=>∃ (ua:Option Addr) (un:Nat) (ms:List Int),ms.Pairwise (· < ·)∧(∀ x,x∈ms ↔ x∈chgM H.ss F 3 F.length)∧z.ownsRow w.heap.size 3 1 (.slice ua ms.length un) ms.length (vI ms)∧Blk z (w.heap.size + 1) 32 #[vk,.slice ua ms.length un,vc]∧Blk z w.heap.size 27 #[v1,v2,v3,v4]∧Below w.heap.size w z) (fun z=>∃ (ua:Option Addr) (un:Nat) (ms:List Int) (va:Option Addr) (vn:Nat) (mc:List Int),(ms.Pairwise (· < ·)∧(∀ x,x∈ms ↔ x∈chgM H.ss F 3 F.length)∧z.ownsRow w.heap.size 3 1 (.slice ua ms.length un) ms.length (vI ms))∧(mc.Pairwise (· < ·)∧(∀ x,x∈mc ↔ x∈chgM H.cs F 5 F.length)∧z.ownsRow w.heap.size 3 1 (.slice va mc.length vn) mc.length (vI mc))∧Blk z (w.heap.size + 1) 32 #[vk,.slice ua ms.length un,.slice va mc.length vn]∧Blk z w.heap.size 27 #[v1,v2,v3,v4]∧Below w.heap.size w z)) (fun n=>(#[.agg #[v1,v2,v3,v4],.slice af F.length cf,.agg #[vk,vs,vc],.pointer (some ⟨w.heap.size,0,none⟩),undef,.pointer (some ⟨w.heap.size + 1,0,none⟩),.slice none 0 0,undef,undef,undef,undef,undef,undef,undef,undef,undef,undef,undef,undef,undef,undef,undef,undef,undef,undef,undef,undef,undef,undef,undef,undef,undef,undef,undef,undef,undef,undef,undef,undef,undef,undef,undef,undef,undef,undef,undef,undef,undef,undef,undef,undef,undef,undef,undef,undef,undef,undef,undef,undef,undef,undef,undef,undef,undef,undef,undef,undef,undef,undef,undef,undef,undef]:Array Value).getD n undef) rfl hmxx (by kernel_rfl) (by kernel_rfl) (jb_start (of_decide_eq_true (by kernel_rfl)) (of_decide_eq_true (by kernel_rfl))) (fun ℓ ℓ' xX w h hj=>jb_cong (of_decide_eq_true (by kernel_rfl)) (of_decide_eq_true (by kernel_rfl)) ℓ ℓ' xX w h hj) ?put ?step ?done)
 case put =>
  intro iI oO dD ho hd xX vV
  match iI,ho with
  | 0,ho | 1,ho | 2,ho | 3,ho | 4,ho | 5,ho | 6,ho | 7,ho | 8,ho | 10,ho => obtain rfl:=Option.some.inj (show some _=some oO from ho); obtain rfl:=Option.some.inj (show some _=some dD from hd); rfl
  | 9,ho | 11,ho => obtain rfl:=Option.some.inj (show some _=some oO from ho); cases hd
  | n + 12,ho=>exact absurd (Array.getElem?_eq_some_iff.1 ho).1 (by simp)
 case step =>
  intro iI oO ho ℓ xX z hj hli hup hdl hdep K hK
  match iI,ho with
  | 0,ho =>
   obtain rfl:=Option.some.inj (show some _=some oO from ho)
   have hls:ℓ 11=false:=hup 12 11 (by kernel_rfl)
   have hPl:=fun xx w' (hb:Below z.heap.size z w')=>jb_plain (i:=0) (x':=xx) HMID.out hj (by decide) (by decide) hls hb
   clear hdep ho hup
   dsimp only at hK ⊢
   refine wpOp_step rfl (fun K2 hK2=>?_)
   go_simp
   exact hK2 _ _ (hK _ _ (hPl _ _ (Below.refl _ _)) (fun _ _ _ _ h=>h) rfl)
  | 1,ho =>
   obtain rfl:=Option.some.inj (show some _=some oO from ho)
   have q0:xX 14 = .pointer (some ⟨w.heap.size + 1,1,none⟩):=hdep 0 (by kernel_rfl) _ _ rfl rfl
   have hls:ℓ 11=false:=hup 12 11 (by kernel_rfl)
   have hPl:=fun xx w' (hb:Below z.heap.size z w')=>jb_plain (i:=1) (x':=xx) HMID.out hj (by decide) (by decide) hls hb
   have hz:=hj.1 (hup 12 9 (by kernel_rfl))
   have c1:z.cell? ⟨w.heap.size + 1,1,none⟩=some vs:=(HKD.out.below hz).cell 1
   clear hdep ho hup
   dsimp only at hK ⊢
   simp only [q0] at hK ⊢
   refine wpOp_step rfl (fun K2 hK2=>?_)
   go_simp
   exact hK2 _ _ (hK _ _ (hPl _ _ (Below.refl _ _)) (fun _ _ _ _ h=>h) rfl)
  | 2,ho =>
   obtain rfl:=Option.some.inj (show some _=some oO from ho)
   have hls:ℓ 11=false:=hup 12 11 (by kernel_rfl)
   have hPl:=fun xx w' (hb:Below z.heap.size z w')=>jb_plain (i:=2) (x':=xx) HMID.out hj (by decide) (by decide) hls hb
   clear hdep ho hup
   dsimp only at hK ⊢
   refine wpOp_step rfl (fun K2 hK2=>?_)
   go_simp
   exact hK2 _ _ (hK _ _ (hPl _ _ (Below.refl _ _)) (fun _ _ _ _ h=>h) rfl)
  | 3,ho =>
   obtain rfl:=Option.some.inj (show some _=some oO from ho)
   have q1:xX 15=vs:=hdep 1 (by kernel_rfl) _ _ rfl rfl
   have q2:xX 16 = .slice af F.length cf:=hdep 2 (by kernel_rfl) _ _ rfl rfl
   have hls:ℓ 11=false:=hup 12 11 (by kernel_rfl)
   have hPl:=fun xx w' (hb:Below z.heap.size z w')=>jb_plain (i:=3) (x':=xx) HMID.out hj (by decide) (by decide) hls hb
   have hz:=hj.1 (hup 12 9 (by kernel_rfl))
   clear hdep ho hup
   dsimp only at hK ⊢
   simp only [q1,q2] at hK ⊢
   refine wpOp_step rfl (fun K2 hK2=>?_)
   go_simp
   refine (HC1.out z (below_step HBD.out hz)).mono ?_
   rintro e z1 ⟨uu,mm,rfl,hr,h1,h2,hb⟩
   obtain ⟨a9,c9,rfl⟩:=own_form hr
   refine hK2 _ _ (hK _ _ (hPl _ _ hb) ?_ ⟨a9,c9,mm,rfl,h1,h2,row_base hr (below_step HBD.out hz).size⟩)
   intro j v' hlj _ h
   match j,h with
   | 0,h=>exact h
   | 1,h=>exact h
   | 2,h=>exact h
   | 3,h=>obtain ⟨a,n,m,e,p1,p2,r⟩:=h; exact ⟨a,n,m,e,p1,p2,row_later r hb⟩
   | 4,h=>exact h
   | 5,h=>exact h
   | 6,h=>exact h
   | 7,h=>obtain ⟨a,n,m,e,p1,p2,r⟩:=h; exact ⟨a,n,m,e,p1,p2,row_later r hb⟩
   | 8,h=>exact h
   | 9,h=>exact h
   | 10,h=>exact h
   | 11,h=>exact h
   | _ + 12,_=>trivial
  | 4,ho =>
   obtain rfl:=Option.some.inj (show some _=some oO from ho)
   have hls:ℓ 11=false:=hup 12 11 (by kernel_rfl)
   have hPl:=fun xx w' (hb:Below z.heap.size z w')=>jb_plain (i:=4) (x':=xx) HMID.out hj (by decide) (by decide) hls hb
   clear hdep ho hup
   dsimp only at hK ⊢
   refine wpOp_step rfl (fun K2 hK2=>?_)
   go_simp
   exact hK2 _ _ (hK _ _ (hPl _ _ (Below.refl _ _)) (fun _ _ _ _ h=>h) rfl)
  | 5,ho =>
   obtain rfl:=Option.some.inj (show some _=some oO from ho)
   have q4:xX 18 = .pointer (some ⟨w.heap.size + 1,2,none⟩):=hdep 4 (by kernel_rfl) _ _ rfl rfl
   have hls:ℓ 11=false:=hup 12 11 (by kernel_rfl)
   have hPl:=fun xx w' (hb:Below z.heap.size z w')=>jb_plain (i:=5) (x':=xx) HMID.out hj (by decide) (by decide) hls hb
   have hz:=hj.1 (hup 12 9 (by kernel_rfl))
   have c2:z.cell? ⟨w.heap.size + 1,2,none⟩=some vc:=(HKD.out.below hz).cell 2
   clear hdep ho hup
   dsimp only at hK ⊢
   simp only [q4] at hK ⊢
   refine wpOp_step rfl (fun K2 hK2=>?_)
   go_simp
   exact hK2 _ _ (hK _ _ (hPl _ _ (Below.refl _ _)) (fun _ _ _ _ h=>h) rfl)
  | 6,ho =>
   obtain rfl:=Option.some.inj (show some _=some oO from ho)
   have hls:ℓ 11=false:=hup 12 11 (by kernel_rfl)
   have hPl:=fun xx w' (hb:Below z.heap.size z w')=>jb_plain (i:=6) (x':=xx) HMID.out hj (by decide) (by decide) hls hb
   clear hdep ho hup
   dsimp only at hK ⊢
   refine wpOp_step rfl (fun K2 hK2=>?_)
   go_simp
   exact hK2 _ _ (hK _ _ (hPl _ _ (Below.refl _ _)) (fun _ _ _ _ h=>h) rfl)
  | 7,ho =>
   obtain rfl:=Option.some.inj (show some _=some oO from ho)
   have q5:xX 19=vc:=hdep 5 (by kernel_rfl) _ _ rfl rfl
   have q6:xX 20 = .slice af F.length cf:=hdep 6 (by kernel_rfl) _ _ rfl rfl
   have hls:ℓ 11=false:=hup 12 11 (by kernel_rfl)
   have hPl:=fun xx w' (hb:Below z.heap.size z w')=>jb_plain (i:=7) (x':=xx) HMID.out hj (by decide) (by decide) hls hb
   have hz:=hj.1 (hup 12 9 (by kernel_rfl))
   clear hdep ho hup
   dsimp only at hK ⊢
   simp only [q5,q6] at hK ⊢
   refine wpOp_step rfl (fun K2 hK2=>?_)
   go_simp
   refine (HC2.out z (below_step HBD.out hz)).mono ?_
   rintro e z1 ⟨uu,mm,rfl,hr,h1,h2,hb⟩
   obtain ⟨a9,c9,rfl⟩:=own_form hr
   refine hK2 _ _ (hK _ _ (hPl _ _ hb) ?_ ⟨a9,c9,mm,rfl,h1,h2,row_base hr (below_step HBD.out hz).size⟩)
   intro j v' hlj _ h
   match j,h with
   | 0,h=>exact h
   | 1,h=>exact h
   | 2,h=>exact h
   | 3,h=>obtain ⟨a,n,m,e,p1,p2,r⟩:=h; exact ⟨a,n,m,e,p1,p2,row_later r hb⟩
   | 4,h=>exact h
   | 5,h=>exact h
   | 6,h=>exact h
   | 7,h=>obtain ⟨a,n,m,e,p1,p2,r⟩:=h; exact ⟨a,n,m,e,p1,p2,row_later r hb⟩
   | 8,h=>exact h
   | 9,h=>exact h
   | 10,h=>exact h
   | 11,h=>exact h
   | _ + 12,_=>trivial
  | 8,ho =>
   obtain rfl:=Option.some.inj (show some _=some oO from ho)
   have hls:ℓ 11=false:=hup 12 11 (by kernel_rfl)
   have hPl:=fun xx w' (hb:Below z.heap.size z w')=>jb_plain (i:=8) (x':=xx) HMID.out hj (by decide) (by decide) hls hb
   clear hdep ho hup
   dsimp only at hK ⊢
   refine wpOp_step rfl (fun K2 hK2=>?_)
   go_simp
   exact hK2 _ _ (hK _ _ (hPl _ _ (Below.refl _ _)) (fun _ _ _ _ h=>h) rfl)
  | 9,ho =>
   obtain rfl:=Option.some.inj (show some _=some oO from ho)
   have q8:xX 22 = .pointer (some ⟨w.heap.size + 1,1,none⟩):=hdep 8 (by kernel_rfl) _ _ rfl rfl
   have h3:∃ (ua:Option Addr) (un:Nat) (ms:List Int),xX 17 = .slice ua ms.length un∧ms.Pairwise (· < ·)∧(∀ x,x∈ms ↔ x∈chgM H.ss F 3 F.length)∧z.ownsRow w.heap.size 3 1 (.slice ua ms.length un) ms.length (vI ms):=hdep 3 (by kernel_rfl) _ _ rfl rfl
   obtain ⟨ua,un,ms,q3,a3,b3,r3⟩:=h3
   have hz:=hj.1 hli
   have hls:ℓ 11=false:=hup 12 11 (by kernel_rfl)
   have hbk:=HKD.out.below hz
   have c1:z.cell? ⟨w.heap.size + 1,1,none⟩=some vs:=hbk.cell 1
   have f1:=hbk.frozen 1
   clear hdep ho hup
   dsimp only at hK ⊢
   simp only [q8,q3] at hK ⊢
   refine wpOp_step rfl (fun K2 hK2=>?_)
   go_simp
   refine hK2 _ _ (hK undef _ (jb_mid (by decide) hls ⟨ua,un,ms,a3,b3,owns_setI r3 hbk (by decide),hbk.set 1 _,(HSD.out.below hz).other _ _ (Nat.ne_of_lt (Nat.lt_succ_self _)),(below_step HBD.out hz).setCell (Nat.le_succ _) _⟩) ?_ trivial)
   intro j v' hlj _ h
   match j,h with
   | 0,h=>exact h
   | 1,h=>exact h
   | 2,h=>exact h
   | 3,h=>obtain ⟨a,n,m,e,p1,p2,r⟩:=h; exact ⟨a,n,m,e,p1,p2,owns_setI r hbk (by decide)⟩
   | 4,h=>exact h
   | 5,h=>exact h
   | 6,h=>exact h
   | 7,h=>obtain ⟨a,n,m,e,p1,p2,r⟩:=h; exact ⟨a,n,m,e,p1,p2,owns_setI r hbk (by decide)⟩
   | 8,h=>exact h
   | 9,h=>exact h
   | 10,h=>exact h
   | 11,h=>exact h
   | _ + 12,_=>trivial
  | 10,ho =>
   obtain rfl:=Option.some.inj (show some _=some oO from ho)
   have hls:ℓ 11=false:=hup 12 11 (by kernel_rfl)
   have hPl:=fun xx w' (hb:Below z.heap.size z w')=>jb_plain (i:=10) (x':=xx) HMID.out hj (by decide) (by decide) hls hb
   clear hdep ho hup
   dsimp only at hK ⊢
   refine wpOp_step rfl (fun K2 hK2=>?_)
   go_simp
   exact hK2 _ _ (hK _ _ (hPl _ _ (Below.refl _ _)) (fun _ _ _ _ h=>h) rfl)
  | 11,ho =>
   obtain rfl:=Option.some.inj (show some _=some oO from ho)
   have q10:xX 23 = .pointer (some ⟨w.heap.size + 1,2,none⟩):=hdep 10 (by kernel_rfl) _ _ rfl rfl
   have h7:∃ (va:Option Addr) (vn:Nat) (mc:List Int),xX 21 = .slice va mc.length vn∧mc.Pairwise (· < ·)∧(∀ x,x∈mc ↔ x∈chgM H.cs F 5 F.length)∧z.ownsRow w.heap.size 3 1 (.slice va mc.length vn) mc.length (vI mc):=hdep 7 (by kernel_rfl) _ _ rfl rfl
   obtain ⟨va,vn,mc,q7,a7,b7,r7⟩:=h7
   obtain ⟨ua,un,ms,a3,b3,r3,k3,s3,l3⟩:=hj.2.1 (hdl 1 9 (by kernel_rfl)) hli
   have c2:z.cell? ⟨w.heap.size + 1,2,none⟩=some vc:=k3.cell 2
   have f2:=k3.frozen 2
   clear hdep ho hup
   dsimp only at hK ⊢
   simp only [q10,q7] at hK ⊢
   refine wpOp_step rfl (fun K2 hK2=>?_)
   go_simp
   exact hK2 _ _ (hK undef _ (jb_last (by decide) (hdl 1 9 (by kernel_rfl)) ⟨ua,un,ms,va,vn,mc,⟨a3,b3,owns_setI r3 k3 (by decide)⟩,⟨a7,b7,owns_setI r7 k3 (by decide)⟩,k3.set 2 _,s3.other _ _ (Nat.ne_of_lt (Nat.lt_succ_self _)),l3.setCell (Nat.le_succ _) _⟩) (fun _ _ _ hp _=>absurd hp (lastB_spec (by kernel_rfl) hdl)) trivial)
  | n + 12,ho=>exact absurd (Array.getElem?_eq_some_iff.1 ho).1 (by simp)
 case done =>
  intro ℓ xX z hall hj
  have hf:=hj.2.2 (hall 11 (of_decide_eq_true (by kernel_rfl)))
  obtain ⟨ua,un,ms,va,vn,mc,⟨has,hms,hrs⟩,⟨hac,hmc,hrc⟩,hkk,hss,hbb⟩:=hf
  have e1:=HL1.out ms has hms
  have e2:=HL2.out mc hac hmc
  obtain ⟨us,hus⟩:∃ us,Value.slice ua ms.length un=us:=⟨_,rfl⟩
  obtain ⟨uc,huc⟩:∃ uc,Value.slice va mc.length vn=uc:=⟨_,rfl⟩
  rw [hus] at hkk hrs
  rw [huc] at hkk hrc
  have HPZ:=Lib.hid (HPP.out z hbb us uc (by rw [← e1]; exact ARd.of_ints hrs) (by rw [← e2]; exact ARd.of_ints hrc))
  obtain ⟨s0,s1,s2,s3⟩:=hss.four
  obtain ⟨h0,h1,h2⟩:z.cell? ⟨w.heap.size + 1,0,none⟩=some vk∧z.cell? ⟨w.heap.size + 1,1,none⟩=some us∧z.cell? ⟨w.heap.size + 1,2,none⟩=some uc:=⟨hkk.cell 0,hkk.cell 1,hkk.cell 2⟩
  have HW:=Lib.hid hbb
  clear hj has hms hrs hac hmc hrc hkk hss hbb e1 e2 hus huc hall HPP HL1 HL2 HC1 HC2 HMID HBD HKD HSD
  dsimp only
  go_wp2_with fail
  refine HPZ.out.mono ?_
  rintro e W5 ⟨u,rfl,hrow,hb5⟩
  have HR5:=Lib.hid (show W5.ownsRow w.heap.size 78 2 u (hearN S B F (onH H) 0).length (ppCs (hearN S B F (onH H) 0)) from by rw [hearN_zero]; exact row_base hrow HW.out.size)
  have HB5:=Lib.hid (below_step HW.out hb5)
  clear hrow hb5 HPZ HW s0 s1 s2 s3 h0 h1 h2
  go_wp2
  go_loopw [7,32] (fun u x wr=>∃ k:Nat,k≤F.length∧x = .int .i64 k∧RowKit.Hid (wr.ownsRow w.heap.size 78 2 u (hearN S B F (onH H) k).length (ppCs (hearN S B F (onH H) k)))∧RowKit.Hid (Below w.heap.size w wr)) (fun _ x _=>F.length - (intOf x).toNat)
  case atStart=>exact ⟨0,Nat.zero_le _,rfl,HR5,HB5⟩
  clear HR5 HB5
  obtain ⟨k,hk,rfl,hR,hB⟩:=hrel
  by_cases hkl:k < F.length
  ·have hk2:(k:Int) < (F.length:Int):=by omega
   obtain ⟨b,o,c',ev,hbl,q0,q1,q2⟩:=(HFV.out.later hB.out).ftAt k hkl
   cases ev
   have HSK:=Lib.hid (fun h1 h2=>hearN_skip (S:=S) (B:=B) (f:=onH H) hkl h1 h2)
   have HCI:=Lib.hid (fun h1=>hearN_cipher (B:=B) HF.out (f:=onH H) hkl h1)
   have HDE:=Lib.hid (fun h1=>hearN_dead (S:=S) (B:=B) (f:=onH H) hkl h1)
   have HAS:=Lib.hid (hearN_asc S B F (onH H) k)
   have HA2:=Lib.hid (hearN_asc S B F (onH H) (k + 1))
   have HLK:=Lib.hid (HLN.out k)
   obtain ⟨m,hm⟩:∃ m,hearN S B F (onH H) k=m:=⟨_,rfl⟩
   obtain ⟨m',hm'⟩:∃ m',hearN S B F (onH H) (k + 1)=m':=⟨_,rfl⟩
   obtain ⟨x,hx⟩:∃ x,F[k]=x:=⟨_,rfl⟩
   rw [hx] at q0 q1 q2 HSK HCI HDE
   rw [hm] at HSK HCI HDE HAS HLK hR
   rw [hm'] at HSK HCI HDE HA2
   obtain ⟨k1,i1,t1⟩:=x
   simp only at q0 q1 q2
   clear hx hm
   have HM':=Lib.hid hm'
   clear hm'
   go_upto_region 7 with fail
   have hba:Below wr.heap.size wr (wr.alloc (.cells #[.int .i64 k1,.int .i64 i1,.int .i64 t1] 74)):=(Below.refl _ wr).alloc (Nat.le_refl _) _
   have hbb:Below wr.heap.size wr ((wr.alloc (.cells #[.int .i64 k1,.int .i64 i1,.int .i64 t1] 74)).alloc (.cells #[.int .i64 i1,.int .i64 t1] 78)):=hba.alloc (by simp) _
   have X0:=Lib.hid ((Blk.new wr 74 #[.int .i64 k1,.int .i64 i1,.int .i64 t1]).alloc (.cells #[.int .i64 i1,.int .i64 t1] 78))
   have x1:=Blk.new (wr.alloc (.cells #[.int .i64 k1,.int .i64 i1,.int .i64 t1] 74)) 78 #[.int .i64 i1,.int .i64 t1]
   rw [World.size_alloc] at x1
   have X1:=Lib.hid x1
   have HR4:=Lib.hid (row_later hR.out hbb)
   have HB4:=Lib.hid (below_step hB.out hbb)
   obtain ⟨X,hX⟩:∃ X,wr.heap.size=X:=⟨_,rfl⟩
   rw [hX] at X0 X1 ⊢
   generalize (wr.alloc (.cells #[.int .i64 k1,.int .i64 i1,.int .i64 t1] 74)).alloc (.cells #[.int .i64 i1,.int .i64 t1] 78)=W3 at *
   clear hba hbb x1 hX hR hB q0 q1 q2
   obtain ⟨y0,y1⟩:W3.cell? ⟨X + 1,0,none⟩=some (.int .i64 i1)∧W3.cell? ⟨X + 1,1,none⟩=some (.int .i64 t1):=⟨X1.out.cell 0,X1.out.cell 1⟩
   obtain ⟨ua,un,rfl⟩:=own_form HR4.out
   go_wp2_with fail
   refine (search_any m HAS.out (.slice ua m.length un) i1 t1 W3 (by have:=HLK.out; omega) (ARd.of_pps HR4.out)).mono ?_
   rintro e W4 ⟨at4,hbs,rfl,hb4⟩
   have HBS:=Lib.hid hbs
   have hle4:=hbs.len
   replace HR4:=Lib.hid (row_later HR4.out hb4)
   replace HB4:=Lib.hid (below_step HB4.out hb4)
   replace X0:=Lib.hid (X0.out.below hb4)
   replace X1:=Lib.hid (X1.out.below hb4)
   clear hb4 y0 y1 hbs
   have y0:W4.cell? ⟨X + 1,0,none⟩=some (.int .i64 i1):=X1.out.cell 0
   have y1:W4.cell? ⟨X + 1,1,none⟩=some (.int .i64 t1):=X1.out.cell 1
   have z0:W4.cell? ⟨X,0,none⟩=some (.int .i64 k1):=X0.out.cell 0
   by_cases hk1:k1=1
   ·subst hk1
    have HMM:=Lib.hid (HCI.out rfl)
    clear HSK HCI HDE
    by_cases hin:((i1,t1):Pp)∈m
    ·have d1:decide (((i1,t1):Pp)∈m)=true:=decide_eq_true hin
     have HE:=Lib.hid (show m'=m from pps_one HA2.out HAS.out fun p=>by
      rw [HMM.out]
      exact ⟨fun h=>h.elim id (fun e=>by rw [e]; exact hin),.inl⟩)
     clear hin
     go_wp2
     go_roundw
     case rel=>exact ⟨k + 1,by omega,by go_num,by rw [HM'.out,HE.out]; exact HR4,HB4⟩
     case measure=>simp [intOf]; omega
    ·have d1:decide (((i1,t1):Pp)∈m)=false:=decide_eq_false hin
     have HE:=Lib.hid (show m.take at4 ++ ((i1,t1):Pp) :: m.drop at4=m' from pps_one (ins_asc HAS.out HBS.out hin) HA2.out fun p=>by rw [mem_ins,HMM.out])
     have hbn:Below W4.heap.size W4 (W4.alloc (.cells #[.int .i64 i1,.int .i64 t1] 78)):=(Below.refl _ _).alloc (Nat.le_refl _) _
     have HBN:=Lib.hid (below_step HB4.out hbn)
     have HXN:=Lib.hid (X0.out.below hbn)
     have HRN:=Lib.hid (row_later HR4.out hbn)
     have HNE:=Lib.hid (show (Value.slice ua m.length un).ownBlock≠some W4.heap.size from fun e=>Nat.lt_irrefl _ (row_block HR4.out e))
     have hblk:=Blk.new W4 78 #[.int .i64 i1,.int .i64 t1]
     have HIC:=Lib.hid (insertP_any m (by have:=HLK.out; omega) w.heap.size at4 hle4 (.slice ua m.length un) (i1,t1) W4.heap.size _ HBN.out.size hblk HB4.out.size HNE.out HRN.out)
     clear hin hbn hblk
     go_wp2_with fail
     refine HIC.out.mono ?_
     rintro e W6 ⟨u6,rfl,hr6,hg6⟩
     have HR6:=Lib.hid (show W6.ownsRow w.heap.size 78 2 u6 m'.length (ppCs m') from by rw [← HE.out]; exact hr6)
     have HB6:=Lib.hid (HBN.out.grown hg6 HBN.out.size (fun j e=>row_ge HRN.out e))
     have z6:W6.cell? ⟨X,0,none⟩=some (.int .i64 1):=(HXN.out.grown hg6 (fun e=>row_not HRN.out HXN.out (by decide) e)).cell 0
     clear hr6 hg6 HIC y0 y1 z0
     go_wp2
     go_roundw
     case rel=>exact ⟨k + 1,by omega,by go_num,by rw [HM'.out]; exact HR6,HB6⟩
     case measure=>simp [intOf]; omega
   ·have e1:(k1 == 1)=false:=by simpa using hk1
    by_cases hk2':k1=2
    ·subst hk2'
     have HMM:=Lib.hid (HDE.out rfl)
     clear HSK HCI HDE
     by_cases hin:((i1,t1):Pp)∈m
     ·have d1:decide (((i1,t1):Pp)∈m)=true:=decide_eq_true hin
      obtain ⟨hlt4,hat4⟩:=(HBS.out.mem HAS.out).1 hin
      have HE:=Lib.hid (show m.take at4 ++ m.drop (at4 + 1)=m' from pps_one (del_asc HAS.out at4) HA2.out fun p=>by rw [mem_del HAS.out hlt4,HMM.out,hat4])
      have hwr4:IntKind.i64.wrap ((at4:Int) + 1)=(at4:Int) + 1:=IntWalk.i64_in _ (by have:=HLK.out; omega)
      have HDC:=Lib.hid (deleteP_any m (by have:=HLK.out; omega) w.heap.size at4 hlt4 (.slice ua m.length un) W4 HR4.out)
      clear hin hat4
      go_wp2_with fail
      refine HDC.out.mono ?_
      rintro e W6 ⟨u6,rfl,hr6,hg6⟩
      have HR6:=Lib.hid (show W6.ownsRow w.heap.size 78 2 u6 m'.length (ppCs m') from by rw [← HE.out]; exact hr6)
      have HB6:=Lib.hid (HB4.out.grown hg6 HB4.out.size (fun j e=>row_ge HR4.out e))
      clear hr6 hg6 HDC y0 y1 z0
      go_wp2
      go_roundw
      case rel=>exact ⟨k + 1,by omega,by go_num,by rw [HM'.out]; exact HR6,HB6⟩
      case measure=>simp [intOf]; omega
     ·have d1:decide (((i1,t1):Pp)∈m)=false:=decide_eq_false hin
      have HE:=Lib.hid (show m'=m from pps_one HA2.out HAS.out fun p=>by
       rw [HMM.out]
       exact ⟨fun h=>h.1,fun h=>⟨h,fun e=>hin (by rw [← e]; exact h)⟩⟩)
      clear hin
      go_wp2
      go_roundw
      case rel=>exact ⟨k + 1,by omega,by go_num,by rw [HM'.out,HE.out]; exact HR4,HB4⟩
      case measure=>simp [intOf]; omega
    ·have e2:(k1 == 2)=false:=by simpa using hk2'
     have HE:=Lib.hid (show m'=m from HSK.out hk1 hk2')
     clear HSK HCI HDE
     go_wp2
     go_roundw
     case rel=>exact ⟨k + 1,by omega,by go_num,by rw [HM'.out,HE.out]; exact HR4,HB4⟩
     case measure=>simp [intOf]; omega
  ·have hk2:¬ (k:Int) < (F.length:Int):=by omega
   have hke:k=F.length:=by omega
   rw [hke,hearN_all] at hR
   clear hke
   go_wp2
   go_ret
   exact ⟨_,rfl,hR.out,hB.out⟩
end Go.Proofs.YteflhbfgpknabaaGreatDoor
namespace Go.Proofs.YteflhbfgpknabaaGreatDoor
open Go.RowKit
theorem hc5 {w W W':World} {p0 p1 p2 p3 p4:Addr} {u0 u1 u2 u3 u4:Value} (h:Below w.heap.size w W∧W.cell? p0=some u0∧W.cell? p1=some u1∧W.cell? p2=some u2∧W.cell? p3=some u3∧W.cell? p4=some u4) (hb:Below W.heap.size W W'):Below w.heap.size w W'∧W'.cell? p0=some u0∧W'.cell? p1=some u1∧W'.cell? p2=some u2∧W'.cell? p3=some u3∧W'.cell? p4=some u4:=⟨below_step h.1 hb,(hb.cell (cell_size h.2.1)).trans h.2.1,(hb.cell (cell_size h.2.2.1)).trans h.2.2.1,(hb.cell (cell_size h.2.2.2.1)).trans h.2.2.2.1,(hb.cell (cell_size h.2.2.2.2.1)).trans h.2.2.2.2.1,(hb.cell (cell_size h.2.2.2.2.2)).trans h.2.2.2.2.2⟩
theorem hc7 {w W W':World} {p0 p1 p2 p3 p4 p5 p6:Addr} {u0 u1 u2 u3 u4 u5 u6:Value} (h:Below w.heap.size w W∧W.cell? p0=some u0∧W.cell? p1=some u1∧W.cell? p2=some u2∧W.cell? p3=some u3∧W.cell? p4=some u4∧W.cell? p5=some u5∧W.cell? p6=some u6) (hb:Below W.heap.size W W'):Below w.heap.size w W'∧W'.cell? p0=some u0∧W'.cell? p1=some u1∧W'.cell? p2=some u2∧W'.cell? p3=some u3∧W'.cell? p4=some u4∧W'.cell? p5=some u5∧W'.cell? p6=some u6:=⟨below_step h.1 hb,(hb.cell (cell_size h.2.1)).trans h.2.1,(hb.cell (cell_size h.2.2.1)).trans h.2.2.1,(hb.cell (cell_size h.2.2.2.1)).trans h.2.2.2.1,(hb.cell (cell_size h.2.2.2.2.1)).trans h.2.2.2.2.1,(hb.cell (cell_size h.2.2.2.2.2.1)).trans h.2.2.2.2.2.1,(hb.cell (cell_size h.2.2.2.2.2.2.1)).trans h.2.2.2.2.2.2.1,(hb.cell (cell_size h.2.2.2.2.2.2.2)).trans h.2.2.2.2.2.2.2⟩
theorem hc8 {w W W':World} {p0 p1 p2 p3 p4 p5 p6 p7:Addr} {u0 u1 u2 u3 u4 u5 u6 u7:Value} (h:Below w.heap.size w W∧W.cell? p0=some u0∧W.cell? p1=some u1∧W.cell? p2=some u2∧W.cell? p3=some u3∧W.cell? p4=some u4∧W.cell? p5=some u5∧W.cell? p6=some u6∧W.cell? p7=some u7) (hb:Below W.heap.size W W'):Below w.heap.size w W'∧W'.cell? p0=some u0∧W'.cell? p1=some u1∧W'.cell? p2=some u2∧W'.cell? p3=some u3∧W'.cell? p4=some u4∧W'.cell? p5=some u5∧W'.cell? p6=some u6∧W'.cell? p7=some u7:=⟨below_step h.1 hb,(hb.cell (cell_size h.2.1)).trans h.2.1,(hb.cell (cell_size h.2.2.1)).trans h.2.2.1,(hb.cell (cell_size h.2.2.2.1)).trans h.2.2.2.1,(hb.cell (cell_size h.2.2.2.2.1)).trans h.2.2.2.2.1,(hb.cell (cell_size h.2.2.2.2.2.1)).trans h.2.2.2.2.2.1,(hb.cell (cell_size h.2.2.2.2.2.2.1)).trans h.2.2.2.2.2.2.1,(hb.cell (cell_size h.2.2.2.2.2.2.2.1)).trans h.2.2.2.2.2.2.2.1,(hb.cell (cell_size h.2.2.2.2.2.2.2.2)).trans h.2.2.2.2.2.2.2.2⟩
end Go.Proofs.YteflhbfgpknabaaGreatDoor
