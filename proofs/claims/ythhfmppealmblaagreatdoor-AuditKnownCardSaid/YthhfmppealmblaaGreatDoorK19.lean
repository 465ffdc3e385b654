/-
  A part of the proof: AJ8, KW, AK3, AK0.
-/
import Derived.Test.YthhfmppealmblaaGreatDoorK18
import Derived.Test.YthhfmppealmblaaGreatDoorK05
import Derived.Test.YthhfmppealmblaaGreatDoorN08
import Derived.Test.YthhfmppealmblaaGreatDoorK07
namespace Go.Proofs.YthhfmppealmblaaGreatDoor
open Go.RowKit
end Go.Proofs.YthhfmppealmblaaGreatDoor
namespace Go.Proofs.YthhfmppealmblaaGreatDoor
open Go.RowKit
def upB (md:Region.Mode) (ops:Array Oper):Nat→Nat→Nat→Bool
 | 0,_,_=>false
 | f+1,k,i=>(List.range ops.size).any fun j=>Region.waitsFor md ops k j && (decide (j=i) || upB md ops f j i)
section
variable {P : Program} {md : Region.Mode} {ops : Array Oper} {Q : Exit → Act → World → Prop}
def Shut (md:Region.Mode) (ops:Array Oper) (ℓ:Nat→Bool):Prop:=∀ k j,ℓ k=true→Region.waitsFor md ops k j=true→ℓ j=true
theorem shut_up {ℓ:Nat→Bool} (h:Shut md ops ℓ):∀ (f k i:Nat),upB md ops f k i=true→ℓ i=false→ℓ k=false
 | 0,k,i,hu,_=>by cases hu
 | f+1,k,i,hu,hi=>by
  obtain ⟨j,_,hj⟩:=List.any_eq_true.1 hu
  rw [Bool.and_eq_true,Bool.or_eq_true,decide_eq_true_eq] at hj
  cases hk:ℓ k with
  | false=>rfl
  | true =>
   have h1:=h k j hk hj.1
   rcases hj.2 with e | e
   ·subst e;rw [hi] at h1;cases h1
   ·rw [shut_up h f j i e hi] at h1;cases h1
theorem shut_down {ℓ:Nat→Bool} (h:Shut md ops ℓ) {i:Nat} (hd:∀ j,Region.waitsFor md ops i j=true→ℓ j=true):∀ (f k:Nat),upB md ops f i k=true→ℓ k=true
 | 0,k,hu=>by cases hu
 | f+1,k,hu=>by
  obtain ⟨j,_,hj⟩:=List.any_eq_true.1 hu
  rw [Bool.and_eq_true,Bool.or_eq_true,decide_eq_true_eq] at hj
  have h1:=hd j hj.1
  rcases hj.2 with e | e
  ·subst e;exact h1
  ·cases hk:ℓ k with
   | true=>rfl
   | false=>rw [shut_up h f j k e hk] at h1;cases h1
def putX (x:Nat→Value):Option Nat→Value→Nat→Value
 | none,_=>x
 | some d,v=>upd x d v
def setB (ℓ:Nat→Bool) (i:Nat):Nat→Bool:=fun n=>if n=i then true else ℓ n
structure FlowJ (md:Region.Mode) (ops:Array Oper) (Res:Nat→Value→World→Prop) (J:(Nat→Bool)→(Nat→Value)→World→Prop) (ℓ:Nat→Bool) (x:Nat→Value) (w:World):Prop where
 j:J ℓ x w
 shut:Shut md ops ℓ
 res:∀ (i:Nat) (o:Oper) (d:Nat),ops[i]?=some o→o.dst=some d→ℓ i=true→(∃ k,ℓ k=false∧Region.waitsFor md ops k i=true)→Res i (x d) w
def FlowStep (P:Program) (md:Region.Mode) (ops:Array Oper) (Q:Exit→Act→World→Prop) (F:(Nat→Value)→Act) (Res:Nat→Value→World→Prop) (J:(Nat→Bool)→(Nat→Value)→World→Prop) (i:Nat) (o:Oper):Prop :=
 ∀ (ℓ:Nat→Bool) (x:Nat→Value) (w:World),J ℓ x w→ℓ i=false→(∀ f k,upB md ops f k i=true→ℓ k=false)→(∀ f k,upB md ops f i k=true→ℓ k=true)→(∀ j,Region.waitsFor md ops i j=true→∀ (o':Oper) (d':Nat),ops[j]?=some o'→o'.dst=some d'→Res j (x d') w) →
  ∀ K:Act→World→Prop,(∀ v w',J (setB ℓ i) (putX x o.dst v) w'→(∀ j v',ℓ j=true→(∃ k,k≠i∧ℓ k=false∧Region.waitsFor md ops k j=true)→Res j v' w→Res j v' w')→Res i v w'→K ((F x).put o.dst v) w')→wpOp P ops Q i K (F x) w
theorem flowJ_go (F:(Nat→Value)→Act) (Res:Nat→Value→World→Prop) (J:(Nat→Bool)→(Nat→Value)→World→Prop) (hback:backB md ops=true) (hapart:apartB ops=true)
  (hJ:∀ ℓ ℓ' x w,(∀ n,n<ops.size→ℓ n=ℓ' n)→J ℓ x w→J ℓ' x w)
  (hput:∀ (i:Nat) (o:Oper) (d:Nat),ops[i]?=some o→o.dst=some d→∀ x v,(F x).put (some d) v=F (upd x d v))
  (step:∀ (i:Nat) (o:Oper),ops[i]?=some o→FlowStep P md ops Q F Res J i o)
  (done:∀ ℓ x w,(∀ i,i<ops.size→ℓ i=true)→J ℓ x w→Q .normal (F x) w) :
  ∀ (fuel:Nat) (U:List Nat) (listed:Array Bool) (x:Nat→Value) (w:World),listed.size=ops.size→U.length≤fuel→(∀ i,i<ops.size→listed.getD i false=true∨i∈U)→FlowJ md ops Res J (fun n=>listed.getD n false) x w→wpAny P md ops Q fuel listed (F x) w:=by
 have all_done:∀ (listed:Array Bool) (x:Nat→Value) (w:World),(∀ i,i<ops.size→listed.getD i false=true)→FlowJ md ops Res J (fun n=>listed.getD n false) x w→Q .normal (F x) w:=fun listed x w hall hI=>done _ x w hall hI.j
 have none_left:∀ (listed:Array Bool),listed.size=ops.size→Region.ready md ops listed=[]→∀ i,i<ops.size→listed.getD i false=true:=by
  intro listed hsz hr i
  induction i using Nat.strongRecOn with
  | _ i ih =>
   intro hi
   cases hl:listed.getD i false with
   | true=>rfl
   | false =>
    have hm:i∈Region.ready md ops listed:=by
     obtain ⟨o,ho⟩:∃ o,ops[i]?=some o:=⟨ops[i],Array.getElem?_eq_getElem hi⟩
     exact mem_ready.2 ⟨getD_in (by rw [hsz];exact hi) hl,o,ho,fun e he hb=>by
      have hlt:=backB_spec hback ho e he hb
      exact ih e.on hlt (by omega)⟩
    rw [hr] at hm
    cases hm
 intro fuel
 induction fuel with
 | zero =>
  intro U listed x w hsz hU hL hI
  have hU0:U=[]:=List.length_eq_zero_iff.1 (Nat.le_zero.1 hU)
  subst hU0
  have hall:∀ i,i<ops.size→listed.getD i false=true:=fun i hi=>(hL i hi).resolve_right (by simp)
  refine ⟨?_,all_done listed x w hall hI⟩
  cases hr:Region.ready md ops listed with
  | nil=>rfl
  | cons j rest =>
   obtain ⟨h1,o,ho,_⟩:=mem_ready.1 (by rw [hr];exact List.mem_cons_self:j∈Region.ready md ops listed)
   have:=hall j (Array.getElem?_eq_some_iff.1 ho).1
   rw [getD_both h1] at this
   cases this
 | succ fuel ih =>
  intro U listed x w hsz hU hL hI
  refine ⟨fun hr=>all_done listed x w (none_left listed hsz hr) hI,fun i hi=>?_⟩
  obtain ⟨hun,o,ho,hall⟩:=mem_ready.1 hi
  have hil:i<ops.size:=(Array.getElem?_eq_some_iff.1 ho).1
  have hlf:listed.getD i false=false:=getD_both hun
  have hiU:i∈U:=(hL i hil).resolve_left (by rw [hlf];simp)
  have hdeps:∀ j,Region.waitsFor md ops i j=true→listed.getD j false=true:=fun j hw=>by
   obtain ⟨oi,hoi,e,he,hb,hon⟩:=Region.waitsFor_spec hw
   have:oi=o:=Option.some.inj (hoi.symm.trans ho)
   subst this
   rw [← hon]
   exact hall e he hb
  refine step i o ho (fun n=>listed.getD n false) x w hI.j hlf (fun f k hu=>shut_up hI.shut f k i hu hlf) (shut_down hI.shut hdeps) (fun j hw o' d' ho' hd'=>hI.res j o' d' ho' hd' (hdeps j hw) ⟨i,hlf,hw⟩) _ ?_
  intro v w' hj hkeep hres
  have hset:∀ n,n<ops.size→setB (fun n=>listed.getD n false) i n=(listed.setIfInBounds i true).getD n false:=fun n hn=>by
   unfold setB
   by_cases e:n=i
   ·subst e
    rw [if_pos rfl,Array.getD_eq_getD_getElem?,Array.getElem?_setIfInBounds_self_of_lt (by rw [hsz];exact hil)]
    rfl
   ·rw [if_neg e,getD_set_ne false (fun q=>e q.symm)]
  have hset2:∀ n,(listed.setIfInBounds i true).getD n false=true→n=i∨listed.getD n false=true:=fun n h=>by
   by_cases e:n=i
   ·exact .inl e
   ·rw [getD_set_ne false (fun q=>e q.symm)] at h
    exact .inr h
  have hset3:∀ n,listed.getD n false=true→(listed.setIfInBounds i true).getD n false=true:=fun n h=>by
   by_cases e:n=i
   ·subst e;rw [hlf] at h;cases h
   ·rw [getD_set_ne false (fun q=>e q.symm)]
    exact h
  have hL':∀ j,j<ops.size→(listed.setIfInBounds i true).getD j false=true∨j∈U.erase i:=fun j hj=>by
   by_cases e:j=i
   ·subst e
    left
    rw [Array.getD_eq_getD_getElem?,Array.getElem?_setIfInBounds_self_of_lt (by rw [hsz];exact hil)]
    rfl
   ·rcases hL j hj with h | h
    ·exact .inl (hset3 j h)
    ·exact .inr ((List.mem_erase_of_ne e).2 h)
  have hlen:(U.erase i).length≤fuel:=by rw [List.length_erase_of_mem hiU];omega
  have hj':J (fun n=>(listed.setIfInBounds i true).getD n false) (putX x o.dst v) w':=hJ _ _ _ _ hset hj
  have hshut':Shut md ops (fun n=>(listed.setIfInBounds i true).getD n false):=fun k j hk hw=>by
   rcases hset2 k hk with e | e
   ·subst e;exact hset3 j (hdeps j hw)
   ·exact hset3 j (hI.shut k j e hw)
  have hres':∀ (x':Nat→Value),(∀ j o' d',ops[j]?=some o'→o'.dst=some d'→j≠i→x' d'=x d')→(∀ d,o.dst=some d→x' d=v)→∀ (j:Nat) (o':Oper) (d':Nat),ops[j]?=some o'→o'.dst=some d'→(listed.setIfInBounds i true).getD j false=true→(∃ k,(listed.setIfInBounds i true).getD k false=false∧Region.waitsFor md ops k j=true)→Res j (x' d') w':=by
   intro x' hx1 hx2 j o' d' ho' hd' hlj hpend
   by_cases e:j=i
   ·subst e
    have:o'=o:=Option.some.inj (ho'.symm.trans ho)
    subst this
    rw [hx2 d' hd']
    exact hres
   ·rw [hx1 j o' d' ho' hd' e]
    have hlj2:=(hset2 j hlj).resolve_left e
    obtain ⟨k,hk,hkw⟩:=hpend
    have hki:k≠i:=fun q=>by
     subst q
     rw [Array.getD_eq_getD_getElem?,Array.getElem?_setIfInBounds_self_of_lt (by rw [hsz];exact hil)] at hk
     cases hk
    rw [getD_set_ne false (fun q=>hki q.symm)] at hk
    exact hkeep j _ hlj2 ⟨k,hki,hk,hkw⟩ (hI.res j o' d' ho' hd' hlj2 ⟨k,hk,hkw⟩)
  cases hd:o.dst with
  | none =>
   rw [hd] at hj'
   rw [show (F x).put none v=F x from rfl]
   exact ih (U.erase i) _ x w' (by simpa using hsz) hlen hL' ⟨hj',hshut',hres' x (fun _ _ _ _ _ _=>rfl) (fun d q=>by rw [hd] at q;cases q)⟩
  | some d =>
   rw [hd] at hj'
   rw [hput i o d ho hd]
   refine ih (U.erase i) _ _ w' (by simpa using hsz) hlen hL' ⟨hj',hshut',hres' (upd x d v) (fun j o' d' ho' hd' hne=>upd_other x v (apartB_spec hapart ho' ho hd' hd hne)) (fun d' q=>?_)⟩
   rw [hd] at q
   obtain rfl:=Option.some.inj q
   exact upd_same _ _ _
def JA (A S:Nat) (w0:World) (Final:(Nat→Value)→World→Prop) (ℓ:Nat→Bool) (x:Nat→Value) (z:World):Prop:=(ℓ A=false→Below w0.heap.size w0 z)∧(ℓ S=true→Final x z)
theorem ja_cong {A S:Nat} {w0:World} {Final:(Nat→Value)→World→Prop} (hA:A<ops.size) (hS:S<ops.size) (ℓ ℓ':Nat→Bool) (x:Nat→Value) (w:World) (h:∀ n,n<ops.size→ℓ n=ℓ' n) (hj:JA A S w0 Final ℓ x w):JA A S w0 Final ℓ' x w:=⟨fun q=>hj.1 ((h A hA).trans q),fun q=>hj.2 ((h S hS).trans q)⟩
theorem ja_start {A S:Nat} {w0:World} {Final:(Nat→Value)→World→Prop} (hS:S<ops.size) {x:Nat→Value} (ℓ:Nat→Bool) (h:∀ n,n<ops.size→ℓ n=false):JA A S w0 Final ℓ x w0.drew:=⟨fun _=>(Below.refl _ _).drew,fun q=>by rw [h S hS] at q;cases q⟩
theorem ja_plain {A S i:Nat} {w0 w w':World} {Final:(Nat→Value)→World→Prop} {ℓ:Nat→Bool} {x x':Nat→Value} (hj:JA A S w0 Final ℓ x w) (hA:i≠A) (hS:i≠S) (hS2:ℓ S=false) (hb:Below w.heap.size w w'):JA A S w0 Final (setB ℓ i) x' w':=by
 refine ⟨fun q=>?_,fun q=>?_⟩
 ·rw [setB,if_neg (fun e=>hA e.symm)] at q
  have h1:=hj.1 q
  exact h1.trans (hb.mono h1.size)
 ·rw [setB,if_neg (fun e=>hS e.symm),hS2] at q
  cases q
theorem ja_mid {A S:Nat} {w0 w':World} {Final:(Nat→Value)→World→Prop} {ℓ:Nat→Bool} {x:Nat→Value} (hAS:S≠A) (hS2:ℓ S=false):JA A S w0 Final (setB ℓ A) x w':=by
 refine ⟨fun q=>?_,fun q=>?_⟩
 ·rw [setB,if_pos rfl] at q;cases q
 ·rw [setB,if_neg hAS,hS2] at q;cases q
theorem ja_last {A S:Nat} {w0 w':World} {Final:(Nat→Value)→World→Prop} {ℓ:Nat→Bool} {x:Nat→Value} (hA:A=S∨ℓ A=true) (hf:Final x w'):JA A S w0 Final (setB ℓ S) x w':=by
 refine ⟨fun q=>?_,fun _=>hf⟩
 unfold setB at q
 by_cases e:A=S
 ·rw [if_pos e] at q;cases q
 ·rw [if_neg e,hA.resolve_left e] at q;cases q
def lastB (md:Region.Mode) (ops:Array Oper) (i:Nat):Bool:=(List.range ops.size).all fun k=>decide (k=i) || upB md ops 3 i k
theorem lastB_spec {i:Nat} (h:lastB md ops i=true) {ℓ:Nat→Bool} (hd:∀ f k,upB md ops f i k=true→ℓ k=true) {j:Nat}:¬ ∃ k,k≠i∧ℓ k=false∧Region.waitsFor md ops k j=true:=by
 rintro ⟨k,hk,hl,hw⟩
 obtain ⟨ok,hok,_⟩:=Region.waitsFor_spec hw
 have h1:=List.all_eq_true.1 h k (List.mem_range.2 (Array.getElem?_eq_some_iff.1 hok).1)
 rw [Bool.or_eq_true,decide_eq_true_eq] at h1
 rw [hd 3 k (h1.resolve_left hk)] at hl
 cases hl
theorem wp_region_flowJ {id:Nat} (F:(Nat→Value)→Act) (Res:Nat→Value→World→Prop) (J:(Nat→Bool)→(Nat→Value)→World→Prop) {a:Act} (x0:Nat→Value) {w:World} (ha:a=F x0) (hm:P.follows .mixedOrders=true) (hback:backB .any ops=true) (hapart:apartB ops=true)
  (start:∀ ℓ,(∀ n,n<ops.size→ℓ n=false)→J ℓ x0 w.drew)
  (hJ:∀ ℓ ℓ' x w,(∀ n,n<ops.size→ℓ n=ℓ' n)→J ℓ x w→J ℓ' x w)
  (hput:∀ (i:Nat) (o:Oper) (d:Nat),ops[i]?=some o→o.dst=some d→∀ x v,(F x).put (some d) v=F (upd x d v))
  (step:∀ (i:Nat) (o:Oper),ops[i]?=some o→FlowStep P .any ops Q F Res J i o)
  (done:∀ ℓ x w,(∀ i,i<ops.size→ℓ i=true)→J ℓ x w→Q .normal (F x) w):(Code.region id ops true).wp P Q a w:=by
 subst ha
 refine wp_region_any hm ?_
 have h0:∀ n,(Array.replicate ops.size false).getD n false=false:=fun n=>by
  cases h:(Array.replicate ops.size false).getD n false with
  | false=>rfl
  | true=>rw [getD_replicate_false] at h;cases h
 refine flowJ_go F Res J hback hapart hJ hput step done ops.size (List.range ops.size) _ x0 _ (by simp) (by simp) (fun i hi => .inr (List.mem_range.2 hi)) ⟨start _ (fun n _=>h0 n),fun k j hk _=>?_,fun i o d _ _ hl=>?_⟩
 ·rw [h0] at hk;cases hk
 ·rw [h0] at hl;cases hl
end
theorem wp_normal {P:Program} {c:Code} {Q:Exit→Act→World→Prop} {a:Act} {w:World} (h:c.wp P (Exit.then (fun a w=>Q .normal a w) (fun _ _ _=>False)) a w):c.wp P Q a w:=by
 refine Code.wp_mono ?_ h
 intro e a' w' hq
 cases e with
 | normal=>exact hq
 | exit id=>exact hq.elim
 | goto l=>exact hq.elim
 | ret=>exact hq.elim
 | panic ch=>exact hq.elim
 | outgrown=>exact hq.elim
end Go.Proofs.YthhfmppealmblaaGreatDoor
namespace Go.Proofs.YthhfmppealmblaaGreatDoor
open Go.RowKit
theorem row_apart {W:World} {b b2:Nat} {t t2:TypeId} {k k2 n n2:Nat} {v v2:Value} {xs xs2:List Value} (h:W.ownsRow b t k v n xs) (h2:W.ownsRow b2 t2 k2 v2 n2 xs2) (hne:t≠t2):v.ownBlock=none∨v.ownBlock≠v2.ownBlock:=by
 rcases h.2 with ⟨rfl,_⟩ | ⟨g,cap,cur,rfl,_,hg,_⟩
 ·exact .inl rfl
 ·right
  rcases h2.2 with ⟨rfl,_⟩ | ⟨g2,cap2,cur2,rfl,_,hg2,_⟩
  ·simp [Value.ownBlock]
  ·intro q
   have q2:g=g2:=by simpa [Value.ownBlock] using q
   subst q2
   rw [hg] at hg2
   cases hg2
   exact hne rfl
theorem clsE_ne {S:Sp} {l:List Ev} {cls:List Cl} (h:audE S l≠0):clsE S l cls=audE S l:=if_neg h
theorem clsE_long {S:Sp} {l:List Ev} {cls:List Cl} (h:audE S l=0) (h2:20000<cls.length):clsE S l cls=3:=by unfold clsE;rw [if_pos h,if_pos h2]
theorem clsE_at {S:Sp} {l:List Ev} {cls:List Cl} (h:audE S l=0) (h2:cls.length≤20000) {i:Nat} (hi:i<cls.length) (h3:∀ j (hj:j<cls.length),j<i→clE S cls[j]=0) (h4:clE S cls[i]≠0):clsE S l cls=clE S cls[i]:=by
 have e:clsF S cls i=clE S cls[i]:=by unfold clsF;rw [getD_at hi]
 unfold clsE
 rw [if_pos h,if_neg (by omega),fst0_some hi (by rw [e];exact h4) (fun j hj=>by unfold clsF;rw [getD_at (by omega)];exact h3 j (by omega) hj)]
 exact e
theorem clsE_zero {S:Sp} {l:List Ev} {cls:List Cl} (h:audE S l=0) (h2:cls.length≤20000) (h3:∀ j (hj:j<cls.length),clE S cls[j]=0):clsE S l cls=0:=by
 unfold clsE
 rw [if_pos h,if_neg (by omega),fst0_none.2 (fun i hi=>by unfold clsF;rw [getD_at hi];exact h3 i hi)]
def CsR (S:Sp) (B:(Th→Int)→Pp→Bool) (l:List Ev) (cls:List Cl) (w:World) (e:Ending) (w':World):Prop:=∃ v m c,e = .returned (.tuple #[v,.int .i64 c])∧w'.ownsRow w.heap.size 52 5 v m.length (faCs m)∧ClP S B l cls m c∧Below w.heap.size w w'
end Go.Proofs.YthhfmppealmblaaGreatDoor
namespace Go.Proofs.YthhfmppealmblaaGreatDoor
open Go.RowKit
section
variable {P : Program} {md : Region.Mode} {ops : Array Oper}
end
end Go.Proofs.YthhfmppealmblaaGreatDoor
