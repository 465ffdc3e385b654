/-
  A part of the proof: A6.
-/
import Derived.Test.YthhfmppealmblaaGreatDoorM12
namespace Go.Proofs.YthhfmppealmblaaGreatDoor
structure OnOk (S:Sp) (f:Th→Int):Prop where
 key:∀ d k:Int,f (1,d,k)≠0→keyOk S (d,k)=true∧0≤k∧k<128∧d<6
 bin:∀ t:Th,t.1=1∨t.1=2∨t.1=3→f t=0∨f t=1
 stop:∀ d n:Int,f (2,d,n)≠0→d=0∧0≤n∧n<S.ss.length
 cou:∀ d n:Int,f (3,d,n)≠0→d=0∧0≤n∧n<S.cs.length
theorem onOk_zero (S:Sp):OnOk S (fun _=>0):=⟨fun _ _ h=>absurd rfl h,fun _ _ => .inl rfl,fun _ _ h=>absurd rfl h,fun _ _ h=>absurd rfl h⟩
theorem pl_count {l:List Pl} (hn:l.Nodup) (h:∀ x∈l,0≤x.1∧x.1<6∧0≤x.2∧x.2<128):l.length≤768:=by
 have key:∀ (n:Nat) (l:List Nat),l.Nodup→(∀ x∈l,x<n)→l.length≤n:=by
  intro n
  induction n with
  | zero =>
   intro l _ h
   cases l with
   | nil=>exact Nat.le_refl _
   | cons x l=>exact absurd (h x (by simp)) (Nat.not_lt_zero x)
  | succ n ih =>
   intro l hn h
   by_cases hm:n∈l
   ·have h1:=ih (l.erase n) (hn.erase n) fun x hx=>by
     have h2:=h x (List.mem_of_mem_erase hx)
     have h3:x≠n:=fun e=>by
      subst e
      exact (List.Nodup.mem_erase_iff hn).1 hx |>.1 rfl
     omega
    rw [List.length_erase_of_mem hm] at h1
    omega
   ·have h1:=ih l hn fun x hx=>by
     have h2:=h x hx
     have h3:x≠n:=fun e=>hm (e ▸ hx)
     omega
    omega
 have h2:=key 768 (l.map fun x=>(x.1 * 128+x.2).toNat) (by
  rw [List.nodup_iff_pairwise_ne,List.pairwise_map]
  refine (List.Pairwise.and_mem.1 (List.nodup_iff_pairwise_ne.1 hn)).imp ?_
  rintro a b ⟨ha,hb,hne⟩ e
  have h3:=h a ha
  have h4:=h b hb
  exact hne (Prod.ext (by omega) (by omega))) (by
  intro x hx
  obtain ⟨y,hy,rfl⟩:=List.mem_map.1 hx
  have:=h y hy
  omega)
 rwa [List.length_map] at h2
def addM (S:Sp) (m:List Pl) (x:Pl):List Pl:=if keyOk S x=true∧x ∉ m then m++[x] else m
def addQ (S:Sp) (m q:List Pl) (x:Pl):List Pl:=if keyOk S x=true∧x ∉ m then q++[x] else q
theorem addM_yes {S:Sp} {m:List Pl} {x:Pl} (h:keyOk S x=true) (hx:x ∉ m):addM S m x=m++[x]:=if_pos ⟨h,hx⟩
theorem addM_no {S:Sp} {m:List Pl} {x:Pl} (h:keyOk S x=false∨x∈m):addM S m x=m:=if_neg fun q=>by
 rcases h with h | h
 ·rw [h] at q;cases q.1
 ·exact q.2 h
theorem addQ_yes {S:Sp} {m q:List Pl} {x:Pl} (h:keyOk S x=true) (hx:x ∉ m):addQ S m q x=q++[x]:=if_pos ⟨h,hx⟩
theorem addQ_no {S:Sp} {m q:List Pl} {x:Pl} (h:keyOk S x=false∨x∈m):addQ S m q x=q:=if_neg fun z=>by
 rcases h with h | h
 ·rw [h] at z;cases z.1
 ·exact z.2 h
theorem mem_addM {S:Sp} {m:List Pl} {x y:Pl}:y∈addM S m x ↔ y∈m∨(y=x∧keyOk S x=true):=by
 unfold addM
 by_cases h:keyOk S x=true∧x ∉ m
 ·rw [if_pos h,List.mem_append,List.mem_singleton]
  exact ⟨fun q=>q.imp id fun e=>⟨e,h.1⟩,fun q=>q.imp id fun e=>e.1⟩
 ·rw [if_neg h]
  refine ⟨.inl,fun q=>?_⟩
  rcases q with q | ⟨rfl,q⟩
  ·exact q
  ·exact Classical.byContradiction fun z=>h ⟨q,z⟩
def thrB (S:Sp) (f:Th→Int) (x:Pl) (i:Nat):Bool:=match S.cs[i]? with
 | none=>false
 | some c=>decide (f (3,0,(i:Int))=1) && c.thr && decide (c.frm=x.1)
def thrTo (S:Sp) (x:Pl) (i:Nat):Pl:=match S.cs[i]? with
 | none=>x
 | some c=>(c.to,x.2+c.shift)
structure AcI (S:Sp) (f:Th→Int) (m q:List Pl):Prop where
 nodup:m.Nodup
 ok:∀ x∈m,keyOk S x=true
 act:∀ x∈m,Acts S f x
 sub:∀ x∈q,x∈m
 closed:∀ x∈m,x ∉ q→∀ i,i<S.cs.length→thrB S f x i=true→keyOk S (thrTo S x i)=true→thrTo S x i∈m
theorem AcI.nil (S:Sp) (f:Th→Int):AcI S f [] []:=⟨List.nodup_nil,fun _ h=>(by cases h),fun _ h=>(by cases h),fun _ h=>(by cases h),fun _ h=>(by cases h)⟩
theorem AcI.add {S:Sp} {f:Th→Int} {m q:List Pl} (h:AcI S f m q) {x:Pl} (hx:keyOk S x=true→Acts S f x):AcI S f (addM S m x) (addQ S m q x):=by
 by_cases c:keyOk S x=true∧x ∉ m
 ·rw [addM_yes c.1 c.2,addQ_yes c.1 c.2]
  refine ⟨?_,fun y hy=>?_,fun y hy=>?_,fun y hy=>?_,fun y hy hq i hi ht hk=>?_⟩
  ·rw [List.nodup_append]
   refine ⟨h.nodup,by simp,fun a ha b hb e=>?_⟩
   rw [List.mem_singleton] at hb
   exact c.2 (by rw [← hb,← e];exact ha)
  ·rcases List.mem_append.1 hy with hy | hy
   ·exact h.ok y hy
   ·rw [List.mem_singleton.1 hy];exact c.1
  ·rcases List.mem_append.1 hy with hy | hy
   ·exact h.act y hy
   ·rw [List.mem_singleton.1 hy];exact hx c.1
  ·rcases List.mem_append.1 hy with hy | hy
   ·exact List.mem_append_left _ (h.sub y hy)
   ·exact List.mem_append_right _ hy
  ·rw [List.mem_append,not_or] at hq
   rcases List.mem_append.1 hy with hy | hy
   ·exact List.mem_append_left _ (h.closed y hy hq.1 i hi ht hk)
   ·exact absurd hy hq.2
 ·have c2:keyOk S x=false∨x∈m:=by
   cases e:keyOk S x with
   | false=>exact .inl rfl
   | true=>exact .inr (Classical.byContradiction fun z=>c ⟨e,z⟩)
  rw [addM_no c2,addQ_no c2]
  exact h
theorem keyOk_lt {S:Sp} (hd:S.ds.length≤6) (hdv:∀ d∈S.ds,dvE d=0) {x:Pl} (h:keyOk S x=true):0≤x.1∧x.1<S.ds.length∧x.1<6∧0≤x.2∧x.2<128:=by
 unfold keyOk at h
 rw [Bool.and_eq_true,Bool.and_eq_true,decide_eq_true_iff,decide_eq_true_iff] at h
 obtain ⟨⟨h1,h2⟩,h3⟩:=h
 unfold keyIn at h2
 have hb:x.1.toNat<S.ds.length:=by omega
 rw [List.getElem?_eq_getElem hb] at h2
 simp only [decide_eq_true_iff] at h2
 have h4:=hdv _ (List.getElem_mem hb)
 unfold dvE at h4
 split at h4
 ·omega
 ·cases h4
theorem AcI.len {S:Sp} {f:Th→Int} {m q:List Pl} (h:AcI S f m q) (hd:S.ds.length≤6) (hdv:∀ d∈S.ds,dvE d=0):m.length≤768 :=
 pl_count h.nodup fun x hx=>by
  have:=keyOk_lt hd hdv (h.ok x hx)
  omega
structure AcT (S:Sp) (f:Th→Int) (x:Pl) (k:Nat) (m q:List Pl):Prop where
 nodup:m.Nodup
 ok:∀ y∈m,keyOk S y=true
 act:∀ y∈m,Acts S f y
 sub:∀ y∈q,y∈m
 here:x∈m
 closed:∀ y∈m,y≠x→y ∉ q→∀ i,i<S.cs.length→thrB S f y i=true→keyOk S (thrTo S y i)=true→thrTo S y i∈m
 done:∀ i,i<k→thrB S f x i=true→keyOk S (thrTo S x i)=true→thrTo S x i∈m
theorem AcI.take {S:Sp} {f:Th→Int} {m q:List Pl} {x:Pl} (h:AcI S f m (x :: q)):AcT S f x 0 m q :=
 ⟨h.nodup,h.ok,h.act,fun y hy=>h.sub y (List.mem_cons_of_mem _ hy),h.sub x (by simp),fun y hy hne hq=>h.closed y hy (fun z=>by
  rcases List.mem_cons.1 z with z | z
  ·exact hne z
  ·exact hq z),fun i hi=>absurd hi (Nat.not_lt_zero i)⟩
theorem AcT.skip {S:Sp} {f:Th→Int} {m q:List Pl} {x:Pl} {k:Nat} (h:AcT S f x k m q) (hn:thrB S f x k=false):AcT S f x (k+1) m q :=
 ⟨h.nodup,h.ok,h.act,h.sub,h.here,h.closed,fun i hi ht=>by
  by_cases e:i=k
  ·subst e;rw [hn] at ht;cases ht
  ·exact h.done i (by omega) ht⟩
theorem act_thr {S:Sp} {f:Th→Int} {x:Pl} {k:Nat} (hk:k<S.cs.length) (ht:thrB S f x k=true) (hx:Acts S f x) (ok:keyOk S (thrTo S x k)=true):Acts S f (thrTo S x k):=by
 unfold thrB at ht
 unfold thrTo at ok ⊢
 rw [List.getElem?_eq_getElem hk] at ht ok ⊢
 simp only [Bool.and_eq_true,decide_eq_true_iff] at ht ok ⊢
 obtain ⟨d,key⟩:=x
 have e:S.cs[k].frm=d:=ht.2
 subst e
 exact .thr k hk ht.1.1 ht.1.2 key hx ok
theorem AcT.add {S:Sp} {f:Th→Int} {m q:List Pl} {x:Pl} {k:Nat} (h:AcT S f x k m q) (hk:k<S.cs.length) (ht:thrB S f x k=true):AcT S f x (k+1) (addM S m (thrTo S x k)) (addQ S m q (thrTo S x k)):=by
 have hdone:∀ i,i<k+1→thrB S f x i=true→keyOk S (thrTo S x i)=true→thrTo S x i∈addM S m (thrTo S x k):=by
  intro i hi hti hki
  rw [mem_addM]
  by_cases e:i=k
  ·subst e;exact .inr ⟨rfl,hki⟩
  ·exact .inl (h.done i (by omega) hti hki)
 generalize hy:thrTo S x k=y at *
 have hact:keyOk S y=true→Acts S f y:=fun ok=>by rw [← hy] at ok ⊢;exact act_thr hk ht (h.act x h.here) ok
 by_cases c:keyOk S y=true∧y ∉ m
 ·rw [addM_yes c.1 c.2] at hdone ⊢
  rw [addQ_yes c.1 c.2]
  refine ⟨?_,fun z hz=>?_,fun z hz=>?_,fun z hz=>?_,List.mem_append_left _ h.here,fun z hz hne hq i hi ht2 hk2=>?_,hdone⟩
  ·rw [List.nodup_append]
   refine ⟨h.nodup,by simp,fun a ha b hb e=>?_⟩
   rw [List.mem_singleton] at hb
   exact c.2 (by rw [← hb,← e];exact ha)
  ·rcases List.mem_append.1 hz with hz | hz
   ·exact h.ok z hz
   ·rw [List.mem_singleton.1 hz];exact c.1
  ·rcases List.mem_append.1 hz with hz | hz
   ·exact h.act z hz
   ·rw [List.mem_singleton.1 hz];exact hact c.1
  ·rcases List.mem_append.1 hz with hz | hz
   ·exact List.mem_append_left _ (h.sub z hz)
   ·exact List.mem_append_right _ hz
  ·rw [List.mem_append,not_or] at hq
   rcases List.mem_append.1 hz with hz | hz
   ·exact List.mem_append_left _ (h.closed z hz hne hq.1 i hi ht2 hk2)
   ·exact absurd hz hq.2
 ·have c2:keyOk S y=false∨y∈m:=by
   cases e:keyOk S y with
   | false=>exact .inl rfl
   | true=>exact .inr (Classical.byContradiction fun z=>c ⟨e,z⟩)
  rw [addM_no c2] at hdone ⊢
  rw [addQ_no c2]
  exact ⟨h.nodup,h.ok,h.act,h.sub,h.here,h.closed,hdone⟩
theorem AcT.end {S:Sp} {f:Th→Int} {m q:List Pl} {x:Pl} (h:AcT S f x S.cs.length m q):AcI S f m q :=
 ⟨h.nodup,h.ok,h.act,h.sub,fun y hy hq i hi ht hk=>by
  by_cases e:y=x
  ·subst e;exact h.done i hi ht hk
  ·exact h.closed y hy e hq i hi ht hk⟩
structure AcH (S:Sp) (f:Th→Int) (m:List Pl):Prop where
 key:∀ d k,0≤d∧d<(S.ds.length:Int)→k∈playedL f d→(d,k)∈m
 cou:∀ i (hi:i<S.cs.length),f (3,0,(i:Int))=1→∀ k∈takes S.cs[i].only (playedL f S.cs[i].frm),keyOk S (S.cs[i].to,k+S.cs[i].shift)=true→(S.cs[i].to,k+S.cs[i].shift)∈m
theorem act_all {S:Sp} {f:Th→Int} {m:List Pl} (h:AcI S f m []) (hh:AcH S f m) (x:Pl):x∈m ↔ Acts S f x:=by
 refine ⟨h.act x,act_in (Q:=fun x=>x∈m) hh.key hh.cou ?_ x⟩
 intro i hi hon ht k hk ok
 have e:thrTo S (S.cs[i].frm,k) i=(S.cs[i].to,k+S.cs[i].shift):=by unfold thrTo;rw [List.getElem?_eq_getElem hi]
 rw [← e]
 refine h.closed _ hk (by simp) i hi ?_ (by rw [e];exact ok)
 unfold thrB
 rw [List.getElem?_eq_getElem hi]
 simp only [Bool.and_eq_true,decide_eq_true_iff]
 exact ⟨⟨hon,ht⟩,trivial⟩
theorem addQ_measure {S:Sp} {m q:List Pl} {x:Pl}:2 * (addM S m x).length+q.length=2 * m.length+(addQ S m q x).length+(if keyOk S x=true∧x ∉ m then 1 else 0):=by
 unfold addM addQ
 split
 ·simp only [List.length_append,List.length_singleton];omega
 ·omega
end Go.Proofs.YthhfmppealmblaaGreatDoor
