/-
  A part of the proof: DK,DL,DM,UI,UQ,ShelfG,UJ,UK.
-/
import Derived.Test.YteflhbfgpknabaaGreatDoorL08
import Derived.Test.YteflhbfgpknabaaGreatDoorL11
import Derived.Test.YteflhbfgpknabaaGreatDoorL07
import Derived.Shelf.SlicesE.DeleteFunc
import Derived.Shelf.SlicesQ.IndexFunc
import Derived.Shelf.SlicesQ.Contains
import Derived.Shelf.SlicesQ.Equal
import Derived.Shelf.SlicesE.Clone
import Derived.Test.YteflhbfgpknabaaGreatDoorProg
set_option maxRecDepth 100000
set_option maxHeartbeats 1600000
namespace Go.Proofs.YteflhbfgpknabaaGreatDoor
open Go.Lib (hid)
def LedP (S:Sp) (B:(Th→Int)→Pp→Bool) (T:List Tr) (V:List (List Ft)) (g:List Ft):Prop:=∃ t∈T,∃ p∈allFrom 0 S.rs,hearB B g t.1 p≠decide (p∈t.2)∧∀ x∈causeL S p,x ∉ g→opp x ∉ g→∀ m:List Ft,m.Perm (x :: g)→m.Pairwise fLt→m∈V
theorem LedP.mono {S:Sp} {B:(Th→Int)→Pp→Bool} {T:List Tr} {V V':List (List Ft)} {g:List Ft} (h:LedP S B T V g) (hs:∀ x∈V,x∈V'):LedP S B T V' g:=by
 obtain ⟨t,ht,p,hp,hd,hx⟩:=h
 exact ⟨t,ht,p,hp,hd,fun x h1 h2 h3 m h4 h5=>hs m (hx x h1 h2 h3 m h4 h5)⟩
structure DfI (S:Sp) (B:(Th→Int)→Pp→Bool) (T:List Tr) (many:Nat) (St V O:List (List Ft)):Prop where
 v:∀ g∈V,FtsOk S g∧g.length≤many
 nd:V.Nodup
 o:∀ F,F∈O↔F∈V∧F.length=many∧Exps S B F T
 on:O.Nodup
 cl:∀ g∈V,g ∉ St→g.length<many→¬ Exps S B g T→LedP S B T V g
theorem DfI.zero (S:Sp) (B:(Th→Int)→Pp→Bool) (T:List Tr) (many:Nat):DfI S B T many [] [] []:=⟨fun g h=>(by cases h),List.nodup_nil,fun F=>⟨fun h=>(by cases h),fun h=>(by cases h.1)⟩,List.nodup_nil,fun g h=>(by cases h)⟩
theorem DfI.found {S:Sp} {B:(Th→Int)→Pp→Bool} {T:List Tr} {many:Nat} {St V O:List (List Ft)} (h:DfI S B T many St V O) {f:List Ft} (hf:FtsOk S f) (hn:f ∉ V) (hl:f.length=many) (hE:Exps S B f T):DfI S B T many St (V++[f]) (O++[f]):=by
 have hs:∀ x∈V,x∈V++[f]:=fun x hx=>List.mem_append_left _ hx
 refine ⟨fun g hg=>?_,?_,fun F=>?_,?_,fun g hg hst hgl hgE=>?_⟩
 ·rcases List.mem_append.1 hg with hg | hg
  ·exact h.v g hg
  ·rw [List.mem_singleton] at hg
   subst hg
   exact ⟨hf,by omega⟩
 ·rw [List.nodup_append]
  refine ⟨h.nd,by simp,fun a ha b hb e=>?_⟩
  rw [List.mem_singleton] at hb
  exact hn (by rw [← hb,← e];exact ha)
 ·rw [List.mem_append,List.mem_append,h.o,List.mem_singleton]
  constructor
  ·rintro (⟨a,b⟩ | rfl)
   ·exact ⟨.inl a,b⟩
   ·exact ⟨.inr rfl,hl,hE⟩
  ·rintro ⟨a | a,b⟩
   ·exact .inl ⟨a,b⟩
   ·exact .inr a
 ·rw [List.nodup_append]
  refine ⟨h.on,by simp,fun a ha b hb e=>?_⟩
  rw [List.mem_singleton] at hb
  exact hn (by rw [← hb,← e];exact ((h.o a).1 ha).1)
 ·rcases List.mem_append.1 hg with hg | hg
  ·exact (h.cl g hg hst hgl hgE).mono hs
  ·rw [List.mem_singleton] at hg
   subst hg
   exact absurd hE hgE
theorem DfI.small {S:Sp} {B:(Th→Int)→Pp→Bool} {T:List Tr} {many:Nat} {St V O:List (List Ft)} (h:DfI S B T many St V O) {f:List Ft} (hf:FtsOk S f) (hn:f ∉ V) (hl:f.length<many) (hE:Exps S B f T):DfI S B T many St (V++[f]) O:=by
 have hs:∀ x∈V,x∈V++[f]:=fun x hx=>List.mem_append_left _ hx
 refine ⟨fun g hg=>?_,?_,fun F=>?_,h.on,fun g hg hst hgl hgE=>?_⟩
 ·rcases List.mem_append.1 hg with hg | hg
  ·exact h.v g hg
  ·rw [List.mem_singleton] at hg
   subst hg
   exact ⟨hf,by omega⟩
 ·rw [List.nodup_append]
  refine ⟨h.nd,by simp,fun a ha b hb e=>?_⟩
  rw [List.mem_singleton] at hb
  exact hn (by rw [← hb,← e];exact ha)
 ·rw [h.o,List.mem_append,List.mem_singleton]
  constructor
  ·exact fun a=>⟨.inl a.1,a.2⟩
  ·rintro ⟨a | rfl,b⟩
   ·exact ⟨a,b⟩
   ·exact absurd b.1 (by omega)
 ·rcases List.mem_append.1 hg with hg | hg
  ·exact (h.cl g hg hst hgl hgE).mono hs
  ·rw [List.mem_singleton] at hg
   subst hg
   exact absurd hE hgE
theorem DfI.take {S:Sp} {B:(Th→Int)→Pp→Bool} {T:List Tr} {many:Nat} {St V O:List (List Ft)} (h:DfI S B T many St V O) {f:List Ft} (hf:FtsOk S f) (hn:f ∉ V) (hl:f.length≤many) (hE:¬ Exps S B f T):DfI S B T many (f :: St) (V++[f]) O:=by
 have hs:∀ x∈V,x∈V++[f]:=fun x hx=>List.mem_append_left _ hx
 refine ⟨fun g hg=>?_,?_,fun F=>?_,h.on,fun g hg hst hgl hgE=>?_⟩
 ·rcases List.mem_append.1 hg with hg | hg
  ·exact h.v g hg
  ·rw [List.mem_singleton] at hg
   subst hg
   exact ⟨hf,hl⟩
 ·rw [List.nodup_append]
  refine ⟨h.nd,by simp,fun a ha b hb e=>?_⟩
  rw [List.mem_singleton] at hb
  exact hn (by rw [← hb,← e];exact ha)
 ·rw [h.o,List.mem_append,List.mem_singleton]
  constructor
  ·exact fun a=>⟨.inl a.1,a.2⟩
  ·rintro ⟨a | rfl,b⟩
   ·exact ⟨a,b⟩
   ·exact absurd b.2 hE
 ·rw [List.mem_cons,not_or] at hst
  rcases List.mem_append.1 hg with hg | hg
  ·exact (h.cl g hg hst.2 hgl hgE).mono hs
  ·rw [List.mem_singleton] at hg
   exact absurd hg hst.1
theorem DfI.leave {S:Sp} {B:(Th→Int)→Pp→Bool} {T:List Tr} {many:Nat} {St V O:List (List Ft)} {f:List Ft} (h:DfI S B T many (f :: St) V O) (hd:f.length<many→LedP S B T V f):DfI S B T many St V O:=by
 refine ⟨h.v,h.nd,h.o,h.on,fun g hg hst hgl hgE=>?_⟩
 by_cases e:g=f
 ·subst e
  exact hd hgl
 ·exact h.cl g hg (fun q=>(List.mem_cons.1 q).elim e hst) hgl hgE
theorem dfi_done {S:Sp} {B:(Th→Int)→Pp→Bool} (hB:SndIs S B) {T:List Tr} {many:Nat} {V O:List (List Ft)} (h:DfI S B T many [] V O) (hnil:[]∈V) (hmin:∀ g,FtsOk S g→g.length<many→¬ Exps S B g T):∀ F,F∈O↔FtsOk S F∧F.length=many∧Exps S B F T:=by
 intro F
 rw [h.o]
 constructor
 ·rintro ⟨a,b,c⟩
  exact ⟨(h.v F a).1,b,c⟩
 ·rintro ⟨a,b,c⟩
  exact ⟨search_all (V:=fun g=>g∈V) hB hnil (fun g hg=>(h.v g hg).1) hmin (fun g hg hgl hgE=>h.cl g hg (fun q=>(by cases q)) hgl hgE) a b c,b,c⟩
theorem lex_total:∀ {a b:List Ft},a.length=b.length→lexLt a b∨a=b∨lexLt b a
 | [],[],_ => .inr (.inl rfl)
 | [],_ :: _,h=>by cases h
 | _ :: _,[],h=>by cases h
 | x :: a,y :: b,h=>by
  rcases fLt_total x y with q | rfl | q
  ·exact .inl (.inl q)
  ·rcases lex_total (a:=a) (b:=b) (by simpa using h) with q | rfl | q
   ·exact .inl (.inr ⟨rfl,q⟩)
   ·exact .inr (.inl rfl)
   ·exact .inr (.inr (.inr ⟨rfl,q⟩))
  ·exact .inr (.inr (.inl q))
theorem setsP_of {S:Sp} {B:(Th→Int)→Pp→Bool} {T:List Tr} {many:Nat} {O M:List (List Ft)} (ho:∀ F,F∈O↔FtsOk S F∧F.length=many∧Exps S B F T) (hn:O.Nodup) (hp:M.Perm O) (hs:M.Pairwise fun a b=>¬ lexLt b a):SetsP S B T many M:=by
 have hmem:∀ F,F∈M↔FtsOk S F∧F.length=many∧Exps S B F T:=fun F=>hp.mem_iff.trans (ho F)
 refine ⟨?_,hmem⟩
 have hnd:M.Nodup:=hp.nodup_iff.2 hn
 have hl:∀ F∈M,F.length=many:=fun F hF=>((hmem F).1 hF).2.1
 clear hp hmem
 induction M with
 | nil=>exact List.Pairwise.nil
 | cons a M ih =>
  rw [List.pairwise_cons] at hs ⊢
  rw [List.nodup_cons] at hnd
  refine ⟨fun b hb=>?_,ih hs.2 hnd.2 (fun F hF=>hl F (List.mem_cons_of_mem _ hF))⟩
  rcases lex_total (a:=a) (b:=b) (by rw [hl a (by simp),hl b (List.mem_cons_of_mem _ hb)]) with q | rfl | q
  ·exact q
  ·exact absurd hb hnd.1
  ·exact absurd q (hs.1 b hb)
end Go.Proofs.YteflhbfgpknabaaGreatDoor
namespace Go.Proofs.YteflhbfgpknabaaGreatDoor
open Go.Lib (hid)
structure LfI (h:List Ft→List Pp) (M:List (List Ft)) (k:Nat) (C:List (List Pp)) (N:List Int):Prop where
 nd:C.Nodup
 len:N.length=C.length
 mem:∀ c,c∈C↔∃ F∈M.take k,h F=c
 num:∀ j (hj:j<C.length),N[j]?=some ((((M.take k).filter fun F=>decide (C[j]=h F)).length:Nat):Int)
theorem LfI.zero (h:List Ft→List Pp) (M:List (List Ft)):LfI h M 0 [] []:=⟨List.nodup_nil,rfl,fun c=>⟨fun q=>(by cases q),fun ⟨F,q,_⟩=>(by cases q)⟩,fun j hj=>absurd hj (Nat.not_lt_zero j)⟩
theorem filter_snoc {α:Type} {M:List α} {k:Nat} (hk:k<M.length) (q:α→Bool):((M.take (k+1)).filter q).length=((M.take k).filter q).length+(if q M[k] then 1 else 0):=by
 rw [List.take_succ_eq_append_getElem hk,List.filter_append,List.length_append]
 congr 1
 cases e:q M[k] with
 | true=>rw [List.filter_cons_of_pos e];rfl
 | false=>rw [List.filter_cons_of_neg (by simp [e])];rfl
theorem LfI.new {h:List Ft→List Pp} {M:List (List Ft)} {k:Nat} {C:List (List Pp)} {N:List Int} (i:LfI h M k C N) (hk:k<M.length) (hn:h M[k] ∉ C):LfI h M (k+1) (C++[h M[k]]) (N++[1]):=by
 refine ⟨?_,by simp [i.len],fun c=>?_,fun j hj=>?_⟩
 ·rw [List.nodup_append]
  refine ⟨i.nd,by simp,fun a ha b hb e=>?_⟩
  rw [List.mem_singleton] at hb
  exact hn (by rw [← hb,← e];exact ha)
 ·rw [List.mem_append,List.mem_singleton,i.mem,List.take_succ_eq_append_getElem hk]
  constructor
  ·rintro (⟨F,hF,rfl⟩ | rfl)
   ·exact ⟨F,List.mem_append_left _ hF,rfl⟩
   ·exact ⟨M[k],List.mem_append_right _ (List.mem_singleton.2 rfl),rfl⟩
  ·rintro ⟨F,hF,rfl⟩
   try rw [List.take_succ_eq_append_getElem hk] at hF
   rcases List.mem_append.1 hF with q | q
   ·exact .inl ⟨F,q,rfl⟩
   ·rw [List.mem_singleton] at q
    subst q
    exact .inr rfl
 ·rw [filter_snoc hk]
  by_cases q:j<C.length
  ·rw [List.getElem_append_left q,List.getElem?_append_left (by rw [i.len];exact q),i.num j q,if_neg (by simpa using fun e=>hn (by rw [← e];exact List.getElem_mem q))]
   rfl
  ·have e:j=C.length:=by simp at hj;omega
   subst e
   rw [List.getElem_append_right (Nat.le_refl _),List.getElem?_append_right (by rw [i.len];exact Nat.le_refl _)]
   simp only [i.len,Nat.sub_self,List.getElem_cons_zero,List.getElem?_cons_zero,decide_true,if_true,Option.some.injEq]
   have:(M.take k).filter (fun F=>decide (h M[k]=h F))=[]:=by
    rw [List.filter_eq_nil_iff]
    intro F hF
    simpa using fun e=>hn (by rw [e];exact (i.mem _).2 ⟨F,hF,rfl⟩)
   rw [this]
   rfl
theorem LfI.more {h:List Ft→List Pp} {M:List (List Ft)} {k:Nat} {C:List (List Pp)} {N:List Int} (i:LfI h M k C N) (hk:k<M.length) {a:Nat} (ha:a<C.length) (he:C[a]=h M[k]) {n:Int} (hn:N[a]?=some n):LfI h M (k+1) C (N.set a (n+1)):=by
 refine ⟨i.nd,by simp [i.len],fun c=>?_,fun j hj=>?_⟩
 ·rw [i.mem,List.take_succ_eq_append_getElem hk]
  constructor
  ·rintro ⟨F,hF,rfl⟩
   exact ⟨F,List.mem_append_left _ hF,rfl⟩
  ·rintro ⟨F,hF,rfl⟩
   rcases List.mem_append.1 hF with q | q
   ·exact ⟨F,q,rfl⟩
   ·rw [List.mem_singleton] at q
    subst q
    exact (i.mem _).1 (by rw [← he];exact List.getElem_mem ha)
 ·rw [filter_snoc hk]
  by_cases e:j=a
  ·subst e
   have h1:=i.num j hj
   rw [hn] at h1
   have h1:=Option.some.inj h1
   rw [List.getElem?_set_self (by rw [i.len];exact hj),if_pos (by simpa using he),h1]
   rfl
  ·rw [List.getElem?_set_ne (fun q=>e q.symm),i.num j hj,if_neg (by
    simp only [decide_eq_true_eq]
    intro q
    exact e ((List.getElem_inj i.nd).1 (by rw [q,he])))]
   rfl
theorem foldl_max_in {l:List Nat}:∀ {a:Nat},l.foldl max a=a∨l.foldl max a∈l:=by
 induction l with
 | nil=>intro a;exact .inl rfl
 | cons y l ih =>
  intro a
  rw [List.foldl_cons]
  rcases @ih (max a y) with q | q
  ·rw [q]
   rcases Nat.le_total a y with z | z
   ·rw [Nat.max_eq_right z];exact .inr (by simp)
   ·rw [Nat.max_eq_left z];exact .inl rfl
  ·exact .inr (List.mem_cons_of_mem _ q)
theorem LfI.max {S:Sp} {B:(Th→Int)→Pp→Bool} {M:List (List Ft)} {f:Th→Int} {C:List (List Pp)} {N:List Int} (i:LfI (fun F=>hearL S B F f) M M.length C N) {m:Int} (h1:m∈N) (h2:∀ x∈N,x≤m):m=leftN S B M f:=by
 have hnum:∀ j (hj:j<C.length),∃ F∈M,hearL S B F f=C[j]∧N[j]?=some ((sameN S B M f F:Nat):Int):=fun j hj=>by
  obtain ⟨F,hF,e⟩:=(i.mem _).1 (List.getElem_mem hj)
  rw [List.take_length] at hF
  refine ⟨F,hF,e,?_⟩
  have:=i.num j hj
  rw [List.take_length] at this
  rw [this,← e]
  rfl
 have hle:m≤leftN S B M f:=by
  obtain ⟨j,hj,rfl⟩:=List.getElem_of_mem h1
  obtain ⟨F,hF,_,e⟩:=hnum j (by rw [← i.len];exact hj)
  rw [List.getElem?_eq_getElem hj] at e
  rw [Option.some.inj e]
  exact Int.ofNat_le.2 (leftN_ge hF)
 have hge:(leftN S B M f:Int)≤m:=by
  unfold leftN
  rcases @foldl_max_in (M.map (sameN S B M f)) 0 with q | q
  ·rw [q]
   obtain ⟨j,hj,rfl⟩:=List.getElem_of_mem h1
   obtain ⟨F,hF,_,e⟩:=hnum j (by rw [← i.len];exact hj)
   rw [List.getElem?_eq_getElem hj] at e
   rw [Option.some.inj e]
   exact Int.natCast_nonneg _
  ·obtain ⟨G,hG,e⟩:=List.mem_map.1 q
   rw [← e]
   obtain ⟨j,hj,e2⟩:=List.getElem_of_mem ((i.mem (hearL S B G f)).2 ⟨G,by rw [List.take_length];exact hG,rfl⟩)
   obtain ⟨F,_,e3,e4⟩:=hnum j hj
   have e5:sameN S B M f F=sameN S B M f G:=by unfold sameN;rw [e3,e2]
   have hjn:j<N.length:=by rw [i.len];exact hj
   rw [List.getElem?_eq_getElem hjn] at e4
   have:=h2 _ (List.getElem_mem hjn)
   rw [Option.some.inj e4,e5] at this
   exact this
 omega
end Go.Proofs.YteflhbfgpknabaaGreatDoor
namespace Go.Proofs.YteflhbfgpknabaaGreatDoor
open Go.Lib (hid)
open Go.RowKit
def ftC (x:Ft):List Value:=[.int .i64 x.1,.int .i64 x.2.1,.int .i64 x.2.2]
theorem ARd.ftAt {w:World} {v:Value} {l:List Ft} (h:ARd w v 3 (l.map ftC)) (i:Nat) (hi:i<l.length):∃ b o c,v = .slice (some ⟨b,o,none⟩) l.length c∧b<w.heap.size∧w.cell? ⟨b,o+i * 3,none⟩=some (.int .i64 l[i].1)∧w.cell? ⟨b,o+i * 3+1,none⟩=some (.int .i64 l[i].2.1)∧w.cell? ⟨b,o+i * 3+2,none⟩=some (.int .i64 l[i].2.2):=by
 obtain ⟨b,o,c,e,hlt,hc⟩:=h.at i (by simpa using hi)
 rw [List.getElem_map] at hc
 rw [List.length_map] at e
 exact ⟨b,o,c,e,hlt,hc 0 _ rfl,hc 1 _ rfl,hc 2 _ rfl⟩
theorem ARd.ftForm {w:World} {v:Value} {l:List Ft} (h:ARd w v 3 (l.map ftC)):∃ a c,v = .slice a l.length c:=by
 obtain ⟨a,c,e⟩:=h.form
 exact ⟨a,c,by simpa using e⟩
def CapOk (v:Value):Prop:=∀ a n c,v = .slice a n c→n≤c
structure HnRd (W:World) (vk vs vc:Value) (H:Hn):Prop where
 keys:∃ g:Nat→Value,ARd W vk 1 ((List.range H.ks.length).map fun d=>[g d])∧∀ d,d<H.ks.length→ARd W (g d) 1 ((H.ks.getD d []).map iC)∧CapOk (g d)
 stops:ARd W vs 1 (H.ss.map iC)
 cous:ARd W vc 1 (H.cs.map iC)
theorem HnRd.later {W W':World} {vk vs vc:Value} {H:Hn} (h:HnRd W vk vs vc H) (hb:Below W.heap.size W W'):HnRd W' vk vs vc H:=by
 obtain ⟨⟨g,h1,h2⟩,h3,h4⟩:=h
 exact ⟨⟨g,h1.later hb,fun d hd=>⟨(h2 d hd).1.later hb,(h2 d hd).2⟩⟩,h3.later hb,h4.later hb⟩
theorem HnRd.forms {W:World} {vk vs vc:Value} {H:Hn} (h:HnRd W vk vs vc H):(∃ a c,vk = .slice a H.ks.length c)∧(∃ a c,vs = .slice a H.ss.length c)∧∃ a c,vc = .slice a H.cs.length c:=by
 obtain ⟨⟨g,h1,h2⟩,h3,h4⟩:=h
 obtain ⟨a1,c1,e1⟩:=h1.form
 obtain ⟨a2,c2,e2⟩:=h3.form
 obtain ⟨a3,c3,e3⟩:=h4.form
 exact ⟨⟨a1,c1,by simpa using e1⟩,⟨a2,c2,by simpa using e2⟩,a3,c3,by simpa using e3⟩
theorem HnRd.turned {W:World} {vk vs vc us uc:Value} {S:Sp} {H:Hn} (h:HnRd W vk vs vc H) (ok:HnOk S H) {F:List Ft} (hs:ARd W us 1 ((onL (onF F (onH H)) 2 S.ss.length).map iC)) (hc:ARd W uc 1 ((onL (onF F (onH H)) 3 S.cs.length).map iC)):HdRd W vk us uc S (onF F (onH H)):=by
 obtain ⟨⟨g,h1,h2⟩,_,_⟩:=h
 refine ⟨⟨g,by rw [← ok.len];exact h1,fun d hd=>?_⟩,hs,hc⟩
 rw [played_cong (g:=onH H) (fun d k=>onF_key F (onH H) d k),ok.keys d hd]
 exact (h2 d (by rw [ok.len];exact hd)).1
structure HcRd (W:World) (vk vs vc:Value) (S:Sp) (f:Th→Int):Prop where
 keys:∃ g:Nat→Value,ARd W vk 1 ((List.range S.ds.length).map fun d=>[g d])∧∀ d,d<S.ds.length→ARd W (g d) 1 ((playedL f d).map iC)∧CapOk (g d)
 stops:ARd W vs 1 ((onL f 2 S.ss.length).map iC)
 cous:ARd W vc 1 ((onL f 3 S.cs.length).map iC)
theorem HcRd.later {W W':World} {vk vs vc:Value} {S:Sp} {f:Th→Int} (h:HcRd W vk vs vc S f) (hb:Below W.heap.size W W'):HcRd W' vk vs vc S f:=by
 obtain ⟨⟨g,h1,h2⟩,h3,h4⟩:=h
 exact ⟨⟨g,h1.later hb,fun d hd=>⟨(h2 d hd).1.later hb,(h2 d hd).2⟩⟩,h3.later hb,h4.later hb⟩
theorem HcRd.keyAt {W:World} {vk vs vc:Value} {S:Sp} {f:Th→Int} (h:HcRd W vk vs vc S f) {d:Nat} (hd:d<S.ds.length):∃ b o c g,vk = .slice (some ⟨b,o,none⟩) S.ds.length c∧b<W.heap.size∧W.cell? ⟨b,o+d,none⟩=some g∧ARd W g 1 ((playedL f d).map iC)∧CapOk g:=by
 obtain ⟨⟨g,h1,h2⟩,_⟩:=h
 obtain ⟨b,o,c,e,hb,hc⟩:=h1.at d (by simpa using hd)
 refine ⟨b,o,c,g d,by simpa using e,hb,?_,h2 d hd⟩
 have:=hc 0 (g d) (by simp)
 simpa using this
theorem HcRd.forms {W:World} {vk vs vc:Value} {S:Sp} {f:Th→Int} (h:HcRd W vk vs vc S f):(∃ a c,vk = .slice a S.ds.length c)∧(∃ a c,vs = .slice a (onL f 2 S.ss.length).length c)∧∃ a c,vc = .slice a (onL f 3 S.cs.length).length c:=by
 obtain ⟨⟨g,h1,h2⟩,h3,h4⟩:=h
 obtain ⟨a1,c1,e1⟩:=h1.form
 obtain ⟨a2,c2,e2⟩:=h3.form
 obtain ⟨a3,c3,e3⟩:=h4.form
 exact ⟨⟨a1,c1,by simpa using e1⟩,⟨a2,c2,by simpa using e2⟩,a3,c3,by simpa using e3⟩
theorem HnRd.turnedC {W:World} {vk vs vc us uc:Value} {S:Sp} {H:Hn} (h:HnRd W vk vs vc H) (ok:HnOk S H) {F:List Ft} (hs:ARd W us 1 ((onL (onF F (onH H)) 2 S.ss.length).map iC)) (hc:ARd W uc 1 ((onL (onF F (onH H)) 3 S.cs.length).map iC)):HcRd W vk us uc S (onF F (onH H)):=by
 obtain ⟨⟨g,h1,h2⟩,_,_⟩:=h
 refine ⟨⟨g,by rw [← ok.len];exact h1,fun d hd=>⟨?_,(h2 d (by rw [ok.len];exact hd)).2⟩⟩,hs,hc⟩
 rw [played_cong (g:=onH H) (fun d k=>onF_key F (onH H) d k),ok.keys d hd]
 exact (h2 d (by rw [ok.len];exact hd)).1
structure HnsRd (W:World) (v:Value) (Hs:List Hn) (gk gs gc:Nat→Value):Prop where
 rd:ARd W v 3 ((List.range Hs.length).map fun i=>[gk i,gs i,gc i])
 hd:∀ i (hi:i<Hs.length),HnRd W (gk i) (gs i) (gc i) Hs[i]
theorem HnsRd.later {W W':World} {v:Value} {Hs:List Hn} {gk gs gc:Nat→Value} (h:HnsRd W v Hs gk gs gc) (hb:Below W.heap.size W W'):HnsRd W' v Hs gk gs gc:=⟨h.rd.later hb,fun i hi=>(h.hd i hi).later hb⟩
theorem HnsRd.at' {W:World} {v:Value} {Hs:List Hn} {gk gs gc:Nat→Value} (h:HnsRd W v Hs gk gs gc) {i:Nat} (hi:i<Hs.length):∃ b o c,v = .slice (some ⟨b,o,none⟩) Hs.length c∧b<W.heap.size∧W.cell? ⟨b,o+i * 3,none⟩=some (gk i)∧W.cell? ⟨b,o+i * 3+1,none⟩=some (gs i)∧W.cell? ⟨b,o+i * 3+2,none⟩=some (gc i):=by
 obtain ⟨b,o,c,e,hlt,hc⟩:=h.rd.at i (by simpa using hi)
 rw [List.getElem_map,List.getElem_range] at hc
 rw [List.length_map,List.length_range] at e
 exact ⟨b,o,c,e,hlt,hc 0 _ rfl,hc 1 _ rfl,hc 2 _ rfl⟩
theorem HnsRd.form {W:World} {v:Value} {Hs:List Hn} {gk gs gc:Nat→Value} (h:HnsRd W v Hs gk gs gc):∃ a c,v = .slice a Hs.length c:=by
 obtain ⟨a,c,e⟩:=h.rd.form
 exact ⟨a,c,by simpa using e⟩
structure TlRd (W:World) (v:Value) (T:List Tl) (gk gs gc gh:Nat→Value):Prop where
 rd:ARd W v 4 ((List.range T.length).map fun i=>[gk i,gs i,gc i,gh i])
 hd:∀ i (hi:i<T.length),HnRd W (gk i) (gs i) (gc i) T[i].h
 pp:∀ i (hi:i<T.length),ARd W (gh i) 2 (T[i].l.map ppC)
theorem TlRd.later {W W':World} {v:Value} {T:List Tl} {gk gs gc gh:Nat→Value} (h:TlRd W v T gk gs gc gh) (hb:Below W.heap.size W W'):TlRd W' v T gk gs gc gh:=⟨h.rd.later hb,fun i hi=>(h.hd i hi).later hb,fun i hi=>(h.pp i hi).later hb⟩
theorem TlRd.at' {W:World} {v:Value} {T:List Tl} {gk gs gc gh:Nat→Value} (h:TlRd W v T gk gs gc gh) {i:Nat} (hi:i<T.length):∃ b o c,v = .slice (some ⟨b,o,none⟩) T.length c∧b<W.heap.size∧W.cell? ⟨b,o+i * 4,none⟩=some (gk i)∧W.cell? ⟨b,o+i * 4+1,none⟩=some (gs i)∧W.cell? ⟨b,o+i * 4+2,none⟩=some (gc i)∧W.cell? ⟨b,o+i * 4+3,none⟩=some (gh i):=by
 obtain ⟨b,o,c,e,hlt,hc⟩:=h.rd.at i (by simpa using hi)
 rw [List.getElem_map,List.getElem_range] at hc
 rw [List.length_map,List.length_range] at e
 exact ⟨b,o,c,e,hlt,hc 0 _ rfl,hc 1 _ rfl,hc 2 _ rfl,hc 3 _ rfl⟩
theorem TlRd.form {W:World} {v:Value} {T:List Tl} {gk gs gc gh:Nat→Value} (h:TlRd W v T gk gs gc gh):∃ a c,v = .slice a T.length c:=by
 obtain ⟨a,c,e⟩:=h.rd.form
 exact ⟨a,c,by simpa using e⟩
structure StsRd (W:World) (v:Value) (M:List (List Ft)) (g:Nat→Value):Prop where
 rd:ARd W v 1 ((List.range M.length).map fun i=>[g i])
 st:∀ i (hi:i<M.length),ARd W (g i) 3 (M[i].map ftC)
theorem StsRd.later {W W':World} {v:Value} {M:List (List Ft)} {g:Nat→Value} (h:StsRd W v M g) (hb:Below W.heap.size W W'):StsRd W' v M g:=⟨h.rd.later hb,fun i hi=>(h.st i hi).later hb⟩
theorem StsRd.at' {W:World} {v:Value} {M:List (List Ft)} {g:Nat→Value} (h:StsRd W v M g) {i:Nat} (hi:i<M.length):∃ b o c,v = .slice (some ⟨b,o,none⟩) M.length c∧b<W.heap.size∧W.cell? ⟨b,o+i,none⟩=some (g i):=by
 obtain ⟨b,o,c,e,hlt,hc⟩:=h.rd.at i (by simpa using hi)
 rw [List.getElem_map,List.getElem_range] at hc
 rw [List.length_map,List.length_range] at e
 exact ⟨b,o,c,e,hlt,by have:=hc 0 _ rfl;rwa [Nat.mul_one] at this⟩
theorem StsRd.form {W:World} {v:Value} {M:List (List Ft)} {g:Nat→Value} (h:StsRd W v M g):∃ a c,v = .slice a M.length c:=by
 obtain ⟨a,c,e⟩:=h.rd.form
 exact ⟨a,c,by simpa using e⟩
end Go.Proofs.YteflhbfgpknabaaGreatDoor
namespace Go.Proofs.YteflhbfgpknabaaGreatDoor
open Go.Lib (hid)
open Go.RowKit
theorem takes_nil (only:Int):takes only []=[]:=by
 unfold takes
 split
 ·rfl
 ·split <;> rfl
theorem taken_any (nm:ByteArray) (frI toI sh on:Int) (th:Bool) (ho:0≤on∧on≤2) (v:Value) (L:List Int) (hl:L.length≤1000) (W:World) (hv:ARd W v 1 (L.map iC)) (hcap:CapOk v) :
  Calls Tryz.prog 196 #[.agg #[.string nm,.int .i64 frI,.int .i64 toI,.int .i64 sh,.int .i64 on,.bool th],v] W fun e W'=>∃ v',e = .returned v'∧ARd W' v' 1 ((takes on L).map iC)∧Below W.heap.size W W':=by
 have hb:Below W.heap.size W (W.alloc (.cells #[.string nm,.int .i64 frI,.int .i64 toI,.int .i64 sh,.int .i64 on,.bool th] 145)):=(Below.refl _ W).alloc (Nat.le_refl _) _
 have HB:=hid hb
 obtain ⟨a,c,rfl⟩:=hv.intForm
 have hc:=hcap _ _ _ rfl
 by_cases h0:L=[]
 ·subst h0
  have HR:=hid (show ARd (W.alloc (.cells #[.string nm,.int .i64 frI,.int .i64 toI,.int .i64 sh,.int .i64 on,.bool th] 145)) (.slice a 0 c) 1 ((takes on []).map iC) by rw [takes_nil];exact hv.later hb)
  clear hv hb hcap
  go_enter Tryz.func196,Tryz.ntmps196
  go_wp2
  go_ret
  exact ⟨_,rfl,HR.out,HB.out⟩
 ·have hpos:0<L.length:=List.length_pos_iff.2 h0
  obtain ⟨b,o,c',ev,hbl,_⟩:=hv.intAt 0 hpos
  cases ev
  have q0:((L.length:Int)==0)=false:=by rw [beq_eq_false_iff_ne];omega
  have HV:=hid (hv.later hb)
  rcases (show on=0∨on=1∨on=2 by omega) with rfl | rfl | rfl
  ·have HR:=hid (show ARd (W.alloc (.cells #[.string nm,.int .i64 frI,.int .i64 toI,.int .i64 sh,.int .i64 0,.bool th] 145)) (.slice (some ⟨b,o,none⟩) L.length c) 1 ((takes 0 L).map iC) by unfold takes;rw [if_neg (by decide),if_neg (by decide)];exact hv.later hb)
   clear hv hb hcap HV
   go_enter Tryz.func196,Tryz.ntmps196
   go_wp2
   go_ret
   exact ⟨_,rfl,HR.out,HB.out⟩
  ·have HR:=hid (show ARd (W.alloc (.cells #[.string nm,.int .i64 frI,.int .i64 toI,.int .i64 sh,.int .i64 1,.bool th] 145)) (.slice (some ⟨b,o,none⟩) 1 c) 1 ((takes 1 L).map iC) by unfold takes;rw [if_pos rfl];exact HV.out.pre (by omega) c)
   have e1:(1:Int)≤(c:Int):=by omega
   have e2:1≤c:=by omega
   clear hv hb hcap HV h0
   go_enter Tryz.func196,Tryz.ntmps196
   go_wp2
   go_ret
   exact ⟨_,rfl,HR.out,HB.out⟩
  ·obtain ⟨L1,hL1⟩:∃ x,L.length-1=x:=⟨_,rfl⟩
   have HR:=hid (show ARd (W.alloc (.cells #[.string nm,.int .i64 frI,.int .i64 toI,.int .i64 sh,.int .i64 2,.bool th] 145)) (.slice (some ⟨b,o+L1,none⟩) (L.length-L1) (c-L1)) 1 ((takes 2 L).map iC) by unfold takes;rw [if_neg (by decide),if_pos rfl,hL1];exact HV.out.suf (by omega) _)
   have e1:IntKind.i64.wrap ((L.length:Int)-1)=(L1:Int):=by rw [IntWalk.i64_in _ (by omega)];omega
   have e3:L1≤L.length:=by omega
   have e4:(L1:Int)≤(L.length:Int):=by omega
   have e5:L.length≤c:=hc
   have e6:¬ c=L1:=by omega
   have e7:¬ c-L1=0:=by omega
   clear hv hb hcap HV h0 hL1
   go_enter Tryz.func196,Tryz.ntmps196
   go_wp2
   go_ret
   exact ⟨_,rfl,HR.out,HB.out⟩
end Go.Proofs.YteflhbfgpknabaaGreatDoor
namespace Go.Proofs.YteflhbfgpknabaaGreatDoor
open Go.Lib (hid)
open Go.RowKit
variable {α : Type} [Inhabited α] {enc : α → Value}
theorem rowE_heap {W:World} {g n:Nat} {d:Array α} {os:Array Obj} {cur:Array Value} {e:TypeId} {fr:Nat × Nat} (h:W.heap[g]?=some (.cells cur e fr)) :
  (Sort.grow (Sort.putRow enc (Sort.ahead W n) g 0 d) os).heap[g]?=some (.cells (Sort.putCells enc 0 d cur) e fr):=by
 have hlt:=(Array.getElem?_eq_some_iff.1 h).1
 show (((Sort.mapBlock (Sort.ahead W n) g _).heap)++os)[g]?=_
 rw [Array.getElem?_append_left (by simpa [Sort.mapBlock] using hlt)]
 show ((Sort.ahead W n).heap.modify g _)[g]?=_
 rw [Array.getElem?_modify,if_pos rfl]
 show Option.map _ (W.heap[g]?)=_
 simp only [h,Option.map_some]
 rfl
theorem rowE_put {W:World} {base g:Nat} {t:TypeId} {m cap n k:Nat} {L:List α} {d':Array α} {os:Array Obj} (hs:d'.size=L.length) (hk:k≤d'.size) (h:W.ownsRow base t 1 (.slice (some ⟨g,0,none⟩) m cap) L.length (L.map enc)) :
  (Sort.grow (Sort.putRow enc (Sort.ahead W n) g 0 d') os).ownsRow base t 1 (.slice (some ⟨g,0,none⟩) k cap) k ((d'.toList.take k).map enc):=by
 obtain ⟨hl,⟨e,_⟩ | ⟨g',cap',cur,e,hbg,hg,hn,hmx,hz,hx⟩⟩:=h
 ·cases e
 ·cases e
  have hle:d'.size≤cur.size:=by omega
  refine ⟨by simp [Nat.min_eq_left hk],.inr ⟨g,cap,_,rfl,hbg,rowE_heap hg,by omega,hmx,by simp [Sort.putCells,hz],?_⟩⟩
  apply List.ext_getElem?
  intro j
  rw [List.getElem?_take,Array.getElem?_toList,List.getElem?_map,List.getElem?_take,Array.getElem?_toList,Nat.mul_one]
  by_cases ht:j<k
  ·rw [if_pos ht,if_pos ht]
   simp only [Sort.putCells,Array.getElem?_mapIdx]
   rw [Array.getElem?_eq_getElem (by omega),Option.map_some,if_pos ⟨Nat.zero_le _,by omega⟩,Nat.sub_zero,getElem!_pos _ j (by omega),Array.getElem?_eq_getElem (by omega)]
   rfl
  ·rw [if_neg ht,if_neg ht]
   rfl
theorem rowE_grown {W:World} {g n:Nat} {d:Array α} {os:Array Obj}:W.grownBy (Sort.grow (Sort.putRow enc (Sort.ahead W n) g 0 d) os) (some g) where
 os:=rfl
 tape:=rfl
 output:=rfl
 size:=by
  show _≤(((Sort.mapBlock (Sort.ahead W n) g _).heap)++os).size
  simp [Sort.mapBlock,Sort.ahead]
 block i hi hne:=by
  show (((Sort.mapBlock (Sort.ahead W n) g _).heap)++os)[i]?=_
  rw [Array.getElem?_append_left (by simpa [Sort.mapBlock,Sort.ahead] using hi)]
  show ((Sort.ahead W n).heap.modify g _)[i]?=_
  rw [Array.getElem?_modify,if_neg (fun e=>hne (by rw [e]))]
  rfl
theorem grow_none (W:World):Sort.grow W #[]=W:=by
 unfold Sort.grow
 simp
theorem holdsE_row {W:World} {base g:Nat} {t:TypeId} {m cap:Nat} {L:List α} (h:W.ownsRow base t 1 (.slice (some ⟨g,0,none⟩) m cap) L.length (L.map enc)):Sort.Holds enc W g 0 L.toArray∧g<W.heap.size∧L.length≤cap:=by
 obtain ⟨hl,⟨e,_⟩ | ⟨g',cap',cur,e,hbg,hg,hn,hmx,hz,hx⟩⟩:=h
 ·cases e
 ·cases e
  refine ⟨fun j hj=>?_,(Array.getElem?_eq_some_iff.1 hg).1,hn⟩
  have hj':j<L.length:=by simpa using hj
  have hc:cur[j]?=some (enc L[j]):=by
   have h1:=congrArg (fun l=>l[j]?) hx
   simp only [List.getElem?_take,Array.getElem?_toList] at h1
   rw [if_pos (by omega)] at h1
   rw [h1]
   rw [List.getElem?_map,List.getElem?_eq_getElem hj']
   rfl
  constructor
  ·simp only [World.cell?,hg,Nat.zero_add]
   rw [getElem!_pos L.toArray j hj,List.getElem_toArray]
   exact hc
  ·simp only [World.frozen?,hg]
   rfl
end Go.Proofs.YteflhbfgpknabaaGreatDoor
namespace Go.Proofs
open Go.Shelf
def Tryz.delPlaces_ren:Go.Shelf.Ren:=⟨fun | 10=>197 | 6=>206 | n=>n,fun | 22=>256 | 23=>254 | 25=>259 | 3=>3 | 4=>4 | 0=>0 | n=>n,fun | n=>n⟩
theorem Tryz.delPlaces:Go.Proofs.SlLaysH.n10 Tryz.prog Tryz.delPlaces_ren:={
 mixed:=by kernel_rfl
 f6:=⟨Tryz.f206.name,by decide,Tryz.func206.trans (congrArg some (by kernel_rfl))⟩
 f10:=⟨Tryz.f197.name,by decide,Tryz.func197.trans (congrArg some (by kernel_rfl))⟩
 t0:=Tryz.underlying0
 a0:=Tryz.isAgg0
 z0:=Tryz.sizeOf0
 v0:=Tryz.zeroValue0
 t3:=Tryz.underlying3
 a3:=Tryz.isAgg3
 z3:=Tryz.sizeOf3
 v3:=Tryz.zeroValue3
 t4:=Tryz.underlying4
 a4:=Tryz.isAgg4
 z4:=Tryz.sizeOf4
 v4:=Tryz.zeroValue4
 t22:=Tryz.underlying256
 a22:=Tryz.isAgg256
 z22:=Tryz.sizeOf256
 v22:=Tryz.zeroValue256
 a23:=Tryz.isAgg254
 z23:=Tryz.sizeOf254
 t25:=Tryz.underlying259
 a25:=Tryz.isAgg259
 z25:=Tryz.sizeOf259
 v25:=Tryz.zeroValue259 }
def Tryz.delInts_ren:Go.Shelf.Ren:=⟨fun | 10=>112 | 6=>149 | n=>n,fun | 22=>30 | 23=>3 | 25=>158 | 3=>3 | 4=>4 | 0=>0 | n=>n,fun | n=>n⟩
theorem Tryz.delInts:Go.Proofs.SlLaysH.n10 Tryz.prog Tryz.delInts_ren:={
 mixed:=by kernel_rfl
 f6:=⟨Tryz.f149.name,by decide,Tryz.func149.trans (congrArg some (by kernel_rfl))⟩
 f10:=⟨Tryz.f112.name,by decide,Tryz.func112.trans (congrArg some (by kernel_rfl))⟩
 t0:=Tryz.underlying0
 a0:=Tryz.isAgg0
 z0:=Tryz.sizeOf0
 v0:=Tryz.zeroValue0
 t3:=Tryz.underlying3
 a3:=Tryz.isAgg3
 z3:=Tryz.sizeOf3
 v3:=Tryz.zeroValue3
 t4:=Tryz.underlying4
 a4:=Tryz.isAgg4
 z4:=Tryz.sizeOf4
 v4:=Tryz.zeroValue4
 t22:=Tryz.underlying30
 a22:=Tryz.isAgg30
 z22:=Tryz.sizeOf30
 v22:=Tryz.zeroValue30
 a23:=Tryz.isAgg3
 z23:=Tryz.sizeOf3
 t25:=Tryz.underlying158
 a25:=Tryz.isAgg158
 z25:=Tryz.sizeOf158
 v25:=Tryz.zeroValue158 }
def Tryz.ixHeard_ren:Go.Shelf.Ren:=⟨fun | 6=>99 | n=>n,fun | 22=>153 | 23=>50 | 25=>155 | 3=>3 | 0=>0 | 4=>4 | n=>n,fun | n=>n⟩
theorem Tryz.ixHeard:Go.Proofs.SlLaysH.n6 Tryz.prog Tryz.ixHeard_ren:={
 mixed:=by kernel_rfl
 f6:=⟨Tryz.f99.name,by decide,Tryz.func99.trans (congrArg some (by kernel_rfl))⟩
 t0:=Tryz.underlying0
 a0:=Tryz.isAgg0
 z0:=Tryz.sizeOf0
 v0:=Tryz.zeroValue0
 t3:=Tryz.underlying3
 a3:=Tryz.isAgg3
 z3:=Tryz.sizeOf3
 v3:=Tryz.zeroValue3
 t4:=Tryz.underlying4
 a4:=Tryz.isAgg4
 z4:=Tryz.sizeOf4
 v4:=Tryz.zeroValue4
 t22:=Tryz.underlying153
 a22:=Tryz.isAgg153
 z22:=Tryz.sizeOf153
 v22:=Tryz.zeroValue153
 a23:=Tryz.isAgg50
 z23:=Tryz.sizeOf50
 t25:=Tryz.underlying155
 a25:=Tryz.isAgg155
 z25:=Tryz.sizeOf155
 v25:=Tryz.zeroValue155 }
def Tryz.anyPipe_ren:Go.Shelf.Ren:=⟨fun | 8=>43 | 6=>95 | n=>n,fun | 22=>50 | 23=>78 | 25=>91 | 4=>4 | 3=>3 | 0=>0 | n=>n,fun | n=>n⟩
theorem Tryz.anyPipe:Go.Proofs.SlLaysH0.n8 Tryz.prog Tryz.anyPipe_ren:={
 mixed:=by kernel_rfl
 f6:=⟨Tryz.f95.name,by decide,Tryz.func95.trans (congrArg some (by kernel_rfl))⟩
 f8:=⟨Tryz.f43.name,by decide,Tryz.func43.trans (congrArg some (by kernel_rfl))⟩
 t0:=Tryz.underlying0
 a0:=Tryz.isAgg0
 z0:=Tryz.sizeOf0
 v0:=Tryz.zeroValue0
 t3:=Tryz.underlying3
 a3:=Tryz.isAgg3
 z3:=Tryz.sizeOf3
 v3:=Tryz.zeroValue3
 t4:=Tryz.underlying4
 a4:=Tryz.isAgg4
 z4:=Tryz.sizeOf4
 v4:=Tryz.zeroValue4
 t22:=Tryz.underlying50
 a22:=Tryz.isAgg50
 z22:=Tryz.sizeOf50
 v22:=Tryz.zeroValue50
 t25:=Tryz.underlying91
 a25:=Tryz.isAgg91
 z25:=Tryz.sizeOf91
 v25:=Tryz.zeroValue91 }
def Tryz.inFaults_ren:Go.Shelf.Ren:=⟨fun | 7=>53 | 6=>98 | n=>n,fun | 22=>28 | 24=>74 | 4=>4 | 0=>0 | 3=>3 | n=>n,fun | n=>n⟩
theorem Tryz.inFaults:Go.Proofs.SlLaysQ.n7 Tryz.prog Tryz.inFaults_ren:={
 mixed:=by kernel_rfl
 f6:=⟨Tryz.f98.name,by decide,Tryz.func98.trans (congrArg some (by kernel_rfl))⟩
 f7:=⟨Tryz.f53.name,by decide,Tryz.func53.trans (congrArg some (by kernel_rfl))⟩
 t0:=Tryz.underlying0
 a0:=Tryz.isAgg0
 z0:=Tryz.sizeOf0
 v0:=Tryz.zeroValue0
 t3:=Tryz.underlying3
 a3:=Tryz.isAgg3
 z3:=Tryz.sizeOf3
 v3:=Tryz.zeroValue3
 t4:=Tryz.underlying4
 a4:=Tryz.isAgg4
 z4:=Tryz.sizeOf4
 v4:=Tryz.zeroValue4
 t22:=Tryz.underlying28
 a22:=Tryz.isAgg28
 z22:=Tryz.sizeOf28
 v22:=Tryz.zeroValue28 }
def Tryz.cloneFaults_ren:Go.Shelf.Ren:=⟨fun | 41=>70 | n=>n,fun | 22=>28 | 23=>74 | 4=>4 | n=>n,fun | n=>n⟩
theorem Tryz.cloneFaults:Go.Proofs.SlLaysE0.n41 Tryz.prog Tryz.cloneFaults_ren:={
 mixed:=by kernel_rfl
 f41:=⟨Tryz.f70.name,by decide,Tryz.func70.trans (congrArg some (by kernel_rfl))⟩
 t4:=Tryz.underlying4
 a4:=Tryz.isAgg4
 z4:=Tryz.sizeOf4
 v4:=Tryz.zeroValue4
 t22:=Tryz.underlying28
 a22:=Tryz.isAgg28
 z22:=Tryz.sizeOf28
 v22:=Tryz.zeroValue28 }
end Go.Proofs
namespace Go.Proofs.YteflhbfgpknabaaGreatDoor
open Go.Lib (hid)
open Go.RowKit
theorem isEmpty_any (a:Option Addr) (k c:Nat) (W:World):Calls Tryz.prog 198 #[.slice a k c] W fun e w'=>e = .returned (.bool (k==0))∧∃ q,w'=W.drewN q:=by
 have h0:((k:Int)==0)=(k==0):=by
  cases k with
  | zero=>rfl
  | succ k=>rw [beq_eq_false_iff_ne.2 (by omega),beq_eq_false_iff_ne.2 (by omega)]
 go_enter Tryz.func198,Tryz.ntmps198
 go_wp2
 go_ret
 refine ⟨?_,0,rfl⟩
 rw [← h0]
 rfl
theorem delPlaces_any (ps:List (SlA × List Pl)) (hn:ps.length≤1000000) (v:Value) (base:Nat) (W:World) (h:GpI W base v ps) :
  Calls Tryz.prog 197 #[v,.func (.func 198) #[] #[]] W fun e W'=>∃ v',e = .returned v'∧GpI W' base v' (ps.filter fun p=>!(p.1.2.1==0))∧W.grownBy W' v.ownBlock:=by
 rcases h.out.2 with ⟨hv,h0⟩ | ⟨g,cap,cur,hv,hbg,hg,hrest⟩
 ·have hp:ps=[]:=List.length_eq_zero_iff.1 h0
  subst hp
  rw [hv] at h ⊢
  have HE:=hid (AnyE.slices_IndexFunc_empty (P:=Tryz.prog) (ρ:=Tryz.delPlaces_ren) { Tryz.delPlaces with } none 0 (.func (.func 198) #[] #[]) W)
  have HR:=hid h
  clear h hn hv
  go_enter Tryz.func197,Tryz.ntmps197
  go_wp2_with fail
  refine HE.out.mono ?_
  rintro e w' ⟨rfl,rfl⟩
  go_wp2
  go_ret
  exact ⟨_,rfl,HR.out,World.grownBy.refl _ _⟩
 ·have h':=h.out
  rw [hv] at h'
  have hH:=holdsE_row (enc:=fun p:SlA × List Pl=>encS p.1) h'
  have eg:∀ args w,(callFunc 198 args).run Tryz.prog w = .ok (.enter 198 args) w:=enters_of Tryz.func198 (by kernel_rfl) rfl
  have hcon:=AnyE.slices_DeleteFunc Tryz.delPlaces (fun p:SlA × List Pl=>encS p.1) (fun _=>rfl) (fun p=>p.1.2.1==0) 198 #[] eg ((none,0,0),[]) (fun w=>by kernel_rfl) g 0 cap ps.toArray W
   (fun W' x _=>isEmpty_any _ _ _ W') (fun _ _ _ x _=>isEmpty_any _ _ _ _) hH.1 (by simp;omega) (by simpa using hH.2.2)
  change Calls Tryz.prog 197 _ _ _ at hcon
  rw [show ps.toArray.size=ps.length by simp,← hv] at hcon
  refine hcon.mono ?_
  rintro e w' ⟨rfl,q,rfl⟩
  obtain ⟨F,hF⟩:∃ F,ps.filter (fun p=>!(p.1.2.1==0))=F:=⟨_,rfl⟩
  have hFl:F.length≤ps.length:=by rw [← hF];exact List.length_filter_le _ _
  have hF2:(ps.toArray.toList.filter fun x=>!(x.1.2.1==0))=F:=hF
  rw [hF2]
  refine ⟨_,rfl,⟨?_,fun p hp=>?_⟩,?_⟩
  ·have:=rowE_put (enc:=fun p:SlA × List Pl=>encS p.1) (n:=q) (os:=#[]) (k:=F.length) (d':=(F++List.replicate (ps.length-F.length) (((none,0,0),[]):SlA × List Pl)).toArray) (by simp;omega) (by simp) h'
   rw [grow_none] at this
   simpa using this
  ·have hin:p∈ps:=by rw [← hF] at hp;exact (List.mem_filter.1 hp).1
   have hr:=h.ins p hin
   have hgw:=rowE_grown (enc:=fun p:SlA × List Pl=>encS p.1) (W:=W) (g:=g) (n:=q) (d:=(F++List.replicate (ps.length-F.length) (((none,0,0),[]):SlA × List Pl)).toArray) (os:=#[])
   rw [grow_none] at hgw
   have hne:(encS p.1).ownBlock≠some g:=row_not hr (show Blk W g _ cur from hg) (by decide)
   exact hr.kept hgw (.inr hne)
  ·rw [hv]
   have hgw:=rowE_grown (enc:=fun p:SlA × List Pl=>encS p.1) (W:=W) (g:=g) (n:=q) (d:=(F++List.replicate (ps.length-F.length) (((none,0,0),[]):SlA × List Pl)).toArray) (os:=#[])
   rw [grow_none] at hgw
   exact hgw
end Go.Proofs.YteflhbfgpknabaaGreatDoor
namespace Go.Proofs.YteflhbfgpknabaaGreatDoor
open Go.Lib (hid)
def keysM (f:Th→Int) (d j:Nat):List Pl:=((List.range d).flatMap fun (e:Nat)=>(playedL f (e:Int)).map fun k=>((e:Int),k))++((playedL f (d:Int)).take j).map fun k=>((d:Int),k)
theorem keysM_next {f:Th→Int} {d j:Nat} (h:j<(playedL f (d:Int)).length):keysM f d (j+1)=keysM f d j++[((d:Int),(playedL f (d:Int))[j])]:=by
 unfold keysM
 rw [List.take_succ_eq_append_getElem h,List.map_append,List.append_assoc]
 rfl
theorem keysM_row {f:Th→Int} {d j:Nat} (h:(playedL f (d:Int)).length≤j):keysM f d j=keysM f (d+1) 0:=by
 unfold keysM
 rw [List.take_of_length_le h,List.range_succ,List.flatMap_append]
 simp
theorem mem_keysM {f:Th→Int} {d:Nat} {x:Pl}:x∈keysM f d 0↔(0≤x.1∧x.1<(d:Int))∧x.2∈playedL f x.1:=by
 unfold keysM
 rw [List.take_zero,List.map_nil,List.append_nil,List.mem_flatMap]
 constructor
 ·rintro ⟨e,he,h⟩
  obtain ⟨k,hk,rfl⟩:=List.mem_map.1 h
  have:=List.mem_range.1 he
  exact ⟨⟨by simp only;omega,by simp only;omega⟩,hk⟩
 ·rintro ⟨⟨h0,h1⟩,h⟩
  refine ⟨x.1.toNat,List.mem_range.2 (by omega),List.mem_map.2 ⟨x.2,?_,?_⟩⟩
  ·rw [show ((x.1.toNat:Nat):Int)=x.1 by omega];exact h
  ·rw [show ((x.1.toNat:Nat):Int)=x.1 by omega]
theorem nodup_keysM (f:Th→Int):∀ d:Nat,(keysM f d 0).Nodup
 | 0=>List.nodup_nil
 | d+1=>by
  rw [← keysM_row (Nat.le_refl _)]
  have ih:=nodup_keysM f d
  unfold keysM at ih ⊢
  rw [List.take_zero,List.map_nil,List.append_nil] at ih
  rw [List.take_length,List.nodup_append]
  refine ⟨ih,?_,fun a ha b hb e=>?_⟩
  ·refine List.Pairwise.map _ (fun a b h e=>h ?_) ((asc_pl f (d:Int)).imp fun {a b} h=>(show a≠b from by omega))
   exact (Prod.mk.inj e).2
  ·obtain ⟨k,_,rfl⟩:=List.mem_map.1 hb
   obtain ⟨c,hc,h⟩:=List.mem_flatMap.1 ha
   obtain ⟨k2,_,rfl⟩:=List.mem_map.1 h
   have h1:=List.mem_range.1 hc
   have h2:=(Prod.mk.inj e).1
   omega
theorem AgP.first {S:Sp} {f:Th→Int} (hf:OnOk S f):AgP S f [] (keysM f S.ds.length 0) []:=by
 refine ⟨nodup_keysM f _,fun x hx=>?_,fun x hx=>?_,fun x hx=>(by cases hx),fun d k hd hk=>mem_keysM.2 ⟨hd,hk⟩,fun x hx _=>(mem_keysM.1 hx).2,fun i hi hc=>(by cases hc)⟩
 ·obtain ⟨h1,h2⟩:=mem_keysM.1 hx
  obtain ⟨d,k⟩:=x
  have h3:=(mem_playedL.1 h2).2.2
  exact (hf.key d k (by rw [h3];decide)).1
 ·obtain ⟨h1,h2⟩:=mem_keysM.1 hx
  obtain ⟨d,k⟩:=x
  exact .key d k h1 h2
theorem AgQ.reach {S:Sp} {f:Th→Int} {cs:List Int} {i:Nat} (hi:i<S.cs.length) (hon:f (3,0,(i:Int))=1):∀ (ls ks:List Int) (m pd:List Pl),AgQ S f cs i ks m pd→(∀ k∈ls,k∈takes S.cs[i].only (playedL f S.cs[i].frm)) →
  AgQ S f cs i (ks++ls) (rchM S i (ls.map fun k=>(S.cs[i].frm,k)) (m,pd)).1 (rchM S i (ls.map fun k=>(S.cs[i].frm,k)) (m,pd)).2
 | [],ks,m,pd,h,_=>by rw [List.append_nil];exact h
 | k :: ls,ks,m,pd,h,hk=>by
  have e:thrTo S (S.cs[i].frm,k) i=(S.cs[i].to,k+S.cs[i].shift):=by unfold thrTo;rw [List.getElem?_eq_getElem hi]
  rw [List.map_cons,rchM,e,show ks++k :: ls=(ks++[k])++ls by simp]
  exact AgQ.reach hi hon ls _ _ _ (h.add hi hon (hk k (by simp))) (fun k' hk'=>hk k' (by simp [hk']))
theorem AgP.reach {S:Sp} {f:Th→Int} {cs:List Int} {m pd:List Pl} (h:AgP S f cs m pd) {i:Nat} (hi:i<S.cs.length) (hon:f (3,0,(i:Int))=1) {l:List Pl} (hl:l=(takes S.cs[i].only (playedL f S.cs[i].frm)).map fun k=>(S.cs[i].frm,k)) :
  AgP S f (cs++[(i:Int)]) (rchM S i l (m,[])).1 (pd++(rchM S i l (m,[])).2):=by
 have h1:=AgQ.reach hi hon (takes S.cs[i].only (playedL f S.cs[i].frm)) [] m pd (AgQ.start h) (fun _ hk=>hk)
 rw [List.nil_append,← hl] at h1
 have h2:=rchM_pd S i l m pd []
 rw [List.append_nil] at h2
 rw [h2.1,h2.2] at h1
 exact AgQ.end hi h1
theorem AgU.reach {S:Sp} {f:Th→Int} {l:List Pl} {cs:List Int} {i:Nat} (hi:i<S.cs.length):∀ (ls xs m pd:List Pl),AgU S f l cs i xs m pd→(∀ x∈ls,x∈l∧thrB S f x i=true) →
  AgU S f l cs i (xs++ls) (rchM S i ls (m,pd)).1 (rchM S i ls (m,pd)).2
 | [],xs,m,pd,h,_=>by rw [List.append_nil];exact h
 | x :: ls,xs,m,pd,h,hk=>by
  rw [rchM,show xs++x :: ls=(xs++[x])++ls by simp]
  exact AgU.reach hi ls _ _ _ (h.add hi (hk x (by simp)).1 (hk x (by simp)).2) (fun k' hk'=>hk k' (by simp [hk']))
theorem AgT.reach {S:Sp} {f:Th→Int} {l:List Pl} {cs:List Int} {m pd:List Pl} (h:AgT S f l cs m pd) {i:Nat} (hi:i<S.cs.length) (hb:∀ x∈l,thrB S f x i=true) :
  AgT S f l (cs++[(i:Int)]) (rchM S i l (m,[])).1 (pd++(rchM S i l (m,[])).2):=by
 have h1:=AgU.reach hi l [] m pd (AgU.start h) (fun x hx=>⟨hx,hb x hx⟩)
 rw [List.nil_append] at h1
 have h2:=rchM_pd S i l m pd []
 rw [List.append_nil] at h2
 rw [h2.1,h2.2] at h1
 exact AgU.end h1
theorem rchM_more (S:Sp) (i:Nat):∀ (l:List Pl) (s:List Pl × List Pl),(rchM S i l s).1.length+s.2.length=s.1.length+(rchM S i l s).2.length
 | [],s=>rfl
 | x :: l,s=>by
  rw [rchM]
  have h1:=rchM_more S i l (addM S s.1 (thrTo S x i),addQ S s.1 s.2 (thrTo S x i))
  have h2:=len_addM (S:=S) (m:=s.1) (q:=s.2) (x:=thrTo S x i)
  simp only at h1
  omega
theorem rchM_zero (S:Sp) (i:Nat) (l m:List Pl):(rchM S i l (m,[])).1.length=m.length+(rchM S i l (m,[])).2.length:=by
 have:=rchM_more S i l (m,[])
 simpa using this
def OneDiv (l:List Pl):Prop:=∀ x∈l,∀ y∈l,x.1=y.1
theorem rchM_to {S:Sp} {i:Nat} (hi:i<S.cs.length):∀ (l:List Pl) (s:List Pl × List Pl),(∀ x∈s.2,x.1=S.cs[i].to)→∀ x∈(rchM S i l s).2,x.1=S.cs[i].to
 | [],s,h=>h
 | y :: l,s,h=>by
  rw [rchM]
  refine rchM_to hi l _ fun x hx=>?_
  rcases mem_addQ.1 hx with hx | ⟨rfl,_⟩
  ·exact h x hx
  ·unfold thrTo;rw [List.getElem?_eq_getElem hi]
theorem rchM_one {S:Sp} {i:Nat} (hi:i<S.cs.length) (l m:List Pl):OneDiv (rchM S i l (m,[])).2:=fun x hx y hy=>by
 rw [rchM_to hi l (m,[]) (fun _ h=>by cases h) x hx,rchM_to hi l (m,[]) (fun _ h=>by cases h) y hy]
theorem rchM_key {S:Sp} {i:Nat}:∀ (l:List Pl) (s:List Pl × List Pl),(∀ x∈s.2,keyOk S x=true)→∀ x∈(rchM S i l s).2,keyOk S x=true
 | [],s,h=>h
 | y :: l,s,h=>by
  rw [rchM]
  refine rchM_key l _ fun x hx=>?_
  rcases mem_addQ.1 hx with hx | ⟨e,hx,_⟩
  ·exact h x hx
  ·rw [e];exact hx
theorem rchM_sub (S:Sp) (i:Nat):∀ (l:List Pl) (s:List Pl × List Pl) (x:Pl),x∈s.1→x∈(rchM S i l s).1
 | [],_,_,h=>h
 | y :: l,s,x,h=>by
  rw [rchM]
  exact rchM_sub S i l _ x (mem_addM.2 (.inl h))
theorem AcH.mono {S:Sp} {f:Th→Int} {m m':List Pl} (h:AcH S f m) (hs:∀ x∈m,x∈m'):AcH S f m':=⟨fun d k hd hk=>hs _ (h.key d k hd hk),fun i hi hon k hk ok=>hs _ (h.cou i hi hon k hk ok)⟩
theorem groups_few {α:Type} (q:α→List Pl):∀ (ps:List α),(∀ p∈ps,q p≠[])→ps.length≤(ps.map q).flatten.length
 | [],_=>Nat.le_refl _
 | p :: ps,h=>by
  have ih:=groups_few q ps (fun x hx=>h x (by simp [hx]))
  have h1:=List.length_pos_iff.2 (h p (by simp))
  rw [List.map_cons,List.flatten_cons,List.length_append,List.length_cons]
  omega
theorem groups_all {α:Type} (q:α→List Pl) (b:α→Bool):∀ (ps:List α),(∀ p∈ps,b p=true→q p=[])→((ps.filter fun p=>!b p).map q).flatten=(ps.map q).flatten
 | [],_=>rfl
 | p :: ps,h=>by
  have ih:=groups_all q b ps (fun x hx=>h x (by simp [hx]))
  cases e:b p with
  | true=>rw [List.filter_cons_of_neg (by simp [e]),ih,List.map_cons,List.flatten_cons,h p (by simp) e,List.nil_append]
  | false=>rw [List.filter_cons_of_pos (by simp [e]),List.map_cons,List.map_cons,List.flatten_cons,List.flatten_cons,ih]
end Go.Proofs.YteflhbfgpknabaaGreatDoor
