/-
  A part of the proof: AJ3.
-/
import Derived.Test.YthhfmppealmblaaGreatDoorK05
namespace Go.Proofs.YthhfmppealmblaaGreatDoor
open Go.RowKit
theorem acts_ok {S:Sp} {f:Th→Int} (hf:OnOk S f) {q:Pl} (h:Acts S f q):keyOk S q=true:=by
 cases h with
 | key d k hd h =>
  have:=mem_playedL.1 h
  exact (hf.key d k (by omega)).1
 | cou _ _ _ _ _ ok=>exact ok
 | thr _ _ _ _ _ _ ok=>exact ok
def hitS (S:Sp) (f:Th→Int) (i j:Nat) (y:Int) (p:Pp):Prop:=f (2,0,(i:Int))=1∧∃ hi:i<S.ss.length,∃ hj:j<S.ss[i].parts.length,S.ss[i].parts[j].lo≤y∧y≤S.ss[i].parts[j].hi∧Acts S f (S.ss[i].div,y)∧p=(S.ss[i].parts[j].rank,y+S.ss[i].parts[j].shift)
def SoS (S:Sp) (f:Th→Int) (k:Nat) (m:List Pp):Prop:=∀ p,p∈m ↔ ∃ i j y,i<k∧hitS S f i j y p
def SoP (S:Sp) (f:Th→Int) (k j:Nat) (m:List Pp):Prop:=∀ p,p∈m ↔ ∃ i j' y,(i<k∨i=k∧j'<j)∧hitS S f i j' y p
def SoY (S:Sp) (f:Th→Int) (k j:Nat) (y:Int) (m:List Pp):Prop:=∀ p,p∈m ↔ ∃ i j' y',(i<k∨i=k∧(j'<j∨j'=j∧y'<y))∧hitS S f i j' y' p
theorem SoS.start (S:Sp) (f:Th→Int):SoS S f 0 []:=fun p=>⟨(fun h=>by cases h),(fun ⟨_,_,_,h,_⟩=>absurd h (Nat.not_lt_zero _))⟩
theorem SoS.off {S:Sp} {f:Th→Int} {k:Nat} {m:List Pp} (h:SoS S f k m) (hn:f (2,0,(k:Int))≠1):SoS S f (k+1) m:=fun p=>(h p).trans
 ⟨fun ⟨i,j,y,h1,h2⟩=>⟨i,j,y,by omega,h2⟩,fun ⟨i,j,y,h1,h2⟩=>⟨i,j,y,by
  by_cases e:i=k
  ·subst e;exact absurd h2.1 hn
  ·omega,h2⟩⟩
theorem SoS.take {S:Sp} {f:Th→Int} {k:Nat} {m:List Pp} (h:SoS S f k m):SoP S f k 0 m:=fun p=>(h p).trans
 ⟨fun ⟨i,j,y,h1,h2⟩=>⟨i,j,y,.inl h1,h2⟩,fun ⟨i,j,y,h1,h2⟩=>⟨i,j,y,by omega,h2⟩⟩
theorem SoP.take {S:Sp} {f:Th→Int} {k j:Nat} {m:List Pp} (h:SoP S f k j m) (hk:k<S.ss.length) (hj:j<S.ss[k].parts.length) {lo:Int} (hlo:S.ss[k].parts[j].lo=lo):SoY S f k j lo m:=fun p=>(h p).trans
 ⟨fun ⟨i,j',y,h1,h2⟩=>⟨i,j',y,by omega,h2⟩,fun ⟨i,j',y,h1,h2⟩=>⟨i,j',y,by
  rcases h1 with h1 | ⟨rfl,h1 | ⟨rfl,h1⟩⟩
  ·exact .inl h1
  ·exact .inr ⟨rfl,h1⟩
  ·obtain ⟨_,_,_,h3,_⟩:=h2
   omega,h2⟩⟩
theorem SoY.skip {S:Sp} {f:Th→Int} {k j:Nat} {y:Int} {m:List Pp} (h:SoY S f k j y m) (hk:k<S.ss.length) (hn:¬ Acts S f (S.ss[k].div,y)):SoY S f k j (y+1) m:=fun p=>(h p).trans
 ⟨fun ⟨i,j',y',h1,h2⟩=>⟨i,j',y',by omega,h2⟩,fun ⟨i,j',y',h1,h2⟩=>⟨i,j',y',by
  rcases h1 with h1 | ⟨rfl,h1 | ⟨rfl,h1⟩⟩
  ·exact .inl h1
  ·exact .inr ⟨rfl,.inl h1⟩
  ·refine .inr ⟨rfl,.inr ⟨rfl,?_⟩⟩
   by_cases e:y'=y
   ·subst e
    obtain ⟨_,_,_,_,_,h3,_⟩:=h2
    exact absurd h3 hn
   ·omega,h2⟩⟩
theorem SoY.add {S:Sp} {f:Th→Int} {k j:Nat} {y:Int} {m m':List Pp} (h:SoY S f k j y m) (hk:k<S.ss.length) (hj:j<S.ss[k].parts.length) (hon:f (2,0,(k:Int))=1) (ha:Acts S f (S.ss[k].div,y)) (hlo:S.ss[k].parts[j].lo≤y) (hhi:y≤S.ss[k].parts[j].hi)
  (hm:∀ p,p∈m' ↔ p∈m∨p=(S.ss[k].parts[j].rank,y+S.ss[k].parts[j].shift)):SoY S f k j (y+1) m':=fun p=>by
 rw [hm,h p]
 constructor
 ·rintro (⟨i,j',y',h1,h2⟩ | rfl)
  ·exact ⟨i,j',y',by omega,h2⟩
  ·exact ⟨k,j,y,.inr ⟨rfl,.inr ⟨rfl,by omega⟩⟩,hon,hk,hj,hlo,hhi,ha,rfl⟩
 ·rintro ⟨i,j',y',h1,h2⟩
  by_cases e:i=k∧j'=j∧y'=y
  ·obtain ⟨rfl,rfl,rfl⟩:=e
   obtain ⟨_,_,_,_,_,_,h3⟩:=h2
   exact .inr h3
  ·refine .inl ⟨i,j',y',?_,h2⟩
   rcases h1 with h1 | ⟨rfl,h1 | ⟨rfl,h1⟩⟩
   ·exact .inl h1
   ·exact .inr ⟨rfl,.inl h1⟩
   ·refine .inr ⟨rfl,.inr ⟨rfl,?_⟩⟩
    have:y'≠y:=fun z=>e ⟨rfl,rfl,z⟩
    omega
theorem SoY.end {S:Sp} {f:Th→Int} {k j:Nat} {y:Int} {m:List Pp} (h:SoY S f k j y m) (hk:k<S.ss.length) (hj:j<S.ss[k].parts.length) (hy:S.ss[k].parts[j].hi<y):SoP S f k (j+1) m:=fun p=>(h p).trans
 ⟨fun ⟨i,j',y',h1,h2⟩=>⟨i,j',y',by omega,h2⟩,fun ⟨i,j',y',h1,h2⟩=>⟨i,j',y',by
  rcases h1 with h1 | ⟨rfl,h1⟩
  ·exact .inl h1
  ·refine .inr ⟨rfl,?_⟩
   by_cases e:j'=j
   ·subst e
    obtain ⟨_,_,_,_,h3,_⟩:=h2
    exact .inr ⟨rfl,by omega⟩
   ·exact .inl (by omega),h2⟩⟩
theorem SoP.end {S:Sp} {f:Th→Int} {k j:Nat} {m:List Pp} (h:SoP S f k j m) (hk:k<S.ss.length) (hj:S.ss[k].parts.length≤j):SoS S f (k+1) m:=fun p=>(h p).trans
 ⟨fun ⟨i,j',y',h1,h2⟩=>⟨i,j',y',by omega,h2⟩,fun ⟨i,j',y',h1,h2⟩=>⟨i,j',y',by
  by_cases e:i=k
  ·subst e
   obtain ⟨_,_,h3,_⟩:=h2
   exact .inr ⟨rfl,by omega⟩
  ·exact .inl (by omega),h2⟩⟩
theorem SoS.all {S:Sp} {f:Th→Int} {m:List Pp} (hf:OnOk S f) (h:SoS S f S.ss.length m) (p:Pp):p∈m ↔ Snd S f p:=by
 rw [h p]
 constructor
 ·rintro ⟨i,j,y,hi,hon,_,hj,h1,h2,h3,rfl⟩
  exact ⟨i,hi,hon,y,h3,acts_ok hf h3,List.any_eq_true.2 ⟨_,List.getElem_mem hj,decide_eq_true ⟨rfl,h1,h2,rfl⟩⟩⟩
 ·rintro ⟨i,hi,hon,y,ha,_,hp⟩
  obtain ⟨q,hq,h1⟩:=List.any_eq_true.1 hp
  obtain ⟨j,hj,rfl⟩:=List.getElem_of_mem hq
  rw [decide_eq_true_iff] at h1
  obtain ⟨e1,e2,e3,e4⟩:=h1
  exact ⟨i,j,y,hi,hon,hi,hj,e2,e3,ha,by rw [e1,e4]⟩
end Go.Proofs.YthhfmppealmblaaGreatDoor
