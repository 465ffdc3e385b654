/-
  A part of the proof: AR1.
-/
import Derived.Test.YthhfmppealmblaaGreatDoorN06
import Derived.Test.YthhfmppealmblaaGreatDoorN11
import Derived.Maps.AppendAt
import Derived.Lib.AppendZeros
namespace Go.Proofs.YthhfmppealmblaaGreatDoor
open Go.RowKit
theorem append_src (W:World) (base:Nat) (t e:TypeId) (i:TypeInfo) (z:Value) (size bytes:Nat) (ht:Tryz.prog.underlying t=some (.slice e)) (hi:Tryz.prog.info? e=some i) (hz:i.zero=some z) (hsize:i.size=size) (hby:i.bytes=bytes) (hzs:z.cells.size=size) (hsz:0<size) (hb64:bytes≤64)
  (V:Value) (n:Nat) (xs:List Value) (hown:W.ownsRow base e size V n xs) (v:Value) (rows:List (List Value)) (hk:∀ r∈rows,r.length=size) (h1:∀ u∈rows.flatten,u.oneCell'=true) (hv:ARd W v size rows) (hl:n+rows.length≤1000000000) (hb:base≤W.heap.size) :
  ∃ V' w',(Builtin.append_ #[t,t] t #[V,v]).run Tryz.prog W = .ok V' w'∧w'.ownsRow base e size V' (n+rows.length) (xs++rows.flatten)∧W.grownBy w' V.ownBlock:=by
 obtain ⟨a,c,rfl,hc⟩:=hv
 have hfl:=flat_len rows hk
 have hbb:(n+rows.length) * bytes≤140737488355328:=by
  have:=Nat.mul_le_mul hl hb64
  omega
 have key:∀ ad,a=some ad→(∀ j u,rows.flatten[j]?=some u→W.cell? (ad.add j)=some u)→∃ V' w',(Builtin.append_ #[t,t] t #[V,.slice a rows.length c]).run Tryz.prog W = .ok V' w'∧w'.ownsRow base e size V' (n+rows.length) (xs++rows.flatten)∧W.grownBy w' V.ownBlock:=by
  rintro ad rfl hcell
  obtain ⟨V',w',h2,h3,h4,_⟩:=run_append_own (P:=Tryz.prog) W base t t e i z size bytes ht hi hz hsize hby hzs hsz V n xs hown ad rows.length c rows.flatten hfl hcell h1 (by unfold maxLen;omega) hbb hb
  exact ⟨V',w',h2,h3,h4⟩
 rcases Nat.eq_zero_or_pos rows.length with h0 | h0
 ·have e0:rows=[]:=List.length_eq_zero_iff.1 h0
  cases a with
  | some ad=>exact key ad rfl (fun j u hj=>by rw [e0] at hj;cases hj)
  | none =>
   subst e0
   refine ⟨V,W,?_,by simpa using hown,World.grownBy.refl _ _⟩
   rcases hown.2 with ⟨rfl,rfl⟩ | ⟨g,cap,cur,rfl,_,_,hcap,_⟩
   ·simp [Builtin.append_,run_underlying ht,sizeOf,typeInfo,hi,Builtin.lenOf,Builtin.firstCells]
   ·simp [Builtin.append_,run_underlying ht,sizeOf,typeInfo,hi,Builtin.lenOf,Builtin.firstCells,hcap,storeCells]
 ·obtain ⟨b,o,rfl,_,_⟩:=hc 0 h0
  refine key _ rfl fun j u hj=>?_
  have hj2:j<rows.length * size:=by rw [← hfl];exact (List.getElem?_eq_some_iff.1 hj).1
  have hq:j / size<rows.length:=Nat.div_lt_of_lt_mul (by rw [Nat.mul_comm];exact hj2)
  have hm:j % size<size:=Nat.mod_lt _ hsz
  obtain ⟨b2,o2,e2,_,hr⟩:=hc (j / size) hq
  cases e2
  have h5:=flat_get rows hk (j / size) hq (j % size) hm
  have h6:j / size * size+j % size=j:=by rw [Nat.mul_comm];exact Nat.div_add_mod j size
  rw [h6,hj] at h5
  have h7:=hr (j % size) u h5.symm
  rw [Addr.add_lit]
  rw [Nat.add_assoc,h6] at h7
  exact h7
theorem ARd.pre {W:World} {a:Option Addr} {c:Nat} {l:List Int} (h:ARd W (.slice a l.length c) 1 (l.map iC)) {i:Nat} (hi:i≤l.length) (c':Nat):ARd W (.slice a i c') 1 ((l.take i).map iC):=by
 obtain ⟨a2,c2,e,hr⟩:=h
 rw [List.length_map] at e
 cases e
 refine ⟨a,c',by simp [Nat.min_eq_left hi],fun j hj=>?_⟩
 have hj2:j<l.length:=by simp at hj;omega
 obtain ⟨b,o,ha,hlt,hc⟩:=hr j (by simpa using hj2)
 refine ⟨b,o,ha,hlt,fun k u hk=>hc k u ?_⟩
 rw [← hk]
 simp
theorem ARd.suf {W:World} {b o c:Nat} {l:List Int} (h:ARd W (.slice (some ⟨b,o,none⟩) l.length c) 1 (l.map iC)) {i:Nat} (hi:i<l.length) (c':Nat):ARd W (.slice (some ⟨b,o+i,none⟩) (l.length-i) c') 1 ((l.drop i).map iC):=by
 obtain ⟨a2,c2,e,hr⟩:=h
 rw [List.length_map] at e
 cases e
 refine ⟨some ⟨b,o+i,none⟩,c',by simp,fun j hj=>?_⟩
 have hj2:i+j<l.length:=by simp at hj;omega
 obtain ⟨b2,o2,ha,hlt,hc⟩:=hr (i+j) (by simpa using hj2)
 cases ha
 refine ⟨b,o+i,rfl,hlt,fun k u hk=>?_⟩
 have:=hc k u (by rw [← hk];simp)
 rw [show o+(i+j) * 1+k=o+i+j * 1+k by omega] at this
 exact this
end Go.Proofs.YthhfmppealmblaaGreatDoor
