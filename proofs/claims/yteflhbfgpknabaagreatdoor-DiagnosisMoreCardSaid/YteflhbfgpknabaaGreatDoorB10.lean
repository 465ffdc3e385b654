/-
  A part of the proof: WS,JD,KN.
-/
import Derived.Test.YteflhbfgpknabaaGreatDoorB01
import Derived.Test.YteflhbfgpknabaaGreatDoorB09
import Derived.Test.YteflhbfgpknabaaGreatDoorL08
import Derived.Test.YteflhbfgpknabaaGreatDoorB07
import Derived.Test.YteflhbfgpknabaaGreatDoorL22
namespace Go.Proofs.YteflhbfgpknabaaGreatDoor
open Go.RowKit Go.Shelf
theorem ard_pre {W:World} {a:Option Addr} {n c k:Nat} {rows:List (List Value)} (h:ARd W (.slice a n c) k rows) {m:Nat} (hm:m≤rows.length) (c':Nat):ARd W (.slice a m c') k (rows.take m):=by
 obtain ⟨a2,c2,e,hc⟩:=h
 cases e
 refine ⟨a,c',by rw [List.length_take,Nat.min_eq_left hm],fun i hi=>?_⟩
 rw [List.length_take] at hi
 obtain ⟨b,o,e,hb,hr⟩:=hc i (by omega)
 refine ⟨b,o,e,hb,fun j u hj=>hr j u ?_⟩
 rw [List.getElem_take] at hj
 exact hj
theorem TlRd.pre {W:World} {a:Option Addr} {n c:Nat} {T:List Tl} {gk gs gc gh:Nat→Value} (h:TlRd W (.slice a n c) T gk gs gc gh) {m:Nat} (hm:m≤T.length) (c':Nat):TlRd W (.slice a m c') (T.take m) gk gs gc gh:=by
 refine ⟨?_,fun i hi=>?_,fun i hi=>?_⟩
 ·have h1:=ard_pre h.rd (m:=m) (by simpa using hm) c'
  rw [← List.map_take,List.take_range,Nat.min_eq_left hm] at h1
  rw [List.length_take,Nat.min_eq_left hm]
  exact h1
 ·rw [List.length_take] at hi
  rw [List.getElem_take]
  exact h.hd i (by omega)
 ·rw [List.length_take] at hi
  rw [List.getElem_take]
  exact h.pp i (by omega)
theorem StsRd.one {W:World} {b o n c:Nat} {M:List (List Ft)} {g:Nat→Value} (h:StsRd W (.slice (some ⟨b,o,none⟩) n c) M g) {k:Nat} (hk:k<M.length) (c':Nat):StsRd W (.slice (some ⟨b,o+k,none⟩) 1 c') [M[k]] (fun _=>g k):=by
 obtain ⟨b2,o2,c2,e,hlt,hc⟩:=h.at' hk
 cases e
 refine ⟨⟨_,_,rfl,fun i hi=>⟨b,o+k,rfl,hlt,fun j u hj=>?_⟩⟩,fun i hi=>?_⟩
 ·have hi0:i=0:=by have:i<1:=hi;omega
  subst hi0
  have e1:([g k]:List Value)[j]?=some u:=hj
  cases j with
  | zero=>cases e1;simpa using hc
  | succ j=>cases e1
 ·have hi0:i=0:=by have:i<1:=hi;omega
  subst hi0
  exact h.st k hk
theorem row_cap {W:World} {base:Nat} {t:TypeId} {k n c:Nat} {a:Option Addr} {xs:List Value} (h:W.ownsRow base t k (.slice a n c) n xs):n≤c:=by
 rcases h.2 with ⟨e,e0⟩ | ⟨g,cap,cur,e,_,_,hc,_⟩
 ·cases e;omega
 ·cases e;exact hc
theorem step_appendK {P:Program} {ops:Array Oper} {o:Oper} {a:Act} {w:World} {K:Act→World→Prop} {Q:Exit→Act→World→Prop} {E:Prop}
  (hg:o.guard=none) (d x:Operand) (dT sT:TypeId) (hop:o.op=Op.call { callee:=Callee.builtin Builtin.append,args:=#[d,x],argTypes:=#[dT,sT] })
  (v u:Value) (hd:a.eval d=v) (hx:a.eval x=u) {v':Value} {w':World} (hr:(Builtin.append_ #[dT,sT] o.type #[v,u]).run P w = .ok v' w') (hK:K (a.put o.dst v') w') :
  if Region.wanted o (yielded ops a.tmps)=true then Oper.wp P o a w K Q else E:=by
 have hw:Region.wanted o (yielded ops a.tmps)=true:=by simp [Region.wanted,hg]
 rw [if_pos hw]
 unfold Oper.wp
 simp [execOp,hop,resolve,invoke,builtin,hd,hx,hr,Result.andThen]
 exact hK
theorem append_srcW (W:World) (base:Nat) (t e:TypeId) (i:TypeInfo) (z:Value) (size bytes:Nat) (ht:Tryz.prog.underlying t=some (.slice e)) (hi:Tryz.prog.info? e=some i) (hz:i.zero=some z) (hsize:i.size=size) (hby:i.bytes=bytes) (hzs:z.cells.size=size) (hsz:0<size) (hb64:bytes≤96)
  (V:Value) (n:Nat) (xs:List Value) (hown:W.ownsRow base e size V n xs) (v:Value) (rows:List (List Value)) (hk:∀ r∈rows,r.length=size) (h1:∀ u∈rows.flatten,u.oneCell'=true) (hv:ARd W v size rows) (hl:n+rows.length≤1000000000) (hb:base≤W.heap.size) :
  ∃ V' w',(Builtin.append_ #[t,t] t #[V,v]).run Tryz.prog W = .ok V' w'∧w'.ownsRow base e size V' (n+rows.length) (xs++rows.flatten)∧W.grownBy w' V.ownBlock:=by
 obtain ⟨a,c,rfl,hc⟩:=hv
 have hfl:=flat_len rows hk
 have hbb:(n+rows.length) * bytes≤140737488355328:=by
  have:=Nat.mul_le_mul hl hb64
  omega
 have key:∀ ad,a=some ad→(∀ j u,rows.flatten[j]?=some u→W.cell? (ad.add j)=some u)→∃ V' w',(Builtin.append_ #[t,t] t #[V,.slice a rows.length c]).run Tryz.prog W = .ok V' w'∧w'.ownsRow base e size V' (n+rows.length) (xs++rows.flatten)∧W.grownBy w' V.ownBlock:=by
  rintro ad rfl hcell
  obtain ⟨V',w',h2,h3,h4,_⟩:=run_append_own (P:=Tryz.prog) W base t t e i z size bytes ht hi hz hsize hby hzs hsz V n xs hown ad rows.length c rows.flatten hfl hcell h1 (by unfold maxLen;omega) hbb hb
  exact ⟨V',w',h2,h3,h4⟩
 rcases Nat.eq_zero_or_pos rows.length with h0 | h0
 ·have e0:rows=[]:=List.length_eq_zero_iff.1 h0
  cases a with
  | some ad=>exact key ad rfl (fun j u hj=>by rw [e0] at hj;cases hj)
  | none =>
   subst e0
   refine ⟨V,W,?_,by simpa using hown,World.grownBy.refl _ _⟩
   rcases hown.2 with ⟨rfl,rfl⟩ | ⟨g,cap,cur,rfl,_,_,hcap,_⟩
   ·simp [Builtin.append_,run_underlying ht,sizeOf,typeInfo,hi,Builtin.lenOf,Builtin.firstCells]
   ·simp [Builtin.append_,run_underlying ht,sizeOf,typeInfo,hi,Builtin.lenOf,Builtin.firstCells,hcap,storeCells]
 ·obtain ⟨b,o,rfl,_,_⟩:=hc 0 h0
  refine key _ rfl fun j u hj=>?_
  have hj2:j<rows.length * size:=by rw [← hfl];exact (List.getElem?_eq_some_iff.1 hj).1
  have hq:j / size<rows.length:=Nat.div_lt_of_lt_mul (by rw [Nat.mul_comm];exact hj2)
  have hm:j % size<size:=Nat.mod_lt _ hsz
  obtain ⟨b2,o2,e2,_,hr⟩:=hc (j / size) hq
  cases e2
  have h5:=flat_get rows hk (j / size) hq (j % size) hm
  have h6:j / size * size+j % size=j:=by rw [Nat.mul_comm];exact Nat.div_add_mod j size
  rw [h6,hj] at h5
  have h7:=hr (j % size) u h5.symm
  rw [Addr.add_lit]
  rw [Nat.add_assoc,h6] at h7
  exact h7
theorem tl_ones {W:World} {v:Value} {T:List Tl} {gk gs gc gh:Nat→Value} (h:TlRd W v T gk gs gc gh):∀ u∈((List.range T.length).map fun i=>[gk i,gs i,gc i,gh i]).flatten,u.oneCell'=true:=fun u hu=>by
 obtain ⟨r,hr,hu⟩:=List.mem_flatten.1 hu
 obtain ⟨i,hi,rfl⟩:=List.mem_map.1 hr
 have hi:=List.mem_range.1 hi
 obtain ⟨⟨a1,c1,e1⟩,⟨a2,c2,e2⟩,⟨a3,c3,e3⟩⟩:=(h.hd i hi).forms
 obtain ⟨a4,c4,e4⟩:=(h.pp i hi).form
 simp only [List.mem_cons,List.not_mem_nil,or_false] at hu
 rcases hu with rfl | rfl | rfl | rfl
 ·rw [e1];rfl
 ·rw [e2];rfl
 ·rw [e3];rfl
 ·rw [e4];rfl
theorem append_tls (W:World) (base:Nat) (V:Value) (n:Nat) (xs:List Value) (hown:W.ownsRow base 58 4 V n xs) {v:Value} {T:List Tl} {gk gs gc gh:Nat→Value} (hT:TlRd W v T gk gs gc gh) (hl:n+T.length≤1000000000) (hb:base≤W.heap.size) :
  ∃ V' w',(Builtin.append_ #[33,33] 33 #[V,v]).run Tryz.prog W = .ok V' w'∧w'.ownsRow base 58 4 V' (n+T.length) (xs++hrC gk gs gc gh T.length)∧W.grownBy w' V.ownBlock:=by
 obtain ⟨i0,hi,hz0,hz1,hz2⟩:=info_parts dgTrial_info
 obtain ⟨V',w',h1,h2,h3⟩:=append_srcW W base 33 58 i0 _ 4 96 Tryz.underlying33 hi hz0 hz1 hz2 rfl (by omega) (by omega) V n xs hown v ((List.range T.length).map fun i=>[gk i,gs i,gc i,gh i]) (by intro r hr;obtain ⟨p,_,rfl⟩:=List.mem_map.1 hr;rfl) (tl_ones hT) hT.rd (by simpa using hl) hb
 refine ⟨V',w',h1,?_,h3⟩
 rw [List.length_map,List.length_range] at h2
 exact h2
theorem tl_one {W:World} {b:Nat} {x y z u:Value} {t:Tl} (h:Blk W b 58 #[x,y,z,u]) (hh:HnRd W x y z t.h) (hp:ARd W u 2 (t.l.map ppC)):TlRd W (.slice (some ⟨b,0,none⟩) 1 1) [t] (fun _=>x) (fun _=>y) (fun _=>z) (fun _=>u):=by
 refine ⟨ard_of_blk (k:=4) h (by intro r hr;obtain ⟨i,_,rfl⟩:=List.mem_map.1 hr;rfl) rfl _ _ rfl,fun i hi=>?_,fun i hi=>?_⟩
 ·have e:i=0:=by have:i<1:=hi;omega
  subst e
  exact hh
 ·have e:i=0:=by have:i<1:=hi;omega
  subst e
  exact hp
theorem tl_snoc {W:World} {base:Nat} {V v:Value} {T:List Tl} {t:Tl} {gk gs gc gh:Nat→Value} {x y z u:Value} (hT:TlRd W v T gk gs gc gh) (hr:W.ownsRow base 58 4 V (T.length+1) (hrC gk gs gc gh T.length++[x,y,z,u])) (hh:HnRd W x y z t.h) (hp:ARd W u 2 (t.l.map ppC)) :
  ∃ pk ps pc ph,TlRd W V (T++[t]) pk ps pc ph:=by
 refine ⟨fun i=>if i<T.length then gk i else x,fun i=>if i<T.length then gs i else y,fun i=>if i<T.length then gc i else z,fun i=>if i<T.length then gh i else u,?_,fun i hi=>?_,fun i hi=>?_⟩
 ·refine ARd.of_row (base:=base) (t:=58) (fun r hr=>?_) ?_
  ·obtain ⟨i,_,rfl⟩:=List.mem_map.1 hr
   rfl
  ·rw [List.length_map,List.length_range,List.length_append,List.length_singleton,List.range_succ,List.map_append,List.flatten_append,List.map_singleton,List.flatten_singleton]
   have e1:((List.range T.length).map fun i=>[if i<T.length then gk i else x,if i<T.length then gs i else y,if i<T.length then gc i else z,if i<T.length then gh i else u])=(List.range T.length).map fun i=>[gk i,gs i,gc i,gh i]:=List.map_congr_left fun i hi=>by
    have hlt:=List.mem_range.1 hi
    simp only [if_pos hlt]
   rw [e1]
   have h0:¬ T.length<T.length:=Nat.lt_irrefl _
   simp only [if_neg h0]
   exact hr
 ·rw [List.length_append,List.length_singleton] at hi
  by_cases hlt:i<T.length
  ·simp only [if_pos hlt]
   rw [List.getElem_append_left hlt]
   exact hT.hd i hlt
  ·have e2:i=T.length:=by omega
   subst e2
   simp only [if_neg hlt]
   simpa using hh
 ·rw [List.length_append,List.length_singleton] at hi
  by_cases hlt:i<T.length
  ·simp only [if_pos hlt]
   rw [List.getElem_append_left hlt]
   exact hT.pp i hlt
  ·have e2:i=T.length:=by omega
   subst e2
   simp only [if_neg hlt]
   simpa using hp
theorem blk_row0 {W:World} {base a:Nat} {t:TypeId} {k:Nat} (h:Blk W a t #[]) (hb:base≤a):W.ownsRow base t k (.slice (some ⟨a,0,none⟩) 0 0) 0 [] :=
 ⟨by simp,.inr ⟨a,0,#[],rfl,hb,h,by decide,by unfold maxLen;omega,by simp,by simp⟩⟩
def CvW (base:Nat) (z:World) (v:Value) (m l:Nat):Prop:=∃ (C:List (List Ft)) (g:Nat→Value),(0<C.length∧C.length≤l∧∀ i (hi:i<C.length),C[i].length=m)∧StO base z v C g
theorem CvW.later {base:Nat} {z z':World} {v:Value} {m l:Nat} (h:CvW base z v m l) (hb:Below z.heap.size z z'):CvW base z' v m l:=by
 obtain ⟨C,g,h1,h2⟩:=h
 exact ⟨C,g,h1,h2.later hb⟩
section
variable {md : Region.Mode} {ops : Array Oper}
end
section
variable {ops : Array Oper}
theorem ja_keep {A S i:Nat} {w0 w':World} {Final:(Nat→Value)→World→Prop} {ℓ:Nat→Bool} {x':Nat→Value} (hS:i≠S) (hS2:ℓ S=false) (hb:Below w0.heap.size w0 w'):JA A S w0 Final (setB ℓ i) x' w' :=
 ⟨fun _=>hb,fun q=>by rw [setB,if_neg (fun e=>hS e.symm),hS2] at q;cases q⟩
end
end Go.Proofs.YteflhbfgpknabaaGreatDoor
namespace Go.Proofs.YteflhbfgpknabaaGreatDoor
open Go.RowKit
def ndB (nd:List (Nat × Nat)) (i j:Nat):Bool:=nd.any fun p=>p.1==i&&p.2==j
def onlyN (md:Region.Mode) (ops:Array Oper) (nd:List (Nat × Nat)) (i j:Nat):Bool:=nd.all fun p=>!(p.2==j)||p.1==i||upB md ops 4 i p.1
section
variable {P : Program} {md : Region.Mode} {ops : Array Oper} {Q : Exit → Act → World → Prop} {nd : List (Nat × Nat)}
theorem ndB_in {i j:Nat} (h:ndB nd i j=true):(i,j)∈nd:=by
 obtain ⟨p,hp,h2⟩:=List.any_eq_true.1 h
 rw [Bool.and_eq_true,beq_iff_eq,beq_iff_eq] at h2
 obtain ⟨p1,p2⟩:=p
 obtain ⟨rfl,rfl⟩:=h2
 exact hp
theorem ndB_waits (h:nd.all (fun p=>Region.waitsFor md ops p.1 p.2)=true) {i j:Nat} (hn:ndB nd i j=true):Region.waitsFor md ops i j=true:=List.all_eq_true.1 h _ (ndB_in hn)
theorem onlyN_spec {i j:Nat} (h:onlyN md ops nd i j=true) {ℓ:Nat→Bool} (hd:∀ f k,upB md ops f i k=true→ℓ k=true):¬ ∃ k,k≠i∧ℓ k=false∧ndB nd k j=true:=by
 rintro ⟨k,hk,hl,hn⟩
 have h1:=List.all_eq_true.1 h _ (ndB_in hn)
 rw [Bool.or_eq_true,Bool.or_eq_true] at h1
 rcases h1 with (h1 | h1) | h1
 ·simp at h1
 ·exact hk (beq_iff_eq.1 h1)
 ·rw [hd 4 k h1] at hl;cases hl
theorem lastN_spec {i:Nat} (h:lastB md ops i=true) (hnd:nd.all (fun p=>Region.waitsFor md ops p.1 p.2)=true) {ℓ:Nat→Bool} (hd:∀ f k,upB md ops f i k=true→ℓ k=true) {j:Nat}:¬ ∃ k,k≠i∧ℓ k=false∧ndB nd k j=true :=
 fun ⟨k,h1,h2,h3⟩=>lastB_spec h hd ⟨k,h1,h2,ndB_waits hnd h3⟩
def FlowStepN (P:Program) (md:Region.Mode) (ops:Array Oper) (Q:Exit→Act→World→Prop) (F:(Nat→Value)→Act) (Res:Nat→Value→World→Prop) (nd:List (Nat × Nat)) (J:(Nat→Bool)→(Nat→Value)→World→Prop) (i:Nat) (o:Oper):Prop :=
 ∀ (ℓ:Nat→Bool) (x:Nat→Value) (w:World),J ℓ x w→ℓ i=false→(∀ f k,upB md ops f k i=true→ℓ k=false)→(∀ f k,upB md ops f i k=true→ℓ k=true)→(∀ j,ndB nd i j=true→∀ (o':Oper) (d':Nat),ops[j]?=some o'→o'.dst=some d'→Res j (x d') w) →
  ∀ K:Act→World→Prop,(∀ v w',J (setB ℓ i) (putX x o.dst v) w'→(∀ j v',ℓ j=true→(∃ k,k≠i∧ℓ k=false∧ndB nd k j=true)→Res j v' w→Res j v' w')→Res i v w'→K ((F x).put o.dst v) w')→wpOp P ops Q i K (F x) w
def JN (ops:Array Oper) (Res:Nat→Value→World→Prop) (nd:List (Nat × Nat)) (J:(Nat→Bool)→(Nat→Value)→World→Prop) (ℓ:Nat→Bool) (x:Nat→Value) (z:World):Prop :=
 J ℓ x z∧∀ (i:Nat) (o:Oper) (d:Nat),ops[i]?=some o→o.dst=some d→ℓ i=true→(∃ k,k<ops.size∧ℓ k=false∧ndB nd k i=true)→Res i (x d) z
theorem wp_region_flowN {id:Nat} (F:(Nat→Value)→Act) (Res:Nat→Value→World→Prop) (nd:List (Nat × Nat)) (J:(Nat→Bool)→(Nat→Value)→World→Prop) {a:Act} (x0:Nat→Value) {w:World} (ha:a=F x0) (hm:P.follows .mixedOrders=true) (hback:backB .any ops=true) (hapart:apartB ops=true) (hnd:nd.all (fun p=>Region.waitsFor .any ops p.1 p.2)=true)
  (start:∀ ℓ,(∀ n,n<ops.size→ℓ n=false)→J ℓ x0 w.drew)
  (hJ:∀ ℓ ℓ' x w,(∀ n,n<ops.size→ℓ n=ℓ' n)→J ℓ x w→J ℓ' x w)
  (hput:∀ (i:Nat) (o:Oper) (d:Nat),ops[i]?=some o→o.dst=some d→∀ x v,(F x).put (some d) v=F (upd x d v))
  (step:∀ (i:Nat) (o:Oper),ops[i]?=some o→FlowStepN P .any ops Q F Res nd J i o)
  (done:∀ ℓ x w,(∀ i,i<ops.size→ℓ i=true)→J ℓ x w→Q .normal (F x) w):(Code.region id ops true).wp P Q a w:=by
 refine wp_region_flowJ F (fun _ _ _=>True) (JN ops Res nd J) x0 ha hm hback hapart (fun ℓ hl=>⟨start ℓ hl,fun i o d ho _ hi _=>?_⟩) (fun ℓ ℓ' x w he h=>⟨hJ ℓ ℓ' x w he h.1,fun i o d ho hd hi hk=>?_⟩) hput (fun i o ho=>?_) (fun ℓ x w hall hj=>done ℓ x w hall hj.1)
 ·rw [hl i (Array.getElem?_eq_some_iff.1 ho).1] at hi;cases hi
 ·obtain ⟨k,k1,k2,k3⟩:=hk
  exact h.2 i o d ho hd ((he i (Array.getElem?_eq_some_iff.1 ho).1).trans hi) ⟨k,k1,(he k k1).trans k2,k3⟩
 ·intro ℓ x w hj hli hup hdl _ K hK
  have hil:=(Array.getElem?_eq_some_iff.1 ho).1
  refine step i o ho ℓ x w hj.1 hli hup hdl (fun j hn o' d' ho' hd'=>hj.2 j o' d' ho' hd' ?_ ⟨i,hil,hli,hn⟩) K (fun v w' h1 h2 h3=>hK v w' ⟨h1,fun j o' d' ho' hd' hlj hp=>?_⟩ (fun _ _ _ _ _=>trivial) trivial)
  ·have hw:=ndB_waits hnd hn
   refine hdl 1 j ?_
   unfold upB
   refine List.any_eq_true.2 ⟨j,List.mem_range.2 (Array.getElem?_eq_some_iff.1 ho').1,?_⟩
   rw [hw,decide_eq_true rfl]
   rfl
  ·obtain ⟨k,k1,k2,k3⟩:=hp
   have hki:k≠i:=fun e=>by rw [setB,if_pos e] at k2;cases k2
   rw [setB,if_neg hki] at k2
   by_cases e:j=i
   ·subst e
    obtain rfl:o'=o:=Option.some.inj (ho'.symm.trans ho)
    rw [hd',show putX x (some d') v d'=v from upd_same x d' v]
    exact h3
   ·rw [setB,if_neg e] at hlj
    have hx:putX x o.dst v d'=x d':=by
     cases hd:o.dst with
     | none=>rfl
     | some d=>exact upd_other x v (apartB_spec hapart ho' ho hd' hd e)
    rw [hx]
    exact h2 j _ hlj ⟨k,hki,k2,k3⟩ (hj.2 j o' d' ho' hd' hlj ⟨k,k1,k2,k3⟩)
end
end Go.Proofs.YteflhbfgpknabaaGreatDoor
