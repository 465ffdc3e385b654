/-
  A part of the proof: ZA,VO,VT,ZC,ShelfS,VU.
-/
import Derived.Test.YteflhbfgpknabaaGreatDoorL07
import Derived.Test.YteflhbfgpknabaaGreatDoorL12
import Derived.Test.YteflhbfgpknabaaGreatDoorL21
import Derived.Shelf.SlicesE.Clone
import Derived.Test.YteflhbfgpknabaaGreatDoorL26
import Derived.Shelf.SlSortCmp.NoneTotal
import Derived.Test.YteflhbfgpknabaaGreatDoorProg
set_option maxRecDepth 100000
set_option maxHeartbeats 6400000
namespace Go.Proofs.YteflhbfgpknabaaGreatDoor
open Go.Lib (hid)
open Go.RowKit
abbrev Tri:=Ft × Ft × Ft
def triC (x:Tri):List Value:=ftC x.1++ftC x.2.1++ftC x.2.2
def ekT (x:Tri):Value:=.agg (triC x).toArray
def triOf (l:List Ft):Tri:=(l.getD 0 (0,0,0),l.getD 1 (0,0,0),l.getD 2 (0,0,0))
theorem run_eqF (x y:Ft) (w:World):(Op.equalIn 9999 74 (.agg (ftC x).toArray) (.agg (ftC y).toArray)).run Tryz.prog w = .ok (decide (x=y)) w:=by
 obtain ⟨a,b,c⟩:=x
 obtain ⟨d,e,f⟩:=y
 unfold ftC
 rw [run_equalIn_agg w 9998 74 _ _ (by kernel_rfl) (by kernel_rfl)]
 simp only [Program.fieldsOf,Tryz.underlying74]
 simp [go_sem,Tryz.underlying3,part]
 by_cases h1:a=d <;> by_cases h2:b=e <;> by_cases h3:c=f <;> simp [h1,h2,h3]
theorem part_tri (x:Tri) (j:Nat) (hj:j<3) (w:World):(part 74 (triC x).toArray (j * 3)).run Tryz.prog w = .ok (.agg (ftC (match j with | 0=>x.1 | 1=>x.2.1 | _=>x.2.2)).toArray) w:=by
 obtain ⟨⟨a1,a2,a3⟩,⟨b1,b2,b3⟩,c1,c2,c3⟩:=x
 match j,hj with
 | 0,_ | 1,_ | 2,_ => simp [part,triC,ftC,go_sem,Tryz.isAgg74,Tryz.sizeOf74]
theorem tri_info:(Tryz.prog.info? 74).map (fun _=>())=some ()∧Tryz.prog.cellsOf 74=3:=⟨by kernel_rfl,by kernel_rfl⟩
theorem run_eqT (x y:Tri) (w:World):(Op.equal 113 (ekT x) (ekT y)).run Tryz.prog w = .ok (decide (x=y)) w:=by
 obtain ⟨i,hi⟩:∃ i,Tryz.prog.info? 74=some i:=by
  cases h:Tryz.prog.info? 74 with
  | none=>have:=tri_info.1;rw [h] at this;cases this
  | some i=>exact ⟨i,rfl⟩
 have h0:∀ w,(part 74 (triC x).toArray 0).run Tryz.prog w = .ok (.agg (ftC x.1).toArray) w:=fun w=>part_tri x 0 (by decide) w
 have h1:∀ w,(part 74 (triC x).toArray 3).run Tryz.prog w = .ok (.agg (ftC x.2.1).toArray) w:=fun w=>part_tri x 1 (by decide) w
 have h2:∀ w,(part 74 (triC x).toArray 6).run Tryz.prog w = .ok (.agg (ftC x.2.2).toArray) w:=fun w=>part_tri x 2 (by decide) w
 have k0:∀ w,(part 74 (triC y).toArray 0).run Tryz.prog w = .ok (.agg (ftC y.1).toArray) w:=fun w=>part_tri y 0 (by decide) w
 have k1:∀ w,(part 74 (triC y).toArray 3).run Tryz.prog w = .ok (.agg (ftC y.2.1).toArray) w:=fun w=>part_tri y 1 (by decide) w
 have k2:∀ w,(part 74 (triC y).toArray 6).run Tryz.prog w = .ok (.agg (ftC y.2.2).toArray) w:=fun w=>part_tri y 2 (by decide) w
 show (Op.equalIn (9999+1) _ (.agg _) (.agg _)).run _ _=_
 rw [run_equalIn_array w 9999 _ _ Tryz.underlying113 hi,tri_info.2]
 show (Op.eqItems 9999 _ 3 _ _ [0,1,2]).run _ _=_
 obtain ⟨x1,x2,x3⟩:=x
 obtain ⟨y1,y2,y3⟩:=y
 have step:∀ (j:Nat) (a b:Ft) (is:List Nat),(∀ w,(part 74 (triC (x1,x2,x3)).toArray (j * 3)).run Tryz.prog w = .ok (.agg (ftC a).toArray) w)→(∀ w,(part 74 (triC (y1,y2,y3)).toArray (j * 3)).run Tryz.prog w = .ok (.agg (ftC b).toArray) w)→(Op.eqItems 9999 74 3 (triC (x1,x2,x3)).toArray (triC (y1,y2,y3)).toArray (j :: is)).run Tryz.prog w=if a=b then (Op.eqItems 9999 74 3 (triC (x1,x2,x3)).toArray (triC (y1,y2,y3)).toArray is).run Tryz.prog w else .ok false w:=fun j a b is ha hb=>by
  simp only [Op.eqItems,Sem.run_bind,ha,hb,Result.andThen_ok,run_eqF]
  by_cases e:a=b
  ·rw [if_pos e];simp [e]
  ·rw [if_neg e];simp [e]
 rw [step 0 x1 y1 _ h0 k0,step 1 x2 y2 _ h1 k1,step 2 x3 y3 _ h2 k2]
 by_cases e1:x1=y1
 ·rw [if_pos e1]
  by_cases e2:x2=y2
  ·rw [if_pos e2]
   by_cases e3:x3=y3
   ·rw [if_pos e3,e1,e2,e3,decide_eq_true rfl];rfl
   ·rw [if_neg e3,decide_eq_false (fun h=>e3 (by simpa using (Prod.mk.inj (Prod.mk.inj h).2).2))]
  ·rw [if_neg e2,decide_eq_false (fun h=>e2 (by simpa using (Prod.mk.inj (Prod.mk.inj h).2).1))]
 ·rw [if_neg e1,decide_eq_false (fun h=>e1 (by simpa using (Prod.mk.inj h).1))]
theorem chk_ft (b:Bool) (x:Ft) (w:World) (n:Nat):(Instr.checkKey b (n+1+1) 74 (.agg (ftC x).toArray)).run Tryz.prog w = .ok () w:=by
 unfold ftC
 simp [Instr.checkKey,run_underlying Tryz.underlying74,run_underlying Tryz.underlying3,go_sem,part,Result.andThen]
theorem chk_tri (b:Bool) (x:Tri) (w:World) (n:Nat):(Instr.checkKey b (n+1+1+1) 113 (ekT x)).run Tryz.prog w = .ok () w:=by
 have h0:∀ w,(part 74 (triC x).toArray 0).run Tryz.prog w = .ok (.agg (ftC x.1).toArray) w:=fun w=>part_tri x 0 (by decide) w
 have h1:∀ w,(part 74 (triC x).toArray 3).run Tryz.prog w = .ok (.agg (ftC x.2.1).toArray) w:=fun w=>part_tri x 1 (by decide) w
 have h2:∀ w,(part 74 (triC x).toArray 6).run Tryz.prog w = .ok (.agg (ftC x.2.2).toArray) w:=fun w=>part_tri x 2 (by decide) w
 unfold ekT
 rw [Instr.checkKey]
 have c0:∀ (y:Ft) w,(Instr.checkKey b (n+2) 74 (.agg (ftC y).toArray)).run Tryz.prog w = .ok () w:=fun y w=>chk_ft b y w n
 have z0:=Tryz.sizeOf74
 simp [run_underlying Tryz.underlying113,Sem.run_bind,Result.andThen,Std.Legacy.Range.forIn_eq_forIn_range',Std.Legacy.Range.size,List.range',h0,h1,h2,c0,z0]
theorem tri_keys:MapK Tryz.prog 113 ekT :=
 mapK_agg Tryz.underlying113 (fun _ _=>rfl) (fun x y w=>run_eqT x y w) (fun b x w=>chk_tri b x w 9997) (fun x=>by unfold ekT triC ftC;simp [Instr.sameBits])
theorem triOf_inj {f g:List Ft} (hf:f.length≤3) (hg:g.length≤3) (kf:∀ x∈f,1≤x.1) (kg:∀ x∈g,1≤x.1) (h:triOf f=triOf g):f=g:=by
 have nz:∀ {x:Ft},1≤x.1→x≠(0,0,0):=fun h e=>by subst e;simp at h
 simp only [triOf,Prod.mk.injEq] at h
 obtain ⟨h0,h1,h2⟩:=h
 rcases f with _ | ⟨a,_ | ⟨b,_ | ⟨c,_ | ⟨d,f⟩⟩⟩⟩ <;> rcases g with _ | ⟨a',_ | ⟨b',_ | ⟨c',_ | ⟨d',g⟩⟩⟩⟩ <;> simp only [List.length_cons,List.length_nil] at hf hg <;> (try omega) <;> simp only [List.getD_cons_zero,List.getD_cons_succ,List.getD_nil] at h0 h1 h2 <;> simp only [List.mem_cons,List.not_mem_nil,or_false,forall_eq_or_imp,forall_eq] at kf kg
 ·rfl
 all_goals first | (subst h0 h1 h2;rfl) | (subst h0 h1;rfl) | (subst h0;rfl) | exact absurd h0 (nz (by first | exact kf | exact kf.1)) | exact absurd h0.symm (nz (by first | exact kg | exact kg.1)) | exact absurd h1 (nz (by first | exact kf.2 | exact kf.2.1)) | exact absurd h1.symm (nz (by first | exact kg.2 | exact kg.2.1)) | exact absurd h2 (nz kf.2.2) | exact absurd h2.symm (nz kg.2.2)
end Go.Proofs.YteflhbfgpknabaaGreatDoor
namespace Go.Proofs.YteflhbfgpknabaaGreatDoor
open Go.Lib (hid)
open Go.RowKit Go.Shelf
def ftCs (l:List Ft):List Value:=(l.map ftC).flatten
theorem ftf_info:(Tryz.prog.info? 74).map (fun i=>(i.zero,i.size,i.bytes))=some (some (.agg #[.int .i64 0,.int .i64 0,.int .i64 0]),3,24):=by kernel_rfl
def csA (S:Sp) (p:Pp) (n:Nat):List Ft:=[(1,p.1,p.2),(2,p.1,p.2)]++(List.range n).flatMap (fun (i:Nat)=>if (S.ss[i]?.map fun x=>ownB x p)=some true then [(3,(i:Int),0),(4,(i:Int),0)] else [])
def csB (S:Sp) (p:Pp) (n:Nat):List Ft:=csA S p S.ss.length++(List.range n).flatMap fun (i:Nat)=>[(5,(i:Int),0),(6,(i:Int),0)]
theorem csA_next {S:Sp} {p:Pp} {n:Nat} (hn:n<S.ss.length):csA S p (n+1)=csA S p n++(if ownB S.ss[n] p=true then [(3,(n:Int),0),(4,(n:Int),0)] else []):=by
 unfold csA
 rw [List.range_succ,List.flatMap_append,List.append_assoc]
 simp [hn]
theorem csB_next (S:Sp) (p:Pp) (n:Nat):csB S p (n+1)=csB S p n++[(5,(n:Int),0),(6,(n:Int),0)]:=by
 unfold csB
 rw [List.range_succ,List.flatMap_append,List.append_assoc]
 simp
theorem csB_all (S:Sp) (p:Pp):csB S p S.cs.length=causeL S p:=rfl
theorem csA_len (S:Sp) (p:Pp):∀ n,n≤S.ss.length→(csA S p n).length≤2+2 * n
 | 0,_ => by simp [csA]
 | n+1,h=>by
  have ih:=csA_len S p n (by omega)
  rw [csA_next (by omega),List.length_append]
  split <;> simp <;> omega
theorem csB_len (S:Sp) (p:Pp):∀ n,(csB S p n).length≤2+2 * S.ss.length+2 * n
 | 0=>by have:=csA_len S p S.ss.length (Nat.le_refl _);simp [csB];omega
 | n+1=>by
  have ih:=csB_len S p n
  rw [csB_next,List.length_append]
  simp
  omega
theorem ftCs_two (l:List Ft) (a b c x y z:Int):ftCs (l++[(a,b,c),(x,y,z)])=ftCs l++[.int .i64 a,.int .i64 b,.int .i64 c,.int .i64 x,.int .i64 y,.int .i64 z]:=by simp [ftCs,ftC]
def CsE (m:List Ft) (w:World) (e:Ending) (w':World):Prop:=∃ v,e = .returned v∧w'.ownsRow w.heap.size 74 3 v m.length (ftCs m)∧Below w.heap.size w w'
theorem causes_any (v1 v2 v3 v4:Value) (S:Sp) (hc:(checkP S).2=0) (fp:Nat→Value) (w:World) (hsp:SpRd w v1 v2 v3 v4 fp S) (a t:Int) :
  Calls Tryz.prog 69 #[.agg #[v1,v2,v3,v4],.agg #[.int .i64 a,.int .i64 t]] w (CsE (causeL S (a,t)) w):=by
 obtain ⟨_,_,l3,l4⟩:=sp_lens hc
 obtain ⟨_,_,⟨a3,c3,rfl⟩,⟨a4,c4,rfl⟩⟩:=hsp.forms
 obtain ⟨i0,hi0,hz0,hz1,hz2⟩:=info_parts ftf_info
 have HSP:=hid hsp
 have HC:=hid hc
 have hb0:=(below_two w (.cells #[v1,v2,.slice a3 S.ss.length c3,.slice a4 S.cs.length c4] 27) (.cells #[.int .i64 a,.int .i64 t] 78)).alloc (by simp;omega) (.cells #[.int .i64 1,.int .i64 a,.int .i64 t,.int .i64 2,.int .i64 a,.int .i64 t] 74)
 have k0:=((Blk.new w 27 #[v1,v2,.slice a3 S.ss.length c3,.slice a4 S.cs.length c4]).alloc (.cells #[.int .i64 a,.int .i64 t] 78)).alloc (.cells #[.int .i64 1,.int .i64 a,.int .i64 t,.int .i64 2,.int .i64 a,.int .i64 t] 74)
 have k1:=(Blk.new (w.alloc (.cells #[v1,v2,.slice a3 S.ss.length c3,.slice a4 S.cs.length c4] 27)) 78 #[.int .i64 a,.int .i64 t]).alloc (.cells #[.int .i64 1,.int .i64 a,.int .i64 t,.int .i64 2,.int .i64 a,.int .i64 t] 74)
 have k2:=Blk.new ((w.alloc (.cells #[v1,v2,.slice a3 S.ss.length c3,.slice a4 S.cs.length c4] 27)).alloc (.cells #[.int .i64 a,.int .i64 t] 78)) 74 #[.int .i64 1,.int .i64 a,.int .i64 t,.int .i64 2,.int .i64 a,.int .i64 t]
 rw [World.size_alloc] at k1
 rw [World.size_alloc,World.size_alloc] at k2
 clear hsp hc
 go_enter Tryz.func69,Tryz.ntmps69
 go_wp2
 have HR0:=hid (show (((w.alloc (.cells #[v1,v2,.slice a3 S.ss.length c3,.slice a4 S.cs.length c4] 27)).alloc (.cells #[.int .i64 a,.int .i64 t] 78)).alloc (.cells #[.int .i64 1,.int .i64 a,.int .i64 t,.int .i64 2,.int .i64 a,.int .i64 t] 74)).ownsRow w.heap.size 74 3 (.slice (some ⟨w.heap.size+1+1,0,none⟩) 2 2) (csA S (a,t) 0).length (ftCs (csA S (a,t) 0)) from ⟨rfl,.inr ⟨w.heap.size+1+1,2,_,rfl,by omega,k2,Nat.le_refl _,by unfold maxLen;omega,rfl,rfl⟩⟩)
 have HB0:=hid hb0
 have HS0:=hid k0
 have HP0:=hid k1
 clear hb0 k0 k1 k2
 generalize ((w.alloc (.cells #[v1,v2,.slice a3 S.ss.length c3,.slice a4 S.cs.length c4] 27)).alloc (.cells #[.int .i64 a,.int .i64 t] 78)).alloc (.cells #[.int .i64 1,.int .i64 a,.int .i64 t,.int .i64 2,.int .i64 a,.int .i64 t] 74)=W0 at *
 go_loopw [5,25] (fun u x wr=>∃ n:Nat,n≤S.ss.length∧x = .int .i64 n∧Hid (wr.ownsRow w.heap.size 74 3 u (csA S (a,t) n).length (ftCs (csA S (a,t) n)))∧Hid (Below w.heap.size w wr)∧Hid (Blk wr w.heap.size 27 #[v1,v2,.slice a3 S.ss.length c3,.slice a4 S.cs.length c4])∧Hid (Blk wr (w.heap.size+1) 78 #[.int .i64 a,.int .i64 t])) (fun _ x _=>S.ss.length-(intOf x).toNat)
 case atStart=>exact ⟨0,Nat.zero_le _,rfl,HR0,HB0,HS0,HP0⟩
 clear HR0 HB0 HS0 HP0
 obtain ⟨n,hn,rfl,hR,hB,hS,hP⟩:=hrel
 by_cases hnl:n<S.ss.length
 ·have hn2:(n:Int)<(S.ss.length:Int):=by omega
  obtain ⟨b,o,c',ev,hbl,r0,r1,r2,r3,r4⟩:=(HSP.out.later hB.out).sAt n hnl
  cases ev
  have hML:=csA_len S (a,t) n hn
  have hpl:=((spGood HC.out).s _ (List.getElem_mem hnl)).2.2.2
  have HNX:=hid (csA_next (p:=(a,t)) hnl)
  have HPT:=hid (fun (W':World) (hb:Below w.heap.size w W')=>(HSP.out.later hb).p n hnl)
  have HPA:=hid (fun (y:Pt) (hy:y∈S.ss[n].parts)=>(spGood HC.out).part (List.getElem_mem hnl) hy)
  obtain ⟨pa,pc,epv⟩:=(HSP.out.p n hnl).form
  rw [List.length_map] at epv
  rw [epv] at r4 HPT
  obtain ⟨x,hx⟩:∃ x,S.ss[n]=x:=⟨_,rfl⟩
  rw [hx] at r0 r1 r2 r3 r4 HPT HNX HPA hpl
  obtain ⟨M,hM⟩:∃ M,csA S (a,t) n=M:=⟨_,rfl⟩
  rw [hM] at hR HNX hML
  clear hx hM epv
  have hML2:M.length≤200:=by omega
  go_upto_region 5 with fail
  have hb4:Below wr.heap.size wr (wr.alloc (.cells #[.string x.name,.int .i64 x.div,.int .i64 x.num,.int .i64 x.den,.slice pa x.parts.length pc] 66)):=(Below.refl _ wr).alloc (Nat.le_refl _) _
  have HR2:=hid (row_later hR.out hb4)
  have HB2:=hid (below_step hB.out hb4)
  have HS2:=hid (hS.out.below hb4)
  have HP2:=hid (hP.out.below hb4)
  have y4:(wr.alloc (.cells #[.string x.name,.int .i64 x.div,.int .i64 x.num,.int .i64 x.den,.slice pa x.parts.length pc] 66)).cell? ⟨wr.heap.size,4,none⟩=some (.slice pa x.parts.length pc):=(Blk.new wr 66 #[.string x.name,.int .i64 x.div,.int .i64 x.num,.int .i64 x.den,.slice pa x.parts.length pc]).cell 4
  obtain ⟨X,hXe⟩:∃ X,wr.heap.size=X:=⟨_,rfl⟩
  rw [hXe] at y4 ⊢
  generalize wr.alloc (.cells #[.string x.name,.int .i64 x.div,.int .i64 x.num,.int .i64 x.den,.slice pa x.parts.length pc] 66)=W2 at *
  clear hb4 hXe hR hB hS hP r0 r1 r2 r3 r4
  have HN0:=hid (show ∀ j (hj:j<x.parts.length),j<0→¬ (x.parts[j].rank=a∧x.parts[j].lo+x.parts[j].shift≤t∧t≤x.parts[j].hi+x.parts[j].shift) from fun _ _ h=>absurd h (Nat.not_lt_zero _))
  go_wp2
  clear y4
  go_loopw [5,33] (fun uu y wr=>∃ k:Nat,k≤x.parts.length∧y = .int .i64 k∧Hid (∀ j (hj:j<x.parts.length),j<k→¬ (x.parts[j].rank=a∧x.parts[j].lo+x.parts[j].shift≤t∧t≤x.parts[j].hi+x.parts[j].shift))∧Hid (wr.ownsRow w.heap.size 74 3 uu M.length (ftCs M))∧Hid (Below w.heap.size w wr)∧Hid (Blk wr w.heap.size 27 #[v1,v2,.slice (some ⟨b,o,none⟩) S.ss.length c3,.slice a4 S.cs.length c4])∧Hid (Blk wr (w.heap.size+1) 78 #[.int .i64 a,.int .i64 t])) (fun _ y _=>x.parts.length-(intOf y).toNat)
  case atStart=>exact ⟨0,Nat.zero_le _,rfl,HN0,HR2,HB2,HS2,HP2⟩
  clear HN0 HR2 HB2 HS2 HP2
  obtain ⟨k,hk,rfl,hN,hR,hB,hS,hP⟩:=hrel
  by_cases hkl:k<x.parts.length
  ·have hk2:(k:Int)<(x.parts.length:Int):=by omega
   obtain ⟨bp,op,cp,ev,hbp,q0,q1,q2,q3⟩:=(HPT.out wr hB.out).ptAt k hkl
   cases ev
   obtain ⟨_,_,_,g1,g2,g3,g4,g5,_,_⟩:=HPA.out _ (List.getElem_mem hkl)
   have HNO:=hid (fun (h:¬ (x.parts[k].rank=a∧x.parts[k].lo+x.parts[k].shift≤t∧t≤x.parts[k].hi+x.parts[k].shift))=>show ∀ j (hj:j<x.parts.length),j<k+1→¬ (x.parts[j].rank=a∧x.parts[j].lo+x.parts[j].shift≤t∧t≤x.parts[j].hi+x.parts[j].shift) from fun j hj hjk=>by
    by_cases e:j=k
    ·subst e;exact h
    ·exact hN.out j hj (by omega))
   have HYE:=hid (fun (h:x.parts[k].rank=a∧x.parts[k].lo+x.parts[k].shift≤t∧t≤x.parts[k].hi+x.parts[k].shift)=>show ownB x (a,t)=true from by
    unfold ownB
    exact List.any_eq_true.2 ⟨_,List.getElem_mem hkl,decide_eq_true h⟩)
   obtain ⟨y,hy⟩:∃ y,x.parts[k]=y:=⟨_,rfl⟩
   rw [hy] at q0 q1 q2 q3 g1 g2 g3 g4 g5 HNO HYE
   obtain ⟨rk,sh,lo,hi'⟩:=y
   simp only at q0 q1 q2 q3 g1 g2 g3 g4 g5
   have e1:IntKind.i64.wrap (lo+sh)=lo+sh:=IntWalk.i64_in _ (by omega)
   have e2:IntKind.i64.wrap (hi'+sh)=hi'+sh:=IntWalk.i64_in _ (by omega)
   clear hy hN
   go_upto_region 8 with fail
   have hb4:Below wr.heap.size wr (wr.alloc (.cells #[.int .i64 rk,.int .i64 sh,.int .i64 lo,.int .i64 hi'] 105)):=(Below.refl _ wr).alloc (Nat.le_refl _) _
   have HR4:=hid (row_later hR.out hb4)
   have HB4:=hid (below_step hB.out hb4)
   have HS4:=hid (hS.out.below hb4)
   have HP4:=hid (hP.out.below hb4)
   obtain ⟨y0,y1,y2,y3⟩:=(Blk.new wr 105 #[.int .i64 rk,.int .i64 sh,.int .i64 lo,.int .i64 hi']).four
   have p0:(wr.alloc (.cells #[.int .i64 rk,.int .i64 sh,.int .i64 lo,.int .i64 hi'] 105)).cell? ⟨w.heap.size+1,0,none⟩=some (.int .i64 a):=HP4.out.cell 0
   have p1:(wr.alloc (.cells #[.int .i64 rk,.int .i64 sh,.int .i64 lo,.int .i64 hi'] 105)).cell? ⟨w.heap.size+1,1,none⟩=some (.int .i64 t):=HP4.out.cell 1
   have hsz:=HB4.out.size
   obtain ⟨Y,hYe⟩:∃ Y,wr.heap.size=Y:=⟨_,rfl⟩
   rw [hYe] at y0 y1 y2 y3 ⊢
   generalize wr.alloc (.cells #[.int .i64 rk,.int .i64 sh,.int .i64 lo,.int .i64 hi'] 105)=W4 at *
   clear hb4 hYe hR hB hS hP q0 q1 q2 q3
   by_cases c1:rk=a
   ·have d1:(rk==a)=true:=by rw [c1];exact beq_self_eq_true _
    by_cases c2:lo+sh≤t
    ·have d2:decide (lo+sh≤t)=true:=decide_eq_true c2
     by_cases c3':t≤hi'+sh
     ·have d3:decide (t≤hi'+sh)=true:=decide_eq_true c3'
      have HY2:=hid (show csA S (a,t) (n+1)=M++[(3,(n:Int),0),(4,(n:Int),0)] from by rw [HNX.out,if_pos (HYE.out ⟨c1,c2,c3'⟩)])
      clear HNO HYE c1
      go_wp2_with (at_builtin;(refine wpList_append_lies _ rfl _ _ 28 rfl w.heap.size 74 i0 _ 3 24 Tryz.underlying28 hi0 hz0 hz1 hz2 rfl (by omega) _ _ _ rfl (HR4.out.alloc _) ⟨W4.heap.size,0,none⟩ 2 2 [.int .i64 3,.int .i64 (n:Int),.int .i64 0,.int .i64 4,.int .i64 (n:Int),.int .i64 0] rfl rfl (World.news_of_block (cs:=#[.int .i64 3,.int .i64 (n:Int),.int .i64 0,.int .i64 4,.int .i64 (n:Int),.int .i64 0]) (t:=74) (fr:=(0,0)) (heap_alloc_new W4 _)) (by simp [Value.oneCell']) (by omega) (by unfold maxLen;omega) (by omega) (by simp;omega) (W4.heap.size+1) (by simp) ?_;intro gg cap w7 hown3 hgrow hat3 hlt3))
      have HB7:=hid (push_low HB4.out HR4.out hgrow)
      have HS7:=hid (HS4.out.rowed HR4.out (by decide) hgrow)
      have HP7:=hid (HP4.out.rowed HR4.out (by decide) hgrow)
      have HR7:=hid (show w7.ownsRow w.heap.size 74 3 (.slice (some ⟨gg,0,none⟩) (M.length+2) cap) (csA S (a,t) (n+1)).length (ftCs (csA S (a,t) (n+1))) from by
       rw [HY2.out,ftCs_two,List.length_append]
       exact hown3)
      clear hown3 hgrow hat3 hlt3
      go_wp2
      go_roundw
      case rel=>exact ⟨n+1,by omega,by go_num,HR7,HB7,HS7,HP7⟩
      case measure=>simp [intOf];omega
     ·have d3:decide (t≤hi'+sh)=false:=decide_eq_false c3'
      have HNO2:=hid (HNO.out (fun h=>c3' h.2.2))
      clear HNO HYE
      go_wp2
      go_roundw
      case rel=>exact ⟨k+1,by omega,by go_num,HNO2,HR4,HB4,HS4,HP4⟩
      case measure=>simp [intOf];omega
    ·have d2:decide (lo+sh≤t)=false:=decide_eq_false c2
     have HNO2:=hid (HNO.out (fun h=>c2 h.2.1))
     clear HNO HYE
     go_wp2
     go_roundw
     case rel=>exact ⟨k+1,by omega,by go_num,HNO2,HR4,HB4,HS4,HP4⟩
     case measure=>simp [intOf];omega
   ·have d1:(rk==a)=false:=by rw [beq_eq_false_iff_ne];exact c1
    have HNO2:=hid (HNO.out (fun h=>c1 h.1))
    clear HNO HYE
    go_wp2
    go_roundw
    case rel=>exact ⟨k+1,by omega,by go_num,HNO2,HR4,HB4,HS4,HP4⟩
    case measure=>simp [intOf];omega
  ·have hk2:¬ (k:Int)<(x.parts.length:Int):=by omega
   have HN2:=hid (show csA S (a,t) (n+1)=M from by
    rw [HNX.out,if_neg,List.append_nil]
    intro h
    unfold ownB at h
    obtain ⟨y,hy,hd⟩:=List.any_eq_true.1 h
    obtain ⟨j,hj,rfl⟩:=List.getElem_of_mem hy
    exact hN.out j hj (by omega) (of_decide_eq_true hd))
   go_wp2
   go_roundw
   case rel=>exact ⟨n+1,by omega,by go_num,by rw [HN2.out];exact hR,hB,hS,hP⟩
   case measure=>simp [intOf];omega
 ·have hn2:¬ (n:Int)<(S.ss.length:Int):=by omega
  have hne:n=S.ss.length:=by omega
  rw [hne] at hR
  have HR1:=hid (show wr.ownsRow w.heap.size 74 3 u5 (csB S (a,t) 0).length (ftCs (csB S (a,t) 0)) from by rw [show csB S (a,t) 0=csA S (a,t) S.ss.length from by simp [csB]];exact hR.out)
  have s3:wr.cell? ⟨w.heap.size,3,none⟩=some (.slice a4 S.cs.length c4):=hS.out.cell 3
  have HB1:=hid hB.out
  clear hne hR hS hP hB
  go_wp2
  clear s3
  go_loopw [5,74] (fun u x wr=>∃ m:Nat,m≤S.cs.length∧x = .int .i64 m∧Hid (wr.ownsRow w.heap.size 74 3 u (csB S (a,t) m).length (ftCs (csB S (a,t) m)))∧Hid (Below w.heap.size w wr)) (fun _ x _=>S.cs.length-(intOf x).toNat)
  case atStart=>exact ⟨0,Nat.zero_le _,rfl,HR1,HB1⟩
  clear HR1 HB1
  obtain ⟨m,hm,rfl,hR,hB⟩:=hrel
  by_cases hml:m<S.cs.length
  ·have hm2:(m:Int)<(S.cs.length:Int):=by omega
   have hML:=csB_len S (a,t) m
   have HNX:=hid (csB_next S (a,t) m)
   obtain ⟨M,hM⟩:∃ M,csB S (a,t) m=M:=⟨_,rfl⟩
   rw [hM] at hR HNX hML
   clear hM
   have hML2:M.length≤400:=by omega
   have hsz:=hB.out.size
   go_wp2_with (at_builtin;refine wpList_append_lies _ rfl _ _ 28 rfl w.heap.size 74 i0 _ 3 24 Tryz.underlying28 hi0 hz0 hz1 hz2 rfl (by omega) _ _ _ rfl (hR.out.alloc _) ⟨wr.heap.size,0,none⟩ 2 2 [.int .i64 5,.int .i64 (m:Int),.int .i64 0,.int .i64 6,.int .i64 (m:Int),.int .i64 0] rfl rfl (World.news_of_block (cs:=#[.int .i64 5,.int .i64 (m:Int),.int .i64 0,.int .i64 6,.int .i64 (m:Int),.int .i64 0]) (t:=74) (fr:=(0,0)) (heap_alloc_new wr _)) (by simp [Value.oneCell']) (by omega) (by unfold maxLen;omega) (by omega) (by simp;omega) (wr.heap.size+1) (by simp) ?_;intro gg cap w7 hown3 hgrow hat3 hlt3)
   have HB7:=hid (push_low hB.out hR.out hgrow)
   have HR7:=hid (show w7.ownsRow w.heap.size 74 3 (.slice (some ⟨gg,0,none⟩) (M.length+2) cap) (csB S (a,t) (m+1)).length (ftCs (csB S (a,t) (m+1))) from by
    rw [HNX.out,ftCs_two,List.length_append]
    exact hown3)
   clear hown3 hgrow hat3 hlt3
   go_wp2
   go_roundw
   case rel=>exact ⟨m+1,by omega,by go_num,HR7,HB7⟩
   case measure=>simp [intOf];omega
  ·have hm2:¬ (m:Int)<(S.cs.length:Int):=by omega
   have hme:m=S.cs.length:=by omega
   rw [hme,csB_all] at hR
   clear hme
   go_wp2
   go_ret
   exact ⟨_,rfl,hR.out,hB.out⟩
end Go.Proofs.YteflhbfgpknabaaGreatDoor
namespace Go.Proofs.YteflhbfgpknabaaGreatDoor
open Go.Lib (hid)
open Go.RowKit Go.Shelf
theorem ftCs_len (l:List Ft):(ftCs l).length=l.length * 3:=by
 unfold ftCs
 induction l with
 | nil=>rfl
 | cons a l ih=>rw [List.map_cons,List.flatten_cons,List.length_append,ih,List.length_cons];show 3+_=_;omega
theorem ftCs_one (l:List Ft):∀ u∈ftCs l,u.oneCell'=true:=by
 intro u hu
 obtain ⟨c,hc,hu⟩:=List.mem_flatten.1 hu
 obtain ⟨x,_,rfl⟩:=List.mem_map.1 hc
 simp only [ftC,List.mem_cons,List.not_mem_nil,or_false] at hu
 rcases hu with rfl | rfl | rfl <;> rfl
theorem ftCs_snoc (l:List Ft) (x:Ft):ftCs (l++[x])=ftCs l++[.int .i64 x.1,.int .i64 x.2.1,.int .i64 x.2.2]:=by simp [ftCs,ftC]
theorem ARd.of_fts {W:World} {base:Nat} {t:TypeId} {v:Value} {l:List Ft} (h:W.ownsRow base t 3 v l.length (ftCs l)):ARd W v 3 (l.map ftC) :=
 ARd.of_row (by intro r hr;obtain ⟨p,_,rfl⟩:=List.mem_map.1 hr;rfl) (by rw [List.length_map];exact h)
theorem cloneF_any (l:List Ft) (hn:l.length≤1000000) (base:Nat) (v:Value) (w:World) (h:w.ownsRow base 74 3 v l.length (ftCs l)) :
  Calls Tryz.prog 70 #[v] w fun e w'=>∃ v',e = .returned v'∧w'.ownsRow w.heap.size 74 3 v' l.length (ftCs l)∧Below w.heap.size w w':=by
 rcases h.2 with ⟨hv,h0⟩ | ⟨g,cap,cur,hv,hbg,hg,hcap,hmx,hsz,hxs⟩
 ·subst hv
  refine (AnyE.slices_Clone_nil Tryz.cloneFaults 0 0 w).mono ?_
  rintro e w' ⟨rfl,rfl⟩
  have hl0:l=[]:=List.length_eq_zero_iff.1 h0
  subst hl0
  exact ⟨_,rfl,World.ownsRow_nil _ _ _ _,Below.refl _ _⟩
 ·subst hv
  obtain ⟨i0,hi0,hz0,hz1,hz2⟩:=info_parts ftf_info
  have hc:∀ j u,(ftCs l)[j]?=some u→w.cell? ⟨g,0+j,none⟩=some u:=fun j u hj=>by
   have hlt:=(List.getElem?_eq_some_iff.1 hj).1
   rw [ftCs_len] at hlt
   rw [Nat.zero_add,Blk.cell hg j]
   rw [← hxs,List.getElem?_take,if_pos (by omega),Array.getElem?_toList] at hj
   exact hj
  refine (AnyE.slices_Clone Tryz.cloneFaults i0 (.agg #[.int .i64 0,.int .i64 0,.int .i64 0]) 3 24 hi0 hz0 hz1 hz2 rfl (by omega) (fun w=>by kernel_rfl) g 0 l.length cap (ftCs l) w (ftCs_len l) (by unfold maxLen;omega) (by omega) hc (ftCs_one l)).mono ?_
  rintro e w' ⟨v',rfl,h1,_,h2⟩
  exact ⟨v',rfl,h1,h2⟩
def lexC:List Ft→List Ft→Int
 | [],[]=>0
 | [],_ :: _ => -1
 | _ :: _,[]=>1
 | a :: l,b :: m=>if cfT a.1 a.2.1 a.2.2 b.1 b.2.1 b.2.2≠0 then cfT a.1 a.2.1 a.2.2 b.1 b.2.1 b.2.2 else lexC l m
theorem lexC_lt:∀ {a b:List Ft},a.length=b.length→(lexC a b<0↔lexLt a b)
 | [],[],_=>by simp [lexC,lexLt]
 | [],_ :: _,h=>by simp at h
 | _ :: _,[],h=>by simp at h
 | a :: l,b :: m,h=>by
  obtain ⟨a1,a2,a3⟩:=a
  obtain ⟨b1,b2,b3⟩:=b
  have ih:=lexC_lt (a:=l) (b:=m) (by simpa using h)
  have hz:=cfT_zero a1 a2 a3 b1 b2 b3
  have hl:=cfT_lt a1 a2 a3 b1 b2 b3
  unfold lexC lexLt
  simp only
  by_cases h0:cfT a1 a2 a3 b1 b2 b3=0
  ·rw [if_neg (by omega),ih]
   obtain ⟨rfl,rfl,rfl⟩:=hz.1 h0
   constructor
   ·exact fun q => .inr ⟨rfl,q⟩
   ·rintro (q | ⟨_,q⟩)
    ·exact absurd q (fLt_irr _)
    ·exact q
  ·rw [if_pos h0,hl]
   constructor
   ·exact fun q => .inl q
   ·rintro (q | ⟨q,_⟩)
    ·exact q
    ·exact absurd (hz.2 (by simpa using q)) h0
theorem lex_trans:∀ {a b c:List Ft},lexLt a b→lexLt b c→lexLt a c
 | [],_,_,h,_=>by cases h
 | _ :: _,[],_,h,_=>by cases h
 | _ :: _,_ :: _,[],_,h=>by cases h
 | a :: l,b :: m,c :: n,h,k=>by
  rcases h with h | ⟨rfl,h⟩ <;> rcases k with k | ⟨rfl,k⟩
  ·exact .inl (fLt_trans h k)
  ·exact .inl h
  ·exact .inl k
  ·exact .inr ⟨rfl,lex_trans h k⟩
theorem lexC_drop {a b:List Ft} {i:Nat} (h1:i<a.length) (h2:i<b.length):lexC (a.drop i) (b.drop i)=if cfT a[i].1 a[i].2.1 a[i].2.2 b[i].1 b[i].2.1 b[i].2.2≠0 then cfT a[i].1 a[i].2.1 a[i].2.2 b[i].1 b[i].2.1 b[i].2.2 else lexC (a.drop (i+1)) (b.drop (i+1)):=by
 rw [List.drop_eq_getElem_cons h1,List.drop_eq_getElem_cons h2,lexC]
theorem compF_any (a b:List Ft) (va vb:Value) (w:World) (hla:a.length≤1000000) (_hlb:b.length≤1000000) (ha:ARd w va 3 (a.map ftC)) (hb:ARd w vb 3 (b.map ftC)) :
  Calls Tryz.prog 74 #[va,vb,.func (.func 48) #[] #[]] w fun e w'=>e = .returned (.int .i64 (lexC a b))∧Grw w w':=by
 obtain ⟨aa,ca,ev⟩:=ha.ftForm
 subst ev
 obtain ⟨ab,cb,ev⟩:=hb.ftForm
 subst ev
 have HA:=hid ha
 have HBB:=hid hb
 have HG0:=hid (Grw.refl w)
 have HE0:=hid (show lexC (a.drop 0) (b.drop 0)=lexC a b from rfl)
 clear ha hb
 go_enter Tryz.func74,Tryz.ntmps74
 go_wp2
 go_loopw [13] (fun x wr=>∃ i:Nat,i≤a.length∧i≤b.length∧x = .int .i64 i∧Hid (lexC (a.drop i) (b.drop i)=lexC a b)∧Hid (Grw w wr)) (fun x _=>a.length-(intOf x).toNat)
 case atStart=>exact ⟨0,Nat.zero_le _,Nat.zero_le _,rfl,HE0,HG0⟩
 clear HE0 HG0
 obtain ⟨i,hi,hib,rfl,hE,hG⟩:=hrel
 by_cases hil:i<a.length
 ·have hi2:(i:Int)<(a.length:Int):=by omega
  obtain ⟨b1,o1,c1,ev,hbl1,p0,p1,p2⟩:=(HA.out.later hG.out.below).ftAt i hil
  cases ev
  by_cases hjl:i<b.length
  ·have hj2:¬ ((b.length:Int)≤(i:Int)):=by omega
   have hj3:(i:Int)<(b.length:Int):=by omega
   obtain ⟨b2,o2,c2,ev,hbl2,q0,q1,q2⟩:=(HBB.out.later hG.out.below).ftAt i hjl
   cases ev
   have HLD:=hid (hE.out.symm.trans (lexC_drop hil hjl))
   obtain ⟨x,hx⟩:∃ x,a[i]=x:=⟨_,rfl⟩
   obtain ⟨y,hy⟩:∃ y,b[i]=y:=⟨_,rfl⟩
   rw [hx] at p0 p1 p2 HLD
   rw [hy] at q0 q1 q2 HLD
   obtain ⟨x1,x2,x3⟩:=x
   obtain ⟨y1,y2,y3⟩:=y
   simp only at p0 p1 p2 q0 q1 q2
   have q0:=(cell_alloc q0 (.cells #[.int .i64 x1,.int .i64 x2,.int .i64 x3] 74))
   have q1:=(cell_alloc q1 (.cells #[.int .i64 x1,.int .i64 x2,.int .i64 x3] 74))
   have q2:=(cell_alloc q2 (.cells #[.int .i64 x1,.int .i64 x2,.int .i64 x3] 74))
   have HG2:=hid ((hG.out.alloc (.cells #[.int .i64 x1,.int .i64 x2,.int .i64 x3] 74)).alloc (.cells #[.int .i64 y1,.int .i64 y2,.int .i64 y3] 74))
   clear hx hy hE hbl1 hbl2
   go_wp2_with fail
   refine (byFault_any x1 x2 x3 y1 y2 y3 _).mono ?_
   rintro e W3 ⟨rfl,hg3⟩
   have HG3:=hid (HG2.out.trans hg3)
   clear hg3 HG2 hG p0 p1 p2 q0 q1 q2
   obtain ⟨n,hn⟩:∃ n,cfT x1 x2 x3 y1 y2 y3=n:=⟨_,rfl⟩
   rw [hn]
   by_cases hz:n=0
   ·have z1:(n==0)=true:=by simpa using hz
    have z2:(n != 0)=false:=by simpa using hz
    have HE2:=hid (show lexC (a.drop (i+1)) (b.drop (i+1))=lexC a b from by
     have:=HLD.out
     simp only [hn] at this
     rw [if_neg (by omega)] at this
     exact this.symm)
    clear hn hz HLD
    go_wp2
    go_roundw
    case rel=>exact ⟨i+1,by omega,by omega,by go_num,HE2,HG3⟩
    case measure=>simp [intOf];omega
   ·have z1:(n==0)=false:=by simpa using hz
    have z2:(n != 0)=true:=by simpa using hz
    have HE2:=hid (show lexC a b=n from by
     have:=HLD.out
     simp only [hn] at this
     rw [if_pos hz] at this
     exact this)
    clear hn hz HLD
    go_wp2
    go_ret
    exact ⟨by rw [HE2.out];rfl,HG3.out⟩
  ·have hj2:(b.length:Int)≤(i:Int):=by omega
   have HE2:=hid (show lexC a b=1 from by
    rw [← hE.out,List.drop_eq_getElem_cons hil,List.drop_eq_nil_of_le (show b.length≤i by omega)]
    rfl)
   have HG2:=hid (hG.out.alloc (.cells #[.int .i64 a[i].1,.int .i64 a[i].2.1,.int .i64 a[i].2.2] 74))
   clear hE
   go_wp2
   go_ret
   exact ⟨by rw [HE2.out];rfl,HG2.out⟩
 ·have hi2:¬ (i:Int)<(a.length:Int):=by omega
  by_cases hjl:a.length<b.length
  ·have hj2:(a.length:Int)<(b.length:Int):=by omega
   have HE2:=hid (show lexC a b = -1 from by
    rw [← hE.out,List.drop_eq_getElem_cons (show i<b.length by omega),List.drop_eq_nil_of_le (show a.length≤i by omega)]
    rfl)
   clear hE
   go_wp2
   go_ret
   exact ⟨by rw [HE2.out];rfl,hG.out⟩
  ·have hj2:¬ (a.length:Int)<(b.length:Int):=by omega
   have HE2:=hid (show lexC a b=0 from by
    rw [← hE.out,List.drop_eq_nil_of_le (show b.length≤i by omega),List.drop_eq_nil_of_le (show a.length≤i by omega)]
    rfl)
   clear hE
   go_wp2
   go_ret
   exact ⟨by rw [HE2.out];rfl,hG.out⟩
theorem sets2_any (a b:List Ft) (va vb:Value) (w:World) (hla:a.length≤1000000) (hlb:b.length≤1000000) (ha:ARd w va 3 (a.map ftC)) (hb:ARd w vb 3 (b.map ftC)) :
  Calls Tryz.prog 73 #[va,vb] w fun e w'=>e = .returned (.int .i64 (lexC a b))∧Grw w w':=by
 obtain ⟨aa,ca,ev⟩:=ha.ftForm
 subst ev
 obtain ⟨ab,cb,ev⟩:=hb.ftForm
 subst ev
 have HC:=hid (compF_any a b _ _ w hla hlb ha hb)
 clear ha hb
 go_enter Tryz.func73,Tryz.ntmps73
 go_wp2_with fail
 refine HC.out.mono ?_
 rintro e W3 ⟨rfl,hg⟩
 have HG:=hid hg
 clear hg HC
 go_wp2
 go_ret
 exact ⟨rfl,HG.out⟩
end Go.Proofs.YteflhbfgpknabaaGreatDoor
namespace Go.Proofs.YteflhbfgpknabaaGreatDoor
open Go.Lib (hid)
open Go.RowKit
structure KpF (X:Nat) (W W':World):Prop where
 size:W.heap.size≤W'.heap.size
 row:∀ v n xs,W.ownsRow X 74 3 v n xs→W'.ownsRow X 74 3 v n xs
theorem row_apart {W:World} {b b2:Nat} {t t2:TypeId} {k k2 n n2:Nat} {v v2:Value} {xs xs2:List Value} (h:W.ownsRow b t k v n xs) (h2:W.ownsRow b2 t2 k2 v2 n2 xs2) (hne:t≠t2):v.ownBlock=none∨v.ownBlock≠v2.ownBlock:=by
 rcases h.2 with ⟨rfl,_⟩ | ⟨g,cap,cur,rfl,_,hg,_⟩
 ·exact .inl rfl
 ·right
  rcases h2.2 with ⟨rfl,_⟩ | ⟨g2,cap2,cur2,rfl,_,hg2,_⟩
  ·simp [Value.ownBlock]
  ·intro q
   have q2:g=g2:=by simpa [Value.ownBlock] using q
   subst q2
   rw [hg] at hg2
   cases hg2
   exact hne rfl
theorem KpF.refl (X:Nat) (W:World):KpF X W W:=⟨Nat.le_refl _,fun _ _ _ h=>h⟩
theorem KpF.trans {X:Nat} {A B C:World} (h:KpF X A B) (k:KpF X B C):KpF X A C:=⟨Nat.le_trans h.size k.size,fun v n xs r=>k.row v n xs (h.row v n xs r)⟩
theorem KpF.below {X:Nat} {W W':World} (hb:Below W.heap.size W W'):KpF X W W':=⟨hb.size,fun _ _ _ h=>row_later h hb⟩
def dsFn (N:Nat):Value:=.func (.func 68) #[] #[.pointer (some ⟨N+4,0,none⟩),.pointer (some ⟨N+2,0,none⟩),.pointer (some ⟨N,0,none⟩),.pointer (some ⟨N+1,0,none⟩),.pointer (some ⟨N+5,0,none⟩),.pointer (some ⟨N+6,0,none⟩)]
structure DsW (w:World) (v1 v2 v3 v4 tv:Value) (many:Nat) (V O:List (List Ft)) (g:Nat→Value) (vo:Value) (W:World):Prop where
 b:Below w.heap.size w W
 sp:Blk W w.heap.size 27 #[v1,v2,v3,v4]
 tl:Blk W (w.heap.size+1) 33 #[tv]
 my:Blk W (w.heap.size+2) 3 #[.int .i64 many]
 sn:Blk W (w.heap.size+4) 110 #[.map (some (w.heap.size+3))]
 ou:Blk W (w.heap.size+5) 43 #[vo]
 ad:Blk W (w.heap.size+6) 111 #[dsFn w.heap.size]
 mp:Mp ekT W (w.heap.size+3) (setU (V.map triOf))
 row:W.ownsRow (w.heap.size+7) 28 1 vo O.length ((List.range O.length).map g)
 st:∀ i (hi:i<O.length),W.ownsRow (w.heap.size+7) 74 3 (g i) O[i].length (ftCs O[i])
section
variable {w W W' : World} {v1 v2 v3 v4 tv : Value} {many : Nat} {V O : List (List Ft)} {g : Nat → Value} {vo : Value}
theorem DsW.later (h:DsW w v1 v2 v3 v4 tv many V O g vo W) (hb:Below W.heap.size W W'):DsW w v1 v2 v3 v4 tv many V O g vo W' :=
 ⟨below_step h.b hb,h.sp.below hb,h.tl.below hb,h.my.below hb,h.sn.below hb,h.ou.below hb,h.ad.below hb,h.mp.below hb,row_later h.row hb,fun i hi=>row_later (h.st i hi) hb⟩
theorem KpF.far {X:Nat} {row:Option Nat} (hg:W.grownBy W' row) (hr:∀ r,row=some r→r<X):KpF X W W' :=
 ⟨hg.size,fun v n xs h=>h.kept hg (by
  cases hv:v.ownBlock with
  | none=>exact .inl rfl
  | some k=>exact .inr fun e=>by have:=row_ge h hv;have:=hr k e.symm;omega)⟩
theorem KpF.apart {X X' k n:Nat} {t:TypeId} {v:Value} {xs:List Value} (h:W.ownsRow X' t k v n xs) (ht:t≠74) (hg:W.grownBy W' v.ownBlock):KpF X W W' :=
 ⟨hg.size,fun _ _ _ r=>r.kept hg (row_apart r h (fun e=>ht e.symm))⟩
theorem DsW.seen (h:DsW w v1 v2 v3 v4 tv many V O g vo W) {f:List Ft} (hm:Mp ekT W' (w.heap.size+3) (setU ((V++[f]).map triOf))) (hg:W.grownBy W' (some (w.heap.size+3))):DsW w v1 v2 v3 v4 tv many (V++[f]) O g vo W'∧KpF (w.heap.size+7) W W':=by
 have hne:∀ {B:Nat} {t:TypeId} {cs:Array Value},Blk W B t cs→some (w.heap.size+3)≠some B:=fun hb e=>mp_blk_ne h.mp hb (Option.some.inj e)
 have hk:KpF (w.heap.size+7) W W':=KpF.far hg (fun r e=>by cases e;omega)
 exact ⟨⟨h.b.grown hg h.b.size (fun k e=>by cases e;omega),h.sp.grown hg (hne h.sp),h.tl.grown hg (hne h.tl),h.my.grown hg (hne h.my),h.sn.grown hg (hne h.sn),h.ou.grown hg (hne h.ou),h.ad.grown hg (hne h.ad),hm,owns_kept h.row hg (mp_not h.mp),fun i hi=>hk.row _ _ _ (h.st i hi)⟩,hk⟩
end
end Go.Proofs.YteflhbfgpknabaaGreatDoor
namespace Go.Proofs
open Go.Shelf
def Tryz.sortFts_ren:Go.Shelf.Ren:=⟨fun | 6=>71 | 15=>109 | 14=>108 | 28=>139 | 29=>140 | 20=>131 | 21=>132 | 22=>133 | 23=>134 | 24=>135 | 25=>136 | 26=>137 | 27=>138 | 46=>164 | 47=>165 | 48=>166 | 49=>167 | 50=>168 | 57=>189 | n=>n,fun | 22=>28 | 24=>74 | 25=>94 | 3=>3 | 39=>164 | 0=>0 | 53=>191 | 55=>193 | 4=>4 | 46=>185 | 45=>184 | 50=>124 | 5=>5 | 9=>9 | 66=>221 | 70=>225 | 76=>243 | 77=>244 | n=>n,fun | n=>n⟩
theorem Tryz.sortFts:Go.Proofs.SlLaysF0.n6 Tryz.prog Tryz.sortFts_ren:={
 mixed:=by kernel_rfl
 f6:=⟨Tryz.f71.name,by decide,Tryz.func71.trans (congrArg some (by kernel_rfl))⟩
 f14:=⟨Tryz.f108.name,by decide,Tryz.func108.trans (congrArg some (by kernel_rfl))⟩
 f15:=Tryz.func109.trans (congrArg some (by kernel_rfl))
 f20:=⟨Tryz.f131.name,by decide,Tryz.func131.trans (congrArg some (by kernel_rfl))⟩
 f21:=⟨Tryz.f132.name,by decide,Tryz.func132.trans (congrArg some (by kernel_rfl))⟩
 f22:=⟨Tryz.f133.name,by decide,Tryz.func133.trans (congrArg some (by kernel_rfl))⟩
 f23:=⟨Tryz.f134.name,by decide,Tryz.func134.trans (congrArg some (by kernel_rfl))⟩
 f24:=⟨Tryz.f135.name,by decide,Tryz.func135.trans (congrArg some (by kernel_rfl))⟩
 f25:=⟨Tryz.f136.name,by decide,Tryz.func136.trans (congrArg some (by kernel_rfl))⟩
 f26:=⟨Tryz.f137.name,by decide,Tryz.func137.trans (congrArg some (by kernel_rfl))⟩
 f27:=⟨Tryz.f138.name,by decide,Tryz.func138.trans (congrArg some (by kernel_rfl))⟩
 f28:=Tryz.func139.trans (congrArg some (by kernel_rfl))
 f29:=Tryz.func140.trans (congrArg some (by kernel_rfl))
 f46:=⟨Tryz.f164.name,by decide,Tryz.func164.trans (congrArg some (by kernel_rfl))⟩
 f47:=Tryz.func165.trans (congrArg some (by kernel_rfl))
 f48:=Tryz.func166.trans (congrArg some (by kernel_rfl))
 f49:=⟨Tryz.f167.name,by decide,Tryz.func167.trans (congrArg some (by kernel_rfl))⟩
 f50:=⟨Tryz.f168.name,by decide,Tryz.func168.trans (congrArg some (by kernel_rfl))⟩
 f57:=⟨Tryz.f189.name,by decide,Tryz.func189.trans (congrArg some (by kernel_rfl))⟩
 t0:=Tryz.underlying0
 a0:=Tryz.isAgg0
 z0:=Tryz.sizeOf0
 v0:=Tryz.zeroValue0
 t3:=Tryz.underlying3
 a3:=Tryz.isAgg3
 z3:=Tryz.sizeOf3
 v3:=Tryz.zeroValue3
 t4:=Tryz.underlying4
 a4:=Tryz.isAgg4
 z4:=Tryz.sizeOf4
 v4:=Tryz.zeroValue4
 t5:=Tryz.underlying5
 a5:=Tryz.isAgg5
 z5:=Tryz.sizeOf5
 v5:=Tryz.zeroValue5
 t9:=Tryz.underlying9
 a9:=Tryz.isAgg9
 z9:=Tryz.sizeOf9
 v9:=Tryz.zeroValue9
 t22:=Tryz.underlying28
 a22:=Tryz.isAgg28
 z22:=Tryz.sizeOf28
 v22:=Tryz.zeroValue28
 t25:=Tryz.underlying94
 a25:=Tryz.isAgg94
 z25:=Tryz.sizeOf94
 v25:=Tryz.zeroValue94
 t39:=Tryz.underlying164
 a39:=Tryz.isAgg164
 z39:=Tryz.sizeOf164
 v39:=Tryz.zeroValue164
 t45:=Tryz.underlying184
 a45:=Tryz.isAgg184
 z45:=Tryz.sizeOf184
 v45:=Tryz.zeroValue184
 t46:=Tryz.underlying185
 a46:=Tryz.isAgg185
 z46:=Tryz.sizeOf185
 v46:=Tryz.zeroValue185
 t50:=Tryz.underlying124
 a50:=Tryz.isAgg124
 z50:=Tryz.sizeOf124
 v50:=Tryz.zeroValue124
 t53:=Tryz.underlying191
 a53:=Tryz.isAgg191
 z53:=Tryz.sizeOf191
 v53:=Tryz.zeroValue191
 t55:=Tryz.underlying193
 a55:=Tryz.isAgg193
 z55:=Tryz.sizeOf193
 v55:=Tryz.zeroValue193
 t66:=Tryz.underlying221
 a66:=Tryz.isAgg221
 z66:=Tryz.sizeOf221
 v66:=Tryz.zeroValue221
 t70:=Tryz.underlying225
 a70:=Tryz.isAgg225
 z70:=Tryz.sizeOf225
 v70:=Tryz.zeroValue225
 t76:=Tryz.underlying243
 a76:=Tryz.isAgg243
 z76:=Tryz.sizeOf243
 v76:=Tryz.zeroValue243
 t77:=Tryz.underlying244
 a77:=Tryz.isAgg244
 z77:=Tryz.sizeOf244
 v77:=Tryz.zeroValue244 }
def Tryz.sortSets_ren:Go.Shelf.Ren:=⟨fun | 6=>72 | 15=>109 | 14=>110 | 28=>139 | 29=>140 | 20=>141 | 21=>142 | 22=>143 | 23=>144 | 24=>145 | 25=>146 | 26=>147 | 27=>148 | 46=>169 | 47=>165 | 48=>166 | 49=>170 | 50=>171 | 57=>190 | n=>n,fun | 22=>43 | 24=>28 | 25=>121 | 3=>3 | 39=>164 | 0=>0 | 53=>191 | 55=>193 | 4=>4 | 46=>185 | 45=>184 | 50=>124 | 5=>5 | 9=>9 | 66=>221 | 70=>225 | 76=>243 | 77=>244 | n=>n,fun | n=>n⟩
theorem Tryz.sortSets:Go.Proofs.SlLaysF0.n6 Tryz.prog Tryz.sortSets_ren:={
 mixed:=by kernel_rfl
 f6:=⟨Tryz.f72.name,by decide,Tryz.func72.trans (congrArg some (by kernel_rfl))⟩
 f14:=⟨Tryz.f110.name,by decide,Tryz.func110.trans (congrArg some (by kernel_rfl))⟩
 f15:=Tryz.func109.trans (congrArg some (by kernel_rfl))
 f20:=⟨Tryz.f141.name,by decide,Tryz.func141.trans (congrArg some (by kernel_rfl))⟩
 f21:=⟨Tryz.f142.name,by decide,Tryz.func142.trans (congrArg some (by kernel_rfl))⟩
 f22:=⟨Tryz.f143.name,by decide,Tryz.func143.trans (congrArg some (by kernel_rfl))⟩
 f23:=⟨Tryz.f144.name,by decide,Tryz.func144.trans (congrArg some (by kernel_rfl))⟩
 f24:=⟨Tryz.f145.name,by decide,Tryz.func145.trans (congrArg some (by kernel_rfl))⟩
 f25:=⟨Tryz.f146.name,by decide,Tryz.func146.trans (congrArg some (by kernel_rfl))⟩
 f26:=⟨Tryz.f147.name,by decide,Tryz.func147.trans (congrArg some (by kernel_rfl))⟩
 f27:=⟨Tryz.f148.name,by decide,Tryz.func148.trans (congrArg some (by kernel_rfl))⟩
 f28:=Tryz.func139.trans (congrArg some (by kernel_rfl))
 f29:=Tryz.func140.trans (congrArg some (by kernel_rfl))
 f46:=⟨Tryz.f169.name,by decide,Tryz.func169.trans (congrArg some (by kernel_rfl))⟩
 f47:=Tryz.func165.trans (congrArg some (by kernel_rfl))
 f48:=Tryz.func166.trans (congrArg some (by kernel_rfl))
 f49:=⟨Tryz.f170.name,by decide,Tryz.func170.trans (congrArg some (by kernel_rfl))⟩
 f50:=⟨Tryz.f171.name,by decide,Tryz.func171.trans (congrArg some (by kernel_rfl))⟩
 f57:=⟨Tryz.f190.name,by decide,Tryz.func190.trans (congrArg some (by kernel_rfl))⟩
 t0:=Tryz.underlying0
 a0:=Tryz.isAgg0
 z0:=Tryz.sizeOf0
 v0:=Tryz.zeroValue0
 t3:=Tryz.underlying3
 a3:=Tryz.isAgg3
 z3:=Tryz.sizeOf3
 v3:=Tryz.zeroValue3
 t4:=Tryz.underlying4
 a4:=Tryz.isAgg4
 z4:=Tryz.sizeOf4
 v4:=Tryz.zeroValue4
 t5:=Tryz.underlying5
 a5:=Tryz.isAgg5
 z5:=Tryz.sizeOf5
 v5:=Tryz.zeroValue5
 t9:=Tryz.underlying9
 a9:=Tryz.isAgg9
 z9:=Tryz.sizeOf9
 v9:=Tryz.zeroValue9
 t22:=Tryz.underlying43
 a22:=Tryz.isAgg43
 z22:=Tryz.sizeOf43
 v22:=Tryz.zeroValue43
 t25:=Tryz.underlying121
 a25:=Tryz.isAgg121
 z25:=Tryz.sizeOf121
 v25:=Tryz.zeroValue121
 t39:=Tryz.underlying164
 a39:=Tryz.isAgg164
 z39:=Tryz.sizeOf164
 v39:=Tryz.zeroValue164
 t45:=Tryz.underlying184
 a45:=Tryz.isAgg184
 z45:=Tryz.sizeOf184
 v45:=Tryz.zeroValue184
 t46:=Tryz.underlying185
 a46:=Tryz.isAgg185
 z46:=Tryz.sizeOf185
 v46:=Tryz.zeroValue185
 t50:=Tryz.underlying124
 a50:=Tryz.isAgg124
 z50:=Tryz.sizeOf124
 v50:=Tryz.zeroValue124
 t53:=Tryz.underlying191
 a53:=Tryz.isAgg191
 z53:=Tryz.sizeOf191
 v53:=Tryz.zeroValue191
 t55:=Tryz.underlying193
 a55:=Tryz.isAgg193
 z55:=Tryz.sizeOf193
 v55:=Tryz.zeroValue193
 t66:=Tryz.underlying221
 a66:=Tryz.isAgg221
 z66:=Tryz.sizeOf221
 v66:=Tryz.zeroValue221
 t70:=Tryz.underlying225
 a70:=Tryz.isAgg225
 z70:=Tryz.sizeOf225
 v70:=Tryz.zeroValue225
 t76:=Tryz.underlying243
 a76:=Tryz.isAgg243
 z76:=Tryz.sizeOf243
 v76:=Tryz.zeroValue243
 t77:=Tryz.underlying244
 a77:=Tryz.isAgg244
 z77:=Tryz.sizeOf244
 v77:=Tryz.zeroValue244 }
end Go.Proofs
namespace Go.Proofs.YteflhbfgpknabaaGreatDoor
open Go.Lib (hid)
open Go.RowKit Go.Shelf
instance (a b:Ft):Decidable (fLt a b):=by unfold fLt;infer_instance
def cfTP (a b:Ft):Int:=cfT a.1 a.2.1 a.2.2 b.1 b.2.1 b.2.2
theorem ltFt (x y:Ft):ltOf cfTP x y=decide (fLt x y):=by
 rw [Bool.eq_iff_iff,decide_eq_true_iff]
 unfold ltOf
 rw [decide_eq_true_iff]
 exact cfT_lt _ _ _ _ _ _
theorem swoFt:Sort.SWO (ltOf cfTP) where
 irrefl x:=by rw [ltFt];simpa using fLt_irr x
 trans x y z h1 h2:=by rw [ltFt] at *;simp only [decide_eq_true_eq] at *;exact fLt_trans h1 h2
 ntrans x y z h1 h2:=by
  rw [ltFt] at *
  simp only [decide_eq_false_iff_not] at *
  intro h
  rcases fLt_total x y with q | rfl | q
  ·exact h1 q
  ·exact h2 h
  ·exact h2 (fLt_trans q h)
theorem sortFt_any (l:List Ft) (hn:l.length≤1000000000) (base:Nat) (v:Value) (w:World) (h:w.ownsRow base 74 3 v l.length (ftCs l)) :
  Calls Tryz.prog 71 #[v,.func (.func 48) #[] #[]] w fun e w'=>e = .returned (.tuple #[])∧∃ m:List Ft,m.Perm l∧(m.Pairwise fun a b=>¬ fLt b a)∧w'.ownsRow base 74 3 v m.length (ftCs m)∧w.grownBy w' v.ownBlock:=by
 unfold ftCs at h ⊢
 rcases h.2 with ⟨hv,h0⟩ | ⟨g,cap,cur,hv,hbg,hg,hrest⟩
 ·have hl0:l=[]:=List.length_eq_zero_iff.1 h0
  subst hl0
  have hcon:=AnyF.slices_SortFunc_none Tryz.sortFts none 0 (.func (.func 48) #[] #[]) w
  rw [← hv] at hcon
  change Calls Tryz.prog 71 _ _ _ at hcon
  refine hcon.mono ?_
  rintro e w' ⟨rfl,rfl⟩
  exact ⟨rfl,[],List.Perm.refl _,List.Pairwise.nil,h,World.grownBy.refl _ _⟩
 ·obtain ⟨d,hd⟩:∃ d:Array Ft,d.toList=l:=⟨l.toArray,rfl⟩
  have hsz:d.size=l.length:=by rw [← hd,Array.length_toList]
  have eg:∀ args w,(callFunc 48 args).run Tryz.prog w = .ok (.enter 48 args) w:=enters_of Tryz.func48 (by kernel_rfl) rfl
  have h':=h
  rw [hv,← hd] at h'
  rw [Array.length_toList] at h'
  have hH:=holdsK_row (enc:=ftC) (k:=3) (fun _=>rfl) h'
  have hcon:=AnyQ.slices_SortFunc Tryz.sortFts 3 Tryz.isAgg74 Tryz.sizeOf74 ftC (fun _=>rfl) (fun x v hv=>by simp [ftC] at hv;rcases hv with rfl | rfl | rfl <;> rfl) cfTP swoFt 48 #[] g 0 cap d w eg (fun _ _ _ _ x y=>byFault_any x.1 x.2.1 x.2.2 y.1 y.2.1 y.2.2 _) hH.1 hH.2 (by omega)
  rw [hsz,← hv] at hcon
  change Calls Tryz.prog 71 _ _ _ at hcon
  refine hcon.mono ?_
  rintro e w' ⟨rfl,d',n,os,hp,hs,rfl⟩
  obtain ⟨hsz2,_,hperm⟩:=hp
  rw [← hsz] at hperm hs
  have e1:d'.extract 0 d.size=d':=by rw [← hsz2];exact Array.extract_size
  rw [e1,Array.extract_size] at hperm
  refine ⟨rfl,d'.toList,?_,?_,?_,?_⟩
  ·rw [← hd];exact hperm
  ·rw [List.pairwise_iff_getElem]
   intro i j hi hj hij
   have hj':j<d'.size:=by simpa using hj
   have hi':i<d'.size:=by simpa using hi
   have:=hs i j (Nat.zero_le _) hij (by omega)
   rw [ltFt,getElem!_pos d' i hi',getElem!_pos d' j hj'] at this
   simpa using this
  ·have:=sorted_row (enc:=ftC) (n:=n) (os:=os) (fun _=>rfl) hsz2 h'
   rw [hv,← hsz]
   simpa [Array.length_toList] using this
  ·rw [hv];exact sorted_grown
section
variable {α : Type} [Inhabited α] {enc : α → Value}
theorem sort1_heap {W:World} {g n:Nat} {d:Array α} {os:Array Obj} {cur:Array Value} {e:TypeId} {fr:Nat × Nat} (h:W.heap[g]?=some (.cells cur e fr)) :
  (sortWorld enc W g 0 n d os).heap[g]?=some (.cells (Sort.putCells enc 0 d cur) e fr):=by
 have hlt:=(Array.getElem?_eq_some_iff.1 h).1
 show (((Sort.mapBlock (Sort.ahead W n) g _).heap)++os)[g]?=_
 rw [Array.getElem?_append_left (by simpa [Sort.mapBlock] using hlt)]
 show ((Sort.ahead W n).heap.modify g _)[g]?=_
 rw [Array.getElem?_modify,if_pos rfl]
 show Option.map _ (W.heap[g]?)=_
 simp only [h,Option.map_some]
 rfl
theorem sort1_row {W:World} {base g:Nat} {t:TypeId} {m cap n:Nat} {d d':Array α} {os:Array Obj} (hs:d'.size=d.size) (h:W.ownsRow base t 1 (.slice (some ⟨g,0,none⟩) m cap) d.size (d.toList.map enc)) :
  (sortWorld enc W g 0 n d' os).ownsRow base t 1 (.slice (some ⟨g,0,none⟩) m cap) d'.size (d'.toList.map enc):=by
 obtain ⟨hl,⟨e,_⟩ | ⟨g',cap',cur,e,hbg,hg,hn,hmx,hz,hx⟩⟩:=h
 ·cases e
 ·cases e
  have hle:d'.size≤cur.size:=by omega
  refine ⟨by simp,.inr ⟨g,cap,_,by rw [hs],hbg,sort1_heap hg,by rw [hs];exact hn,hmx,by simp [Sort.putCells,hz],?_⟩⟩
  apply List.ext_getElem?
  intro j
  rw [List.getElem?_take,Array.getElem?_toList]
  rw [List.getElem?_map,Array.getElem?_toList]
  by_cases ht:j<d'.size
  ·rw [if_pos (by omega)]
   simp only [Sort.putCells,Array.getElem?_mapIdx]
   rw [Array.getElem?_eq_getElem (by omega),Option.map_some,if_pos ⟨Nat.zero_le _,by omega⟩,Nat.sub_zero,getElem!_pos _ j ht,Array.getElem?_eq_getElem ht]
   rfl
  ·rw [if_neg (by omega),Array.getElem?_eq_none (by omega)]
   rfl
theorem sort1_grown {W:World} {g n:Nat} {d:Array α} {os:Array Obj}:W.grownBy (sortWorld enc W g 0 n d os) (some g) where
 os:=rfl
 tape:=rfl
 output:=rfl
 size:=by
  show _≤(((Sort.mapBlock (Sort.ahead W n) g _).heap)++os).size
  simp [Sort.mapBlock,Sort.ahead]
 block i hi hne:=by
  show (((Sort.mapBlock (Sort.ahead W n) g _).heap)++os)[i]?=_
  rw [Array.getElem?_append_left (by simpa [Sort.mapBlock,Sort.ahead] using hi)]
  show ((Sort.ahead W n).heap.modify g _)[i]?=_
  rw [Array.getElem?_modify,if_neg (fun e=>hne (by rw [e]))]
  rfl
theorem holds1_row {W:World} {base g:Nat} {t:TypeId} {m cap:Nat} {d:Array α} (h:W.ownsRow base t 1 (.slice (some ⟨g,0,none⟩) m cap) d.size (d.toList.map enc)):Sort.Holds enc W g 0 d∧g<W.heap.size:=by
 obtain ⟨hl,⟨e,_⟩ | ⟨g',cap',cur,e,hbg,hg,hn,hmx,hz,hx⟩⟩:=h
 ·cases e
 ·cases e
  refine ⟨fun j hj=>?_,(Array.getElem?_eq_some_iff.1 hg).1⟩
  have hc:cur[j]?=some (enc d[j]):=by
   have h1:=congrArg (fun l=>l[j]?) hx
   simp only [List.getElem?_take,Array.getElem?_toList] at h1
   rw [if_pos (by omega)] at h1
   rw [h1,List.getElem?_map,Array.getElem?_toList,Array.getElem?_eq_getElem hj]
   rfl
  constructor
  ·simp only [World.cell?,hg,Nat.zero_add]
   rw [getElem!_pos d j hj]
   exact hc
  ·simp only [World.frozen?,hg]
   rfl
end
theorem Tryz.sortSets1:Go.Proofs.SlLaysF.n6 Tryz.prog Tryz.sortSets_ren:={ Tryz.sortSets with
 a24:=Tryz.isAgg28
 z24:=Tryz.sizeOf28 }
def cfSt (O:List (List Ft)) (i j:Fin O.length):Int:=lexC O[i] O[j]
theorem ltSt {O:List (List Ft)} {many:Nat} (hm:∀ F∈O,F.length=many) (i j:Fin O.length):ltOf (cfSt O) i j=true↔lexLt O[i] O[j]:=by
 unfold ltOf cfSt
 rw [decide_eq_true_iff]
 exact lexC_lt ((hm _ (List.getElem_mem i.2)).trans (hm _ (List.getElem_mem j.2)).symm)
theorem swoSt {O:List (List Ft)} {many:Nat} (hm:∀ F∈O,F.length=many):Sort.SWO (ltOf (cfSt O)) where
 irrefl x:=by rw [← Bool.not_eq_true,ltSt hm];exact lex_irr _
 trans x y z h1 h2:=by rw [ltSt hm] at *;exact lex_trans h1 h2
 ntrans x y z h1 h2:=by
  rw [← Bool.not_eq_true,ltSt hm] at *
  intro h
  rcases lex_total ((hm _ (List.getElem_mem x.2)).trans (hm _ (List.getElem_mem y.2)).symm) with q | q | q
  ·exact h1 q
  ·exact h2 (by
    show lexLt O[y] O[z]
    rw [← show O[x]=O[y] from q]
    exact h)
  ·exact h2 (lex_trans q h)
theorem map_fins {O:List (List Ft)} (g:Nat→Value):((List.finRange O.length).map fun i:Fin O.length=>g i.1)=(List.range O.length).map g:=by
 apply List.ext_getElem
 ·simp
 ·intro i h1 h2
  simp
theorem sortSt_any (O:List (List Ft)) (many:Nat) (hm:∀ F∈O,F.length=many) (hmn:many≤1000) (hn:O.length≤1000000000000) (g:Nat→Value) (X base:Nat) (v:Value) (w:World) (hr:w.ownsRow base 28 1 v O.length ((List.range O.length).map g)) (hs:∀ i (hi:i<O.length),w.ownsRow X 74 3 (g i) O[i].length (ftCs O[i])) (hone:∀ i,i<O.length→(g i).oneCell'=true) :
  Calls Tryz.prog 72 #[v,.func (.func 73) #[] #[]] w fun e w'=>e = .returned (.tuple #[])∧∃ p:List (Fin O.length),p.Perm (List.finRange O.length)∧(p.Pairwise fun i j=>¬ lexLt O[j] O[i])∧w'.ownsRow base 28 1 v p.length (p.map fun i:Fin O.length=>g i.1)∧w.grownBy w' v.ownBlock:=by
 rcases hr.2 with ⟨hv,h0⟩ | ⟨b,cap,cur,hv,hbg,hg,hrest⟩
 ·have hl0:O=[]:=List.length_eq_zero_iff.1 h0
  subst hl0
  have hcon:=AnyF.slices_SortFunc_none Tryz.sortSets none 0 (.func (.func 73) #[] #[]) w
  rw [← hv] at hcon
  change Calls Tryz.prog 72 _ _ _ at hcon
  refine hcon.mono ?_
  rintro e w' ⟨rfl,rfl⟩
  exact ⟨rfl,[],List.Perm.refl _,List.Pairwise.nil,hr,World.grownBy.refl _ _⟩
 ·by_cases hpos:O.length=0
  ·have hl0:O=[]:=List.length_eq_zero_iff.1 hpos
   subst hl0
   have hcon:=AnyF.slices_SortFunc_none Tryz.sortSets (some ⟨b,0,none⟩) cap (.func (.func 73) #[] #[]) w
   have hv':v = .slice (some ⟨b,0,none⟩) 0 cap:=hv
   rw [← hv'] at hcon
   change Calls Tryz.prog 72 _ _ _ at hcon
   refine hcon.mono ?_
   rintro e w' ⟨rfl,rfl⟩
   exact ⟨rfl,[],List.Perm.refl _,List.Pairwise.nil,hr,World.grownBy.refl _ _⟩
  ·haveI:Inhabited (Fin O.length):=⟨⟨0,by omega⟩⟩
   obtain ⟨d,hd⟩:∃ d:Array (Fin O.length),d.toList=List.finRange O.length:=⟨(List.finRange O.length).toArray,rfl⟩
   have hsz:d.size=O.length:=by rw [← Array.length_toList,hd,List.length_finRange]
   have eg:∀ args w,(callFunc 73 args).run Tryz.prog w = .ok (.enter 73 args) w:=enters_of Tryz.func73 (by kernel_rfl) rfl
   have h':w.ownsRow base 28 1 (.slice (some ⟨b,0,none⟩) O.length cap) d.size (d.toList.map fun i:Fin O.length=>g i.1):=by rw [hd,hsz,map_fins,← hv];exact hr
   have hH:=holds1_row h'
   have hcon:=Any.slices_SortFunc Tryz.sortSets1 (fun i:Fin O.length=>g i.1) (fun i=>hone i i.2) (cfSt O) (swoSt hm) 73 #[] b 0 cap d w eg (fun m os dk _ x y=>by
    have hgr:w.grownBy (sortWorld (fun i:Fin O.length=>g i.1) w b 0 m dk os) (some b):=sort1_grown
    have hk:∀ i:Fin O.length,ARd (sortWorld (fun i:Fin O.length=>g i.1) w b 0 m dk os) (g i) 3 (O[i].map ftC):=fun i=>ARd.of_fts ((hs i i.2).kept hgr (by
     have:=row_apart (hs i i.2) hr (by decide)
     rw [hv] at this
     exact this))
    have hlx:∀ i:Fin O.length,O[i].length≤1000000:=fun i=>by have:=hm _ (List.getElem_mem i.2);show (O[i.1]'i.2).length≤_;omega
    exact sets2_any O[x] O[y] (g x) (g y) _ (hlx x) (hlx y) (hk x) (hk y)) hH.1 hH.2 (by omega)
   rw [hsz,← hv] at hcon
   change Calls Tryz.prog 72 _ _ _ at hcon
   refine hcon.mono ?_
   rintro e w' ⟨rfl,d',n,os,hp,hso,rfl⟩
   obtain ⟨hsz2,_,hperm⟩:=hp
   have ex:∀ (a:Array (Fin O.length)) n,n=a.size→a.extract 0 n=a:=fun a n h=>by rw [h];exact Array.extract_size
   rw [ex d' _ (by omega),ex d _ (by omega)] at hperm
   refine ⟨rfl,d'.toList,?_,?_,?_,?_⟩
   ·rw [← hd];exact hperm
   ·rw [List.pairwise_iff_getElem]
    intro i j hi hj hij
    have hj':j<d'.size:=by simpa using hj
    have hi':i<d'.size:=by simpa using hi
    have:=hso i j (Nat.zero_le _) hij (by omega)
    rw [← Bool.not_eq_true,ltSt hm,getElem!_pos d' i hi',getElem!_pos d' j hj'] at this
    exact this
   ·have:=sort1_row (n:=n) (os:=os) hsz2 h'
    have e2:d'.toList.length=d'.size:=Array.length_toList
    rw [hv,e2]
    exact this
   ·rw [hv];exact sort1_grown
end Go.Proofs.YteflhbfgpknabaaGreatDoor
