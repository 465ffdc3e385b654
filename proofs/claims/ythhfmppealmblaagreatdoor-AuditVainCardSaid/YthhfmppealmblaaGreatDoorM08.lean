/-
  A part of the proof: AO.
-/
import Derived.Test.YthhfmppealmblaaGreatDoorM06
namespace Go.Proofs.YthhfmppealmblaaGreatDoor
def OnIx (t:Th) (i:Nat):Prop :=
 (t.1=1∧0≤t.2.1∧t.2.1<6∧0≤t.2.2∧t.2.2<128∧(i:Int)=t.2.1 * 128+t.2.2)∨(t.1=2∧t.2.1=0∧0≤t.2.2∧t.2.2<80∧(i:Int)=768+t.2.2) ∨
 (t.1=3∧t.2.1=0∧0≤t.2.2∧t.2.2<24∧(i:Int)=848+t.2.2)∨(t.1=4∧t.2.1=0∧0≤t.2.2∧t.2.2<4∧(i:Int)=872+t.2.2)
theorem onIx_one {t u:Th} {i:Nat} (h:OnIx t i) (k:OnIx u i):u=t:=by
 obtain ⟨a,b,c⟩:=t
 obtain ⟨a2,b2,c2⟩:=u
 unfold OnIx at h k
 simp only at h k
 have:a2=a∧b2=b∧c2=c:=by omega
 obtain ⟨rfl,rfl,rfl⟩:=this
 rfl
theorem onIx_lt {t:Th} {i:Nat} (h:OnIx t i):i<876:=by
 unfold OnIx at h
 omega
def onCell (t:Th) (v:Int):Value:=if t.1=4 then .int .i64 v else .bool (decide (v=1))
structure OnI (f:Th→Int) (cs:Array Value):Prop where
 size:cs.size=876
 val:∀ t i,OnIx t i→cs[i]?=some (onCell t (f t))
theorem OnI.set {f:Th→Int} {cs:Array Value} (h:OnI f cs) {t:Th} {i:Nat} (ht:OnIx t i) (v:Int):OnI (fun u=>if u=t then v else f u) (cs.setIfInBounds i (onCell t v)):=by
 refine ⟨by simpa using h.size,fun u j hu=>?_⟩
 rw [Array.getElem?_setIfInBounds]
 by_cases e:i=j
 ·subst e
  have e2:=onIx_one ht hu
  subst e2
  rw [if_pos rfl,if_pos (by rw [h.size];exact onIx_lt ht),if_pos rfl]
 ·have e2:u≠t:=fun q=>by
   subst q
   unfold OnIx at ht hu
   omega
  rw [if_neg e,if_neg e2]
  exact h.val u j hu
theorem onIx_all {i:Nat} (h:i<876):∃ t,OnIx t i:=by
 by_cases h1:i<768
 ·exact ⟨(1,((i / 128:Nat):Int),((i % 128:Nat):Int)),.inl ⟨rfl,by simp only;omega,by simp only;omega,by simp only;omega,by simp only;omega,by simp only;omega⟩⟩
 ·by_cases h2:i<848
  ·exact ⟨(2,0,((i-768:Nat):Int)),.inr (.inl ⟨rfl,rfl,by simp only;omega,by simp only;omega,by simp only;omega⟩)⟩
  ·by_cases h3:i<872
   ·exact ⟨(3,0,((i-848:Nat):Int)),.inr (.inr (.inl ⟨rfl,rfl,by simp only;omega,by simp only;omega,by simp only;omega⟩))⟩
   ·exact ⟨(4,0,((i-872:Nat):Int)),.inr (.inr (.inr ⟨rfl,rfl,by simp only;omega,by simp only;omega,by simp only;omega⟩))⟩
theorem OnI.one {f:Th→Int} {cs:Array Value} (h:OnI f cs):cs.all (·.oneCell')=true:=by
 rw [Array.all_eq_true]
 intro i hi
 obtain ⟨t,ht⟩:=onIx_all (by rw [← h.size];exact hi)
 have h1:=h.val t i ht
 rw [Array.getElem?_eq_getElem hi] at h1
 rw [Option.some.inj h1]
 unfold onCell
 split <;> rfl
def Bin (g:Th→Int):Prop:=∀ t,t.1≠4→g t=0∨g t=1
theorem bin_zero:Bin fun _=>0:=fun _ _ => .inl rfl
theorem sp_lens {S:Sp} (h:(checkP S).2=0):S.ds.length≤6∧S.rs.length≤40∧S.ss.length≤80∧S.cs.length≤24:=by
 unfold checkP at h
 split at h
 ·cases h
 ·omega
inductive Placed:Ev→Prop
 | key (a v:Int) (d n:Nat) (hd:d<6) (hn:n<128) (hv:v=0∨v=1):Placed (a,1,d,n,v)
 | stop (a v:Int) (n:Nat) (hn:n<80) (hv:v=0∨v=1):Placed (a,2,0,n,v)
 | coupler (a v:Int) (n:Nat) (hn:n<24) (hv:v=0∨v=1):Placed (a,3,0,n,v)
 | shade (a v:Int) (n:Nat) (hn:n<4):Placed (a,4,0,n,v)
 | mark (a d n v:Int):Placed (a,5,d,n,v)
theorem ev_placed {S:Sp} (h:(checkP S).2=0) {x:Ev} (hx:evE S x=0):Placed x:=by
 obtain ⟨a,k,d,n,v⟩:=x
 obtain ⟨l1,l2,l3,l4⟩:=sp_lens h
 unfold evE at hx
 simp only at hx
 split at hx
 ·cases hx
 ·rename_i h1
  split at hx
  ·cases hx
  ·rename_i h2
   have h3:=fun q=>(show False from absurd (ite_eq_right_iff.1 hx q) (by decide))
   have ht:there S k d n=true:=by simpa using h2
   unfold there at ht
   by_cases k1:k=1
   ·subst k1
    rw [if_pos rfl,decide_eq_true_iff] at ht
    have hk:keyIn S d n=true:=by
     cases e:keyIn S d n with
     | true=>rfl
     | false=>exact absurd (Or.inl ⟨rfl,e⟩) h3
    unfold keyIn at hk
    have hb:d.toNat<S.ds.length:=by omega
    rw [List.getElem?_eq_getElem hb] at hk
    simp only [decide_eq_true_iff] at hk
    have hs:=dv_small h (List.getElem_mem hb)
    have h4:¬ ¬ (0≤v∧v≤if (1:Int)=4 then 127 else 1):=fun q=>h3 (.inr (.inr (.inr q)))
    rw [if_neg (by decide)] at h4
    obtain ⟨d',rfl⟩:=Int.eq_ofNat_of_zero_le ht.1
    obtain ⟨n',rfl⟩:=Int.eq_ofNat_of_zero_le (show 0≤n by omega)
    exact .key a v d' n' (by omega) (by omega) (by omega)
   ·rw [if_neg k1] at ht
    have hd0:k=5∨d=0:=by omega
    by_cases k2:k=2
    ·subst k2
     rw [if_pos rfl,decide_eq_true_iff] at ht
     have h4:¬ ¬ (0≤v∧v≤if (2:Int)=4 then 127 else 1):=fun q=>h3 (.inr (.inr (.inr q)))
     rw [if_neg (by decide)] at h4
     obtain ⟨n',rfl⟩:=Int.eq_ofNat_of_zero_le ht.1
     have:d=0:=by omega
     subst this
     exact .stop a v n' (by omega) (by omega)
    ·rw [if_neg k2] at ht
     by_cases k3:k=3
     ·subst k3
      rw [if_pos rfl,decide_eq_true_iff] at ht
      have h4:¬ ¬ (0≤v∧v≤if (3:Int)=4 then 127 else 1):=fun q=>h3 (.inr (.inr (.inr q)))
      rw [if_neg (by decide)] at h4
      obtain ⟨n',rfl⟩:=Int.eq_ofNat_of_zero_le ht.1
      have:d=0:=by omega
      subst this
      exact .coupler a v n' (by omega) (by omega)
     ·by_cases k4:k=4
      ·subst k4
       have h4:¬ ¬ (0≤n∧n≤3):=fun q=>h3 (.inr (.inl ⟨rfl,q⟩))
       obtain ⟨n',rfl⟩:=Int.eq_ofNat_of_zero_le (show 0≤n by omega)
       have:d=0:=by omega
       subst this
       exact .shade a v n' (by omega)
      ·have:k=5:=by omega
       subst this
       exact .mark a d n v
theorem bin_on {g:Th→Int} (h:Bin g) {x:Ev} (hx:Placed x):Bin (onS g x):=by
 intro t ht
 unfold onS
 split
 ·rename_i e
  cases hx with
  | key _ _ _ _ _ _ hv=>exact hv
  | stop _ _ _ _ hv=>exact hv
  | coupler _ _ _ _ hv=>exact hv
  | shade=>exact absurd (by rw [← e.2];rfl) ht
  | mark=>exact absurd rfl e.1
 ·exact h t ht
theorem onS_set (g:Th→Int) {x:Ev} (h:x.2.1≠5):onS g x=fun u=>if u=thing x then x.2.2.2.2 else g u:=by
 funext u
 unfold onS
 by_cases e:u=thing x
 ·rw [if_pos ⟨h,e.symm⟩,if_pos e]
 ·rw [if_neg (fun q=>e q.2.symm),if_neg e]
theorem onS_mark (g:Th→Int) {x:Ev} (h:x.2.1=5):onS g x=g:=by
 funext u
 unfold onS
 rw [if_neg (fun q=>q.1 h)]
open Go.RowKit
theorem zero_on:Tryz.zeroCells119=(List.replicate 872 (Value.bool false)++List.replicate 4 (Value.int .i64 0)).toArray:=by kernel_rfl
theorem onI_zero:OnI (fun _=>0) Tryz.zeroCells119:=by
 rw [zero_on]
 refine ⟨by rw [List.size_toArray,List.length_append,List.length_replicate,List.length_replicate],fun t i h=>?_⟩
 have hl:=onIx_lt h
 rw [List.getElem?_toArray,List.getElem?_append,List.length_replicate]
 unfold onCell
 unfold OnIx at h
 by_cases c:i<872
 ·rw [if_pos c,List.getElem?_replicate,if_pos c,if_neg (by omega)]
  rfl
 ·rw [if_neg c,List.getElem?_replicate,if_pos (by omega),if_pos (by omega)]
theorem on_info:(Tryz.prog.info? 119).map (·.size)=some 876:=by kernel_rfl
set_option maxRecDepth 100000 in
set_option maxHeartbeats 1600000 in
theorem after_key (cs:Array Value) (hcs:cs.size=876) (h1:cs.all (·.oneCell')=true) (d n:Nat) (hd:d<6) (hn:n<128) (a v:Int) (u0:Value) (hu0:cs[d * 128+n]?=some u0) (w:World) :
  Calls Tryz.prog 82 #[.agg cs,.agg #[.int .i64 a,.int .i64 1,.int .i64 d,.int .i64 n,.int .i64 v]] w fun e w'=>e = .returned (.agg (cs.setIfInBounds (d * 128+n) (.bool (v==1))))∧Below w.heap.size w w':=by
 have HX:=Lib.hid ((Blk.new (w.alloc (.cells cs 119)) 42 #[.int .i64 a,.int .i64 1,.int .i64 d,.int .i64 n,.int .i64 v]).alloc (.cells Tryz.zeroCells119 119))
 have HC:=Lib.hid (((Blk.new w 119 cs).alloc (.cells #[.int .i64 a,.int .i64 1,.int .i64 d,.int .i64 n,.int .i64 v] 42)).alloc (.cells Tryz.zeroCells119 119))
 have HZ:=Lib.hid (Blk.new ((w.alloc (.cells cs 119)).alloc (.cells #[.int .i64 a,.int .i64 1,.int .i64 d,.int .i64 n,.int .i64 v] 42)) 119 Tryz.zeroCells119)
 have HB:=Lib.hid (show Below w.heap.size w (((w.alloc (.cells cs 119)).alloc (.cells #[.int .i64 a,.int .i64 1,.int .i64 d,.int .i64 n,.int .i64 v] 42)).alloc (.cells Tryz.zeroCells119 119)) from (((Below.refl w.heap.size w).alloc (Nat.le_refl _) _).alloc (by simp) _).alloc (by simp;omega) _)
 rw [World.size_alloc] at HX
 rw [World.size_alloc,World.size_alloc] at HZ
 go_enter Tryz.func82,Tryz.ntmps82
 go_upto_region 1 with fail
 generalize ((w.alloc (.cells cs 119)).alloc (.cells #[.int .i64 a,.int .i64 1,.int .i64 d,.int .i64 n,.int .i64 v] 42)).alloc (.cells Tryz.zeroCells119 119)=W at *
 have k1:=HX.out.cell 1
 have k2:=HX.out.cell 2
 have k3:=HX.out.cell 3
 have k4:=HX.out.cell 4
 have hd2:(d:Int)<6:=by omega
 have hn2:(n:Int)<128:=by omega
 have c0:W.cell? ⟨w.heap.size,d * 128+n,none⟩=some u0:=(HC.out.cell _).trans hu0
 have f0:W.frozen? ⟨w.heap.size,d * 128+n,none⟩=false:=HC.out.frozen _
 go_upto_region 3 with fail
 go_region
 all_goals go_upto_region 10 with fail
 have hg:=set_grown W w.heap.size (d * 128+n) (.bool (v==1))
 have hc:Blk ((W.setCell ⟨w.heap.size,d * 128+n,none⟩ (.bool (v==1))).drew) w.heap.size 119 (cs.setIfInBounds (d * 128+n) (.bool (v==1))):=HC.out.set (d * 128+n) (.bool (v==1))
 have hz0:=HZ.out.grown hg (fun e=>by have:=Option.some.inj e;omega)
 have hz:Blk ((W.setCell ⟨w.heap.size,d * 128+n,none⟩ (.bool (v==1))).drew) (w.heap.size+1+1) 119 Tryz.zeroCells119:=hz0
 have HB2:RowKit.Hid (Below w.heap.size w ((W.setCell ⟨w.heap.size,d * 128+n,none⟩ (.bool (v==1))).drew)):=Lib.hid (below_drew (HB.out.setCell (p:=⟨w.heap.size,d * 128+n,none⟩) (Nat.le_refl _) (.bool (v==1))))
 obtain ⟨W2,hW2⟩:∃ W2,(W.setCell ⟨w.heap.size,d * 128+n,none⟩ (.bool (v==1))).drew=W2:=⟨_,rfl⟩
 rw [hW2] at hc hz HB2 ⊢
 obtain ⟨c2,hc2⟩:∃ c2,cs.setIfInBounds (d * 128+n) (.bool (v==1))=c2:=⟨_,rfl⟩
 have hs2:c2.size=876:=by rw [← hc2,Array.size_setIfInBounds,hcs]
 have h2:c2.all (·.oneCell')=true:=by
  rw [← hc2]
  rw [Array.all_eq_true] at h1 ⊢
  intro j hj
  rw [Array.getElem_setIfInBounds]
  split
  ·rfl
  ·exact h1 j (by simpa using hj)
 rw [hc2] at hc
 have HC2:=Lib.hid hc2
 have hi:(Tryz.prog.info? 119).map (·.size)=some c2.size:=by rw [hs2];exact on_info
 clear hW2 hc2 hg hz0
 refine wp_region_list ?_
 refine wpList_load_row rfl 119 _ rfl w.heap.size rfl 119 c2 (0,0) _ hc Tryz.underlying119 rfl hi ?_
 refine wpList_store_mid rfl 119 _ _ rfl (w.heap.size+1+1) 0 c2 rfl rfl (fun j hj=>?_) hi h2 ?_
 ·have hj2:0+j<Tryz.zeroCells119.size:=by rw [onI_zero.size];omega
  exact ⟨by rw [hz.cell,Array.getElem?_eq_getElem hj2];rfl,hz.frozen _⟩
 ·have hk:=blk_put c2.toList 0 W2 _ hz (by rw [Array.length_toList,hs2,onI_zero.size];omega)
  have hk2:Blk (W2.setCells (w.heap.size+1+1) 0 c2.toList) (w.heap.size+1+1) 119 c2:=by
   have e:(Tryz.zeroCells119.toList.take 0++c2.toList++Tryz.zeroCells119.toList.drop (0+c2.toList.length)).toArray=c2:=by
    rw [List.take_zero,List.nil_append,List.drop_of_length_le (by rw [Array.length_toList,Array.length_toList,hs2,onI_zero.size];omega),List.append_nil,Array.toArray_toList]
   rw [e] at hk
   exact hk
  have hb9:Below w.heap.size w (W2.setCells (w.heap.size+1+1) 0 c2.toList):=HB2.out.grown (grown_cells _ _ _ _) HB2.out.size (fun j e=>by cases e;omega)
  go_wp2
  exact bodyPost_ret (v:=.agg c2) (results_cell_row rfl _ _ (w.heap.size+1+1) 119 c2 (0,0) _ rfl hk2 Tryz.underlying119 rfl hi) rfl ⟨by rw [HC2.out],hb9⟩
set_option maxRecDepth 100000 in
set_option maxHeartbeats 1600000 in
theorem after_stop (cs:Array Value) (hcs:cs.size=876) (h1:cs.all (·.oneCell')=true) (n:Nat) (hn:n<80) (a v:Int) (u0:Value) (hu0:cs[768+n]?=some u0) (w:World) :
  Calls Tryz.prog 82 #[.agg cs,.agg #[.int .i64 a,.int .i64 2,.int .i64 0,.int .i64 n,.int .i64 v]] w fun e w'=>e = .returned (.agg (cs.setIfInBounds (768+n) (.bool (v==1))))∧Below w.heap.size w w':=by
 have HX:=Lib.hid ((Blk.new (w.alloc (.cells cs 119)) 42 #[.int .i64 a,.int .i64 2,.int .i64 0,.int .i64 n,.int .i64 v]).alloc (.cells Tryz.zeroCells119 119))
 have HC:=Lib.hid (((Blk.new w 119 cs).alloc (.cells #[.int .i64 a,.int .i64 2,.int .i64 0,.int .i64 n,.int .i64 v] 42)).alloc (.cells Tryz.zeroCells119 119))
 have HZ:=Lib.hid (Blk.new ((w.alloc (.cells cs 119)).alloc (.cells #[.int .i64 a,.int .i64 2,.int .i64 0,.int .i64 n,.int .i64 v] 42)) 119 Tryz.zeroCells119)
 have HB:=Lib.hid (show Below w.heap.size w (((w.alloc (.cells cs 119)).alloc (.cells #[.int .i64 a,.int .i64 2,.int .i64 0,.int .i64 n,.int .i64 v] 42)).alloc (.cells Tryz.zeroCells119 119)) from (((Below.refl w.heap.size w).alloc (Nat.le_refl _) _).alloc (by simp) _).alloc (by simp;omega) _)
 rw [World.size_alloc] at HX
 rw [World.size_alloc,World.size_alloc] at HZ
 go_enter Tryz.func82,Tryz.ntmps82
 go_upto_region 1 with fail
 generalize ((w.alloc (.cells cs 119)).alloc (.cells #[.int .i64 a,.int .i64 2,.int .i64 0,.int .i64 n,.int .i64 v] 42)).alloc (.cells Tryz.zeroCells119 119)=W at *
 have k1:=HX.out.cell 1
 have k2:=HX.out.cell 2
 have k3:=HX.out.cell 3
 have k4:=HX.out.cell 4
 have hn2:(n:Int)<80:=by omega
 have c0:W.cell? ⟨w.heap.size,768+n,none⟩=some u0:=(HC.out.cell _).trans hu0
 have f0:W.frozen? ⟨w.heap.size,768+n,none⟩=false:=HC.out.frozen _
 go_upto_region 5 with fail
 go_upto_region 10 with fail
 have hg:=set_grown W w.heap.size (768+n) (.bool (v==1))
 have hc:Blk (W.setCell ⟨w.heap.size,768+n,none⟩ (.bool (v==1))) w.heap.size 119 (cs.setIfInBounds (768+n) (.bool (v==1))):=HC.out.set (768+n) (.bool (v==1))
 have hz0:=HZ.out.grown hg (fun e=>by have:=Option.some.inj e;omega)
 have hz:Blk (W.setCell ⟨w.heap.size,768+n,none⟩ (.bool (v==1))) (w.heap.size+1+1) 119 Tryz.zeroCells119:=hz0
 have HB2:RowKit.Hid (Below w.heap.size w (W.setCell ⟨w.heap.size,768+n,none⟩ (.bool (v==1)))):=Lib.hid ((HB.out.setCell (p:=⟨w.heap.size,768+n,none⟩) (Nat.le_refl _) (.bool (v==1))))
 obtain ⟨W2,hW2⟩:∃ W2,W.setCell ⟨w.heap.size,768+n,none⟩ (.bool (v==1))=W2:=⟨_,rfl⟩
 rw [hW2] at hc hz HB2 ⊢
 obtain ⟨c2,hc2⟩:∃ c2,cs.setIfInBounds (768+n) (.bool (v==1))=c2:=⟨_,rfl⟩
 have hs2:c2.size=876:=by rw [← hc2,Array.size_setIfInBounds,hcs]
 have h2:c2.all (·.oneCell')=true:=by
  rw [← hc2]
  rw [Array.all_eq_true] at h1 ⊢
  intro j hj
  rw [Array.getElem_setIfInBounds]
  split
  ·rfl
  ·exact h1 j (by simpa using hj)
 rw [hc2] at hc
 have HC2:=Lib.hid hc2
 have hi:(Tryz.prog.info? 119).map (·.size)=some c2.size:=by rw [hs2];exact on_info
 clear hW2 hc2 hg hz0
 refine wp_region_list ?_
 refine wpList_load_row rfl 119 _ rfl w.heap.size rfl 119 c2 (0,0) _ hc Tryz.underlying119 rfl hi ?_
 refine wpList_store_mid rfl 119 _ _ rfl (w.heap.size+1+1) 0 c2 rfl rfl (fun j hj=>?_) hi h2 ?_
 ·have hj2:0+j<Tryz.zeroCells119.size:=by rw [onI_zero.size];omega
  exact ⟨by rw [hz.cell,Array.getElem?_eq_getElem hj2];rfl,hz.frozen _⟩
 ·have hk:=blk_put c2.toList 0 W2 _ hz (by rw [Array.length_toList,hs2,onI_zero.size];omega)
  have hk2:Blk (W2.setCells (w.heap.size+1+1) 0 c2.toList) (w.heap.size+1+1) 119 c2:=by
   have e:(Tryz.zeroCells119.toList.take 0++c2.toList++Tryz.zeroCells119.toList.drop (0+c2.toList.length)).toArray=c2:=by
    rw [List.take_zero,List.nil_append,List.drop_of_length_le (by rw [Array.length_toList,Array.length_toList,hs2,onI_zero.size];omega),List.append_nil,Array.toArray_toList]
   rw [e] at hk
   exact hk
  have hb9:Below w.heap.size w (W2.setCells (w.heap.size+1+1) 0 c2.toList):=HB2.out.grown (grown_cells _ _ _ _) HB2.out.size (fun j e=>by cases e;omega)
  go_wp2
  exact bodyPost_ret (v:=.agg c2) (results_cell_row rfl _ _ (w.heap.size+1+1) 119 c2 (0,0) _ rfl hk2 Tryz.underlying119 rfl hi) rfl ⟨by rw [HC2.out],hb9⟩
set_option maxRecDepth 100000 in
set_option maxHeartbeats 1600000 in
theorem after_coupler (cs:Array Value) (hcs:cs.size=876) (h1:cs.all (·.oneCell')=true) (n:Nat) (hn:n<24) (a v:Int) (u0:Value) (hu0:cs[848+n]?=some u0) (w:World) :
  Calls Tryz.prog 82 #[.agg cs,.agg #[.int .i64 a,.int .i64 3,.int .i64 0,.int .i64 n,.int .i64 v]] w fun e w'=>e = .returned (.agg (cs.setIfInBounds (848+n) (.bool (v==1))))∧Below w.heap.size w w':=by
 have HX:=Lib.hid ((Blk.new (w.alloc (.cells cs 119)) 42 #[.int .i64 a,.int .i64 3,.int .i64 0,.int .i64 n,.int .i64 v]).alloc (.cells Tryz.zeroCells119 119))
 have HC:=Lib.hid (((Blk.new w 119 cs).alloc (.cells #[.int .i64 a,.int .i64 3,.int .i64 0,.int .i64 n,.int .i64 v] 42)).alloc (.cells Tryz.zeroCells119 119))
 have HZ:=Lib.hid (Blk.new ((w.alloc (.cells cs 119)).alloc (.cells #[.int .i64 a,.int .i64 3,.int .i64 0,.int .i64 n,.int .i64 v] 42)) 119 Tryz.zeroCells119)
 have HB:=Lib.hid (show Below w.heap.size w (((w.alloc (.cells cs 119)).alloc (.cells #[.int .i64 a,.int .i64 3,.int .i64 0,.int .i64 n,.int .i64 v] 42)).alloc (.cells Tryz.zeroCells119 119)) from (((Below.refl w.heap.size w).alloc (Nat.le_refl _) _).alloc (by simp) _).alloc (by simp;omega) _)
 rw [World.size_alloc] at HX
 rw [World.size_alloc,World.size_alloc] at HZ
 go_enter Tryz.func82,Tryz.ntmps82
 go_upto_region 1 with fail
 generalize ((w.alloc (.cells cs 119)).alloc (.cells #[.int .i64 a,.int .i64 3,.int .i64 0,.int .i64 n,.int .i64 v] 42)).alloc (.cells Tryz.zeroCells119 119)=W at *
 have k1:=HX.out.cell 1
 have k2:=HX.out.cell 2
 have k3:=HX.out.cell 3
 have k4:=HX.out.cell 4
 have hn2:(n:Int)<24:=by omega
 have c0:W.cell? ⟨w.heap.size,848+n,none⟩=some u0:=(HC.out.cell _).trans hu0
 have f0:W.frozen? ⟨w.heap.size,848+n,none⟩=false:=HC.out.frozen _
 go_upto_region 7 with fail
 go_upto_region 10 with fail
 have hg:=set_grown W w.heap.size (848+n) (.bool (v==1))
 have hc:Blk (W.setCell ⟨w.heap.size,848+n,none⟩ (.bool (v==1))) w.heap.size 119 (cs.setIfInBounds (848+n) (.bool (v==1))):=HC.out.set (848+n) (.bool (v==1))
 have hz0:=HZ.out.grown hg (fun e=>by have:=Option.some.inj e;omega)
 have hz:Blk (W.setCell ⟨w.heap.size,848+n,none⟩ (.bool (v==1))) (w.heap.size+1+1) 119 Tryz.zeroCells119:=hz0
 have HB2:RowKit.Hid (Below w.heap.size w (W.setCell ⟨w.heap.size,848+n,none⟩ (.bool (v==1)))):=Lib.hid ((HB.out.setCell (p:=⟨w.heap.size,848+n,none⟩) (Nat.le_refl _) (.bool (v==1))))
 obtain ⟨W2,hW2⟩:∃ W2,W.setCell ⟨w.heap.size,848+n,none⟩ (.bool (v==1))=W2:=⟨_,rfl⟩
 rw [hW2] at hc hz HB2 ⊢
 obtain ⟨c2,hc2⟩:∃ c2,cs.setIfInBounds (848+n) (.bool (v==1))=c2:=⟨_,rfl⟩
 have hs2:c2.size=876:=by rw [← hc2,Array.size_setIfInBounds,hcs]
 have h2:c2.all (·.oneCell')=true:=by
  rw [← hc2]
  rw [Array.all_eq_true] at h1 ⊢
  intro j hj
  rw [Array.getElem_setIfInBounds]
  split
  ·rfl
  ·exact h1 j (by simpa using hj)
 rw [hc2] at hc
 have HC2:=Lib.hid hc2
 have hi:(Tryz.prog.info? 119).map (·.size)=some c2.size:=by rw [hs2];exact on_info
 clear hW2 hc2 hg hz0
 refine wp_region_list ?_
 refine wpList_load_row rfl 119 _ rfl w.heap.size rfl 119 c2 (0,0) _ hc Tryz.underlying119 rfl hi ?_
 refine wpList_store_mid rfl 119 _ _ rfl (w.heap.size+1+1) 0 c2 rfl rfl (fun j hj=>?_) hi h2 ?_
 ·have hj2:0+j<Tryz.zeroCells119.size:=by rw [onI_zero.size];omega
  exact ⟨by rw [hz.cell,Array.getElem?_eq_getElem hj2];rfl,hz.frozen _⟩
 ·have hk:=blk_put c2.toList 0 W2 _ hz (by rw [Array.length_toList,hs2,onI_zero.size];omega)
  have hk2:Blk (W2.setCells (w.heap.size+1+1) 0 c2.toList) (w.heap.size+1+1) 119 c2:=by
   have e:(Tryz.zeroCells119.toList.take 0++c2.toList++Tryz.zeroCells119.toList.drop (0+c2.toList.length)).toArray=c2:=by
    rw [List.take_zero,List.nil_append,List.drop_of_length_le (by rw [Array.length_toList,Array.length_toList,hs2,onI_zero.size];omega),List.append_nil,Array.toArray_toList]
   rw [e] at hk
   exact hk
  have hb9:Below w.heap.size w (W2.setCells (w.heap.size+1+1) 0 c2.toList):=HB2.out.grown (grown_cells _ _ _ _) HB2.out.size (fun j e=>by cases e;omega)
  go_wp2
  exact bodyPost_ret (v:=.agg c2) (results_cell_row rfl _ _ (w.heap.size+1+1) 119 c2 (0,0) _ rfl hk2 Tryz.underlying119 rfl hi) rfl ⟨by rw [HC2.out],hb9⟩
set_option maxRecDepth 100000 in
set_option maxHeartbeats 1600000 in
theorem after_shade (cs:Array Value) (hcs:cs.size=876) (h1:cs.all (·.oneCell')=true) (n:Nat) (hn:n<4) (a v:Int) (u0:Value) (hu0:cs[872+n]?=some u0) (w:World) :
  Calls Tryz.prog 82 #[.agg cs,.agg #[.int .i64 a,.int .i64 4,.int .i64 0,.int .i64 n,.int .i64 v]] w fun e w'=>e = .returned (.agg (cs.setIfInBounds (872+n) (.int .i64 v)))∧Below w.heap.size w w':=by
 have HX:=Lib.hid ((Blk.new (w.alloc (.cells cs 119)) 42 #[.int .i64 a,.int .i64 4,.int .i64 0,.int .i64 n,.int .i64 v]).alloc (.cells Tryz.zeroCells119 119))
 have HC:=Lib.hid (((Blk.new w 119 cs).alloc (.cells #[.int .i64 a,.int .i64 4,.int .i64 0,.int .i64 n,.int .i64 v] 42)).alloc (.cells Tryz.zeroCells119 119))
 have HZ:=Lib.hid (Blk.new ((w.alloc (.cells cs 119)).alloc (.cells #[.int .i64 a,.int .i64 4,.int .i64 0,.int .i64 n,.int .i64 v] 42)) 119 Tryz.zeroCells119)
 have HB:=Lib.hid (show Below w.heap.size w (((w.alloc (.cells cs 119)).alloc (.cells #[.int .i64 a,.int .i64 4,.int .i64 0,.int .i64 n,.int .i64 v] 42)).alloc (.cells Tryz.zeroCells119 119)) from (((Below.refl w.heap.size w).alloc (Nat.le_refl _) _).alloc (by simp) _).alloc (by simp;omega) _)
 rw [World.size_alloc] at HX
 rw [World.size_alloc,World.size_alloc] at HZ
 go_enter Tryz.func82,Tryz.ntmps82
 go_upto_region 1 with fail
 generalize ((w.alloc (.cells cs 119)).alloc (.cells #[.int .i64 a,.int .i64 4,.int .i64 0,.int .i64 n,.int .i64 v] 42)).alloc (.cells Tryz.zeroCells119 119)=W at *
 have k1:=HX.out.cell 1
 have k2:=HX.out.cell 2
 have k3:=HX.out.cell 3
 have k4:=HX.out.cell 4
 have hn2:(n:Int)<4:=by omega
 have c0:W.cell? ⟨w.heap.size,872+n,none⟩=some u0:=(HC.out.cell _).trans hu0
 have f0:W.frozen? ⟨w.heap.size,872+n,none⟩=false:=HC.out.frozen _
 go_upto_region 9 with fail
 go_upto_region 10 with fail
 have hg:=set_grown W w.heap.size (872+n) (.int .i64 v)
 have hc:Blk (W.setCell ⟨w.heap.size,872+n,none⟩ (.int .i64 v)) w.heap.size 119 (cs.setIfInBounds (872+n) (.int .i64 v)):=HC.out.set (872+n) (.int .i64 v)
 have hz0:=HZ.out.grown hg (fun e=>by have:=Option.some.inj e;omega)
 have hz:Blk (W.setCell ⟨w.heap.size,872+n,none⟩ (.int .i64 v)) (w.heap.size+1+1) 119 Tryz.zeroCells119:=hz0
 have HB2:RowKit.Hid (Below w.heap.size w (W.setCell ⟨w.heap.size,872+n,none⟩ (.int .i64 v))):=Lib.hid ((HB.out.setCell (p:=⟨w.heap.size,872+n,none⟩) (Nat.le_refl _) (.int .i64 v)))
 obtain ⟨W2,hW2⟩:∃ W2,W.setCell ⟨w.heap.size,872+n,none⟩ (.int .i64 v)=W2:=⟨_,rfl⟩
 rw [hW2] at hc hz HB2 ⊢
 obtain ⟨c2,hc2⟩:∃ c2,cs.setIfInBounds (872+n) (.int .i64 v)=c2:=⟨_,rfl⟩
 have hs2:c2.size=876:=by rw [← hc2,Array.size_setIfInBounds,hcs]
 have h2:c2.all (·.oneCell')=true:=by
  rw [← hc2]
  rw [Array.all_eq_true] at h1 ⊢
  intro j hj
  rw [Array.getElem_setIfInBounds]
  split
  ·rfl
  ·exact h1 j (by simpa using hj)
 rw [hc2] at hc
 have HC2:=Lib.hid hc2
 have hi:(Tryz.prog.info? 119).map (·.size)=some c2.size:=by rw [hs2];exact on_info
 clear hW2 hc2 hg hz0
 refine wp_region_list ?_
 refine wpList_load_row rfl 119 _ rfl w.heap.size rfl 119 c2 (0,0) _ hc Tryz.underlying119 rfl hi ?_
 refine wpList_store_mid rfl 119 _ _ rfl (w.heap.size+1+1) 0 c2 rfl rfl (fun j hj=>?_) hi h2 ?_
 ·have hj2:0+j<Tryz.zeroCells119.size:=by rw [onI_zero.size];omega
  exact ⟨by rw [hz.cell,Array.getElem?_eq_getElem hj2];rfl,hz.frozen _⟩
 ·have hk:=blk_put c2.toList 0 W2 _ hz (by rw [Array.length_toList,hs2,onI_zero.size];omega)
  have hk2:Blk (W2.setCells (w.heap.size+1+1) 0 c2.toList) (w.heap.size+1+1) 119 c2:=by
   have e:(Tryz.zeroCells119.toList.take 0++c2.toList++Tryz.zeroCells119.toList.drop (0+c2.toList.length)).toArray=c2:=by
    rw [List.take_zero,List.nil_append,List.drop_of_length_le (by rw [Array.length_toList,Array.length_toList,hs2,onI_zero.size];omega),List.append_nil,Array.toArray_toList]
   rw [e] at hk
   exact hk
  have hb9:Below w.heap.size w (W2.setCells (w.heap.size+1+1) 0 c2.toList):=HB2.out.grown (grown_cells _ _ _ _) HB2.out.size (fun j e=>by cases e;omega)
  go_wp2
  exact bodyPost_ret (v:=.agg c2) (results_cell_row rfl _ _ (w.heap.size+1+1) 119 c2 (0,0) _ rfl hk2 Tryz.underlying119 rfl hi) rfl ⟨by rw [HC2.out],hb9⟩
set_option maxRecDepth 100000 in
set_option maxHeartbeats 1600000 in
theorem after_mark (cs:Array Value) (hcs:cs.size=876) (h1:cs.all (·.oneCell')=true) (a d n v:Int) (w:World) :
  Calls Tryz.prog 82 #[.agg cs,.agg #[.int .i64 a,.int .i64 5,.int .i64 d,.int .i64 n,.int .i64 v]] w fun e w'=>e = .returned (.agg cs)∧Below w.heap.size w w':=by
 have HX:=Lib.hid ((Blk.new (w.alloc (.cells cs 119)) 42 #[.int .i64 a,.int .i64 5,.int .i64 d,.int .i64 n,.int .i64 v]).alloc (.cells Tryz.zeroCells119 119))
 have HC:=Lib.hid (((Blk.new w 119 cs).alloc (.cells #[.int .i64 a,.int .i64 5,.int .i64 d,.int .i64 n,.int .i64 v] 42)).alloc (.cells Tryz.zeroCells119 119))
 have HZ:=Lib.hid (Blk.new ((w.alloc (.cells cs 119)).alloc (.cells #[.int .i64 a,.int .i64 5,.int .i64 d,.int .i64 n,.int .i64 v] 42)) 119 Tryz.zeroCells119)
 have HB2:=Lib.hid (show Below w.heap.size w (((w.alloc (.cells cs 119)).alloc (.cells #[.int .i64 a,.int .i64 5,.int .i64 d,.int .i64 n,.int .i64 v] 42)).alloc (.cells Tryz.zeroCells119 119)) from (((Below.refl w.heap.size w).alloc (Nat.le_refl _) _).alloc (by simp) _).alloc (by simp;omega) _)
 rw [World.size_alloc] at HX
 rw [World.size_alloc,World.size_alloc] at HZ
 go_enter Tryz.func82,Tryz.ntmps82
 go_upto_region 1 with fail
 generalize ((w.alloc (.cells cs 119)).alloc (.cells #[.int .i64 a,.int .i64 5,.int .i64 d,.int .i64 n,.int .i64 v] 42)).alloc (.cells Tryz.zeroCells119 119)=W2 at *
 have k1:=HX.out.cell 1
 go_upto_region 10 with fail
 have hc:=HC.out
 have hz:=HZ.out
 have hs2:=hcs
 have h2:=h1
 have hi:(Tryz.prog.info? 119).map (·.size)=some cs.size:=by rw [hcs];exact on_info
 refine wp_region_list ?_
 refine wpList_load_row rfl 119 _ rfl w.heap.size rfl 119 cs (0,0) _ hc Tryz.underlying119 rfl hi ?_
 refine wpList_store_mid rfl 119 _ _ rfl (w.heap.size+1+1) 0 cs rfl rfl (fun j hj=>?_) hi h2 ?_
 ·have hj2:0+j<Tryz.zeroCells119.size:=by rw [onI_zero.size];omega
  exact ⟨by rw [hz.cell,Array.getElem?_eq_getElem hj2];rfl,hz.frozen _⟩
 ·have hk:=blk_put cs.toList 0 W2 _ hz (by rw [Array.length_toList,hs2,onI_zero.size];omega)
  have hk2:Blk (W2.setCells (w.heap.size+1+1) 0 cs.toList) (w.heap.size+1+1) 119 cs:=by
   have e:(Tryz.zeroCells119.toList.take 0++cs.toList++Tryz.zeroCells119.toList.drop (0+cs.toList.length)).toArray=cs:=by
    rw [List.take_zero,List.nil_append,List.drop_of_length_le (by rw [Array.length_toList,Array.length_toList,hs2,onI_zero.size];omega),List.append_nil,Array.toArray_toList]
   rw [e] at hk
   exact hk
  have hb9:Below w.heap.size w (W2.setCells (w.heap.size+1+1) 0 cs.toList):=HB2.out.grown (grown_cells _ _ _ _) HB2.out.size (fun j e=>by cases e;omega)
  go_wp2
  exact bodyPost_ret (v:=.agg cs) (results_cell_row rfl _ _ (w.heap.size+1+1) 119 cs (0,0) _ rfl hk2 Tryz.underlying119 rfl hi) rfl ⟨rfl,hb9⟩
def evV (x:Ev):Value:=.agg #[.int .i64 x.1,.int .i64 x.2.1,.int .i64 x.2.2.1,.int .i64 x.2.2.2.1,.int .i64 x.2.2.2.2]
theorem onIx_key {d n:Nat} (hd:d<6) (hn:n<128):OnIx (1,(d:Int),(n:Int)) (d * 128+n):=.inl ⟨rfl,by simp only;omega,by simp only;omega,by simp only;omega,by simp only;omega,by simp only;omega⟩
theorem onIx_stop {n:Nat} (hn:n<80):OnIx (2,0,(n:Int)) (768+n):=.inr (.inl ⟨rfl,rfl,by simp only;omega,by simp only;omega,by simp only;omega⟩)
theorem onIx_coupler {n:Nat} (hn:n<24):OnIx (3,0,(n:Int)) (848+n):=.inr (.inr (.inl ⟨rfl,rfl,by simp only;omega,by simp only;omega,by simp only;omega⟩))
theorem onIx_shade {n:Nat} (hn:n<4):OnIx (4,0,(n:Int)) (872+n):=.inr (.inr (.inr ⟨rfl,rfl,by simp only;omega,by simp only;omega,by simp only;omega⟩))
theorem after_any (cs:Array Value) (g:Th→Int) (h:OnI g cs) (x:Ev) (hx:Placed x) (w:World) :
  Calls Tryz.prog 82 #[.agg cs,evV x] w fun e w'=>∃ c2,e = .returned (.agg c2)∧OnI (onS g x) c2∧Below w.heap.size w w':=by
 cases hx with
 | key a v d n hd hn hv =>
  refine (after_key cs h.size h.one d n hd hn a v _ (h.val _ _ (onIx_key hd hn)) w).mono ?_
  rintro e w' ⟨rfl,hb⟩
  refine ⟨_,rfl,?_,hb⟩
  rw [onS_set g (by simp)]
  exact h.set (onIx_key hd hn) v
 | stop a v n hn hv =>
  refine (after_stop cs h.size h.one n hn a v _ (h.val _ _ (onIx_stop hn)) w).mono ?_
  rintro e w' ⟨rfl,hb⟩
  refine ⟨_,rfl,?_,hb⟩
  rw [onS_set g (by simp)]
  exact h.set (onIx_stop hn) v
 | coupler a v n hn hv =>
  refine (after_coupler cs h.size h.one n hn a v _ (h.val _ _ (onIx_coupler hn)) w).mono ?_
  rintro e w' ⟨rfl,hb⟩
  refine ⟨_,rfl,?_,hb⟩
  rw [onS_set g (by simp)]
  exact h.set (onIx_coupler hn) v
 | shade a v n hn =>
  refine (after_shade cs h.size h.one n hn a v _ (h.val _ _ (onIx_shade hn)) w).mono ?_
  rintro e w' ⟨rfl,hb⟩
  refine ⟨_,rfl,?_,hb⟩
  rw [onS_set g (by simp)]
  exact h.set (onIx_shade hn) v
 | mark a d n v =>
  refine (after_mark cs h.size h.one a d n v w).mono ?_
  rintro e w' ⟨rfl,hb⟩
  exact ⟨_,rfl,by rw [onS_mark g rfl];exact h,hb⟩
theorem onB_info {c:Array Value} (hs:c.size=876):(Tryz.prog.info? 119).map (·.size)=some c.size:=by rw [hs];exact on_info
theorem on_load {W:World} {B:Nat} {c:Array Value} (h:Blk W B 119 c) (hs:c.size=876):(Instr.loadAt 119 (.pointer (some ⟨B,0,none⟩))).run Tryz.prog W = .ok (.agg c) W:=by
 simp only [Instr.loadAt,Instr.sureAddr,Sem.run_bind,Sem.run_pure,Result.andThen_ok,run_loadVar_row W B 119 119 c (0,0) _ h Tryz.underlying119 rfl (onB_info hs)]
theorem on_there {W:World} {B:Nat} {c:Array Value} (h:Blk W B 119 c) {n:Nat} (hs:c.size=n):W.there B 0 n:=fun j hj=>⟨by rw [h.cell,Array.getElem?_eq_getElem (by omega)];rfl,h.frozen _⟩
theorem on_put {W:World} {B:Nat} {c c2:Array Value} (h:Blk W B 119 c) (hs:c.size=876) (h2:c2.size=876):Blk (W.setCells B 0 c2.toList) B 119 c2:=by
 have hk:=blk_put c2.toList 0 W c h (by rw [Array.length_toList];omega)
 have e:(c.toList.take 0++c2.toList++c.toList.drop (0+c2.toList.length)).toArray=c2:=by
  rw [List.take_zero,List.nil_append,List.drop_of_length_le (by rw [Array.length_toList,Array.length_toList];omega),List.append_nil,Array.toArray_toList]
 rw [e] at hk
 exact hk
theorem still_load_on {ops:Array Oper} {Q:Act→Prop} {a:Act} {w:World} {o:Oper} {rest:List Oper} (hg:o.guard=none) (x:Operand) (ho:o.op = .load 119 x) (B:Nat) (hx:a.eval x = .pointer (some ⟨B,0,none⟩)) {c:Array Value} (h:Blk w B 119 c) (hs:c.size=876) (hk:wpStill Tryz.prog ops w Q rest (a.put o.dst (.agg c))):wpStill Tryz.prog ops w Q (o :: rest) a:=by
 refine wpStill_step fun K hK=>?_
 simp only [Region.wanted,hg,if_true]
 unfold Oper.still execOp
 simp only [ho,hx,on_load h hs,Sem.run_bind,Sem.run_pure,Result.andThen_ok]
 exact ⟨rfl,hK _ hk⟩
structure OnX (f:Th→Int) (W:World) (B:Nat):Prop where
 ex:∃ c,OnI f c∧Blk W B 119 c
structure UpB (w wr:World):Prop where
 b:Below w.heap.size w wr
 z:Blk wr w.heap.size 119 Tryz.zeroCells119
theorem UpB.next {w wr W2:World} (h:UpB w wr) (hb:Below wr.drew.heap.size wr.drew W2) (c:List Value):UpB w (W2.setCells (w.heap.size+1) 0 c):=by
 have hb2:=below_undrew hb
 have h1:=below_step h.b hb2
 exact ⟨h1.grown (grown_cells _ _ _ _) h1.size (fun k e=>by cases e;omega),blk_keep (h.z.below hb2) (grown_cells (w.heap.size+1) c 0 W2) (by omega)⟩
theorem up_fin {w wr:World} {f g:Th→Int} (hf:f=g) (h:UpB w wr) (ho:OnX f wr (w.heap.size+1)):∃ c,Blk wr (w.heap.size+1) 119 c∧(Tryz.prog.info? 119).map (·.size)=some c.size∧c.all (·.oneCell')=true∧wr.there w.heap.size 0 c.size∧Blk (wr.setCells w.heap.size 0 c.toList) w.heap.size 119 c∧OnI g c∧Below w.heap.size w (wr.setCells w.heap.size 0 c.toList):=by
 subst hf
 obtain ⟨c,hc,hb⟩:=ho.ex
 exact ⟨c,hb,onB_info hc.size,hc.one,on_there h.z (by rw [hc.size,onI_zero.size]),on_put h.z onI_zero.size hc.size,hc,h.b.grown (grown_cells _ _ _ _) h.b.size (fun k e=>by cases e;omega)⟩
set_option maxRecDepth 100000 in
set_option maxHeartbeats 1600000 in
theorem up_any (l:List Ev) (vl:Value) (tick:Int) (w:World) (hl:l.length≤1000000) (hlv:ARd w vl 5 (l.map evC)) (hp:∀ x∈l,Placed x) :
  Calls Tryz.prog 55 #[vl,.int .i64 tick] w fun e w'=>∃ c,e = .returned (.agg c)∧OnI (onV (l.take (upN l tick))) c∧Below w.heap.size w w':=by
 obtain ⟨al,cl,rfl⟩:=hlv.evForm
 have HO:=Lib.hid (show OnX (onV (l.take 0)) ((w.alloc (.cells Tryz.zeroCells119 119)).alloc (.cells Tryz.zeroCells119 119)) (w.heap.size+1) from ⟨_,onI_zero,by
  have:=Blk.new (w.alloc (.cells Tryz.zeroCells119 119)) 119 Tryz.zeroCells119
  rwa [World.size_alloc] at this⟩)
 have HB:=Lib.hid (show UpB w ((w.alloc (.cells Tryz.zeroCells119 119)).alloc (.cells Tryz.zeroCells119 119)) from ⟨below_two w _ _,(Blk.new w _ _).alloc _⟩)
 have HL:=Lib.hid hlv
 have HP:=Lib.hid hp
 clear hlv hp
 go_enter Tryz.func55,Tryz.ntmps55
 go_upto_region 2 with fail
 generalize (w.alloc (.cells Tryz.zeroCells119 119)).alloc (.cells Tryz.zeroCells119 119)=W at *
 go_wp2
 go_loopw [6] (fun x wr=>∃ i:Nat,i≤l.length∧x = .int .i64 i∧RowKit.Hid (OnX (onV (l.take i)) wr (w.heap.size+1))∧RowKit.Hid (UpB w wr∧∀ j (hj:j<l.length),j<i→l[j].1≤tick)) (fun x _=>l.length-(intOf x).toNat)
 case atStart=>exact ⟨0,Nat.zero_le _,rfl,HO,Lib.hid ⟨HB.out,fun j _ hj=>absurd hj (Nat.not_lt_zero j)⟩⟩
 clear HO HB
 obtain ⟨i,hi,rfl,hO,hB⟩:=hrel
 by_cases hil:i<l.length
 ·have hil2:(i:Int)<(l.length:Int):=by omega
  obtain ⟨b,o,c',ev,hbl,k0,k1,k2,k3,k4⟩:=(HL.out.later hB.out.1.b).evAt i hil
  cases ev
  obtain ⟨x,hx⟩:∃ x,l[i]=x:=⟨_,rfl⟩
  have HPX:=Lib.hid (show Placed x by rw [← hx];exact HP.out _ (List.getElem_mem hil))
  have HTK:=Lib.hid (show onV (l.take (i+1))=onS (onV (l.take i)) x by rw [onV_take hil,hx])
  rw [hx] at k0 k1 k2 k3 k4
  have HX:=Lib.hid hx
  clear hx
  by_cases htk:x.1≤tick
  ·have HTI:=Lib.hid (show ∀ j (hj:j<l.length),j<i+1→l[j].1≤tick from fun j hj hj2=>by
    by_cases e:j=i
    ·subst e;rw [HX.out];exact htk
    ·exact hB.out.2 j hj (by omega))
   obtain ⟨cs,hon,hbk⟩:=hO.out.ex
   have HON:=Lib.hid hon
   have HBK:=Lib.hid hbk
   clear hon hbk
   have HPUT:=fun (W2:World) (c2:Array Value) (hb:Below wr.drew.heap.size wr.drew W2) (ho:OnI (onS (onV (l.take i)) x) c2)=>show OnX (onV (l.take (i+1))) (W2.setCells (w.heap.size+1) 0 c2.toList) (w.heap.size+1) from ⟨c2,by rw [HTK.out];exact ho,on_put (HBK.out.below (W':=W2) (below_undrew hb)) HON.out.size ho.size⟩
   have HPB:=fun (W2:World) (c2:Array Value) (hb:Below wr.drew.heap.size wr.drew W2)=>show UpB w (W2.setCells (w.heap.size+1) 0 c2.toList) from hB.out.1.next hb _
   go_upto_region 5 with fail
   refine wp_region_still_tail 5 (by kernel_rfl) (by kernel_rfl) ?_
   simp only [List.take_succ_cons,List.take_zero,List.drop_succ_cons,List.drop_zero]
   refine still_load_on rfl _ rfl (w.heap.size+1) rfl (c:=cs) HBK.out HON.out.size ?_
   simp only [Act.put]
   repeat still_step
   refine wpStill_nil ?_
   change wpList _ _ _ _ _ (World.drew wr)
   go_wp2_with fail
   refine (after_any cs _ HON.out x HPX.out wr.drew).mono ?_
   rintro e w2 ⟨c2,rfl,hon2,hb2⟩
   rename ∀ (a:Act) (w:World),wpList _ _ _ _ a w→_=>hkk
   dsimp only
   refine hkk _ _ ?_
   clear hkk
   have HON2:=Lib.hid hon2
   have HB2:=Lib.hid hb2
   have HO2:=Lib.hid (HPUT _ _ hb2 hon2)
   have HW2:=Lib.hid (HPB _ c2 hb2)
   clear hon2 hb2 HPUT HPB k0 k1 k2 k3 k4
   refine wpList_store_mid rfl 119 _ _ rfl (w.heap.size+1) 0 c2 rfl rfl (on_there (HBK.out.below (below_undrew HB2.out)) (by rw [HON.out.size,HON2.out.size])) (onB_info HON2.out.size) HON2.out.one ?_
   refine wpList_nil ?_
   go_wp2
   go_roundw
   case rel=>exact ⟨i+1,by omega,by go_num,HO2,Lib.hid ⟨HW2.out,HTI.out⟩⟩
   case measure=>simp [intOf];omega
  ·have htk':decide (x.1≤tick)=false:=by rw [decide_eq_false_iff_not];exact htk
   have HU:=Lib.hid (show upN l tick=i from upN_is (by omega) hB.out.2 (fun _=>by rw [HX.out];exact htk))
   clear htk
   go_upto_region 6 with fail
   have HF:=Lib.hid (up_fin (g:=onV (l.take (upN l tick))) (by rw [HU.out]) hB.out.1 hO.out)
   obtain ⟨cs,hbk,hi,h1,hth,hfin,hres⟩:=HF.out
   clear k0 k1 k2 k3 k4
   refine wp_region_list ?_
   refine wpList_load_row rfl 119 _ rfl (w.heap.size+1) rfl 119 cs (0,0) _ hbk Tryz.underlying119 rfl hi ?_
   refine wpList_store_mid rfl 119 _ _ rfl w.heap.size 0 cs rfl rfl hth hi h1 ?_
   go_wp2
   exact bodyPost_ret (v:=.agg cs) (results_cell_row rfl _ _ w.heap.size 119 cs (0,0) _ rfl hfin Tryz.underlying119 rfl hi) rfl ⟨cs,rfl,hres⟩
 ·have hil2:¬ (i:Int)<(l.length:Int):=by omega
  have HU:=Lib.hid (show upN l tick=i from upN_is (by omega) hB.out.2 (fun h=>absurd h hil))
  go_upto_region 6 with fail
  have HF:=Lib.hid (up_fin (g:=onV (l.take (upN l tick))) (by rw [HU.out]) hB.out.1 hO.out)
  obtain ⟨cs,hbk,hi,h1,hth,hfin,hres⟩:=HF.out
  refine wp_region_list ?_
  refine wpList_load_row rfl 119 _ rfl (w.heap.size+1) rfl 119 cs (0,0) _ hbk Tryz.underlying119 rfl hi ?_
  refine wpList_store_mid rfl 119 _ _ rfl w.heap.size 0 cs rfl rfl hth hi h1 ?_
  go_wp2
  exact bodyPost_ret (v:=.agg cs) (results_cell_row rfl _ _ w.heap.size 119 cs (0,0) _ rfl hfin Tryz.underlying119 rfl hi) rfl ⟨cs,rfl,hres⟩
set_option maxRecDepth 100000 in
set_option maxHeartbeats 1600000 in
theorem value_key (cs:Array Value) (d n:Nat) (hd:d<6) (hn:n<128) (a v:Int) (b:Bool) (hb:cs[d * 128+n]?=some (.bool b)) (w:World) :
  Calls Tryz.prog 113 #[.agg cs,.agg #[.int .i64 a,.int .i64 1,.int .i64 d,.int .i64 n,.int .i64 v]] w fun e w'=>e = .returned (.int .i64 (if b then 1 else 0))∧Below w.heap.size w w':=by
 have HX:=Lib.hid (Blk.new (w.alloc (.cells cs 119)) 42 #[.int .i64 a,.int .i64 1,.int .i64 d,.int .i64 n,.int .i64 v])
 have HC:=Lib.hid ((Blk.new w 119 cs).alloc (.cells #[.int .i64 a,.int .i64 1,.int .i64 d,.int .i64 n,.int .i64 v] 42))
 have HB:=Lib.hid (below_two w (.cells cs 119) (.cells #[.int .i64 a,.int .i64 1,.int .i64 d,.int .i64 n,.int .i64 v] 42))
 rw [World.size_alloc] at HX
 go_enter Tryz.func113,Tryz.ntmps113
 go_upto_region 1 with fail
 generalize (w.alloc (.cells cs 119)).alloc (.cells #[.int .i64 a,.int .i64 1,.int .i64 d,.int .i64 n,.int .i64 v] 42)=W at *
 have k1:=HX.out.cell 1
 have k2:=HX.out.cell 2
 have k3:=HX.out.cell 3
 have hd2:(d:Int)<6:=by omega
 have hn2:(n:Int)<128:=by omega
 have c0:W.cell? ⟨w.heap.size,d * 128+n,none⟩=some (.bool b):=(HC.out.cell _).trans hb
 cases b
 all_goals
  go_wp2_with fail
  go_quiet (fail)
  go_wp2
  go_ret
  exact ⟨rfl,below_drewN HB.out _⟩
set_option maxRecDepth 100000 in
set_option maxHeartbeats 1600000 in
theorem value_stop (cs:Array Value) (n:Nat) (hn:n<80) (a v:Int) (b:Bool) (hb:cs[768+n]?=some (.bool b)) (w:World) :
  Calls Tryz.prog 113 #[.agg cs,.agg #[.int .i64 a,.int .i64 2,.int .i64 0,.int .i64 n,.int .i64 v]] w fun e w'=>e = .returned (.int .i64 (if b then 1 else 0))∧Below w.heap.size w w':=by
 have HX:=Lib.hid (Blk.new (w.alloc (.cells cs 119)) 42 #[.int .i64 a,.int .i64 2,.int .i64 0,.int .i64 n,.int .i64 v])
 have HC:=Lib.hid ((Blk.new w 119 cs).alloc (.cells #[.int .i64 a,.int .i64 2,.int .i64 0,.int .i64 n,.int .i64 v] 42))
 have HB:=Lib.hid (below_two w (.cells cs 119) (.cells #[.int .i64 a,.int .i64 2,.int .i64 0,.int .i64 n,.int .i64 v] 42))
 rw [World.size_alloc] at HX
 go_enter Tryz.func113,Tryz.ntmps113
 go_upto_region 1 with fail
 generalize (w.alloc (.cells cs 119)).alloc (.cells #[.int .i64 a,.int .i64 2,.int .i64 0,.int .i64 n,.int .i64 v] 42)=W at *
 have k1:=HX.out.cell 1
 have k2:=HX.out.cell 2
 have k3:=HX.out.cell 3
 have hn2:(n:Int)<80:=by omega
 have c0:W.cell? ⟨w.heap.size,768+n,none⟩=some (.bool b):=(HC.out.cell _).trans hb
 cases b
 all_goals
  go_wp2
  go_ret
  exact ⟨rfl,HB.out⟩
set_option maxRecDepth 100000 in
set_option maxHeartbeats 1600000 in
theorem value_coupler (cs:Array Value) (n:Nat) (hn:n<24) (a v:Int) (b:Bool) (hb:cs[848+n]?=some (.bool b)) (w:World) :
  Calls Tryz.prog 113 #[.agg cs,.agg #[.int .i64 a,.int .i64 3,.int .i64 0,.int .i64 n,.int .i64 v]] w fun e w'=>e = .returned (.int .i64 (if b then 1 else 0))∧Below w.heap.size w w':=by
 have HX:=Lib.hid (Blk.new (w.alloc (.cells cs 119)) 42 #[.int .i64 a,.int .i64 3,.int .i64 0,.int .i64 n,.int .i64 v])
 have HC:=Lib.hid ((Blk.new w 119 cs).alloc (.cells #[.int .i64 a,.int .i64 3,.int .i64 0,.int .i64 n,.int .i64 v] 42))
 have HB:=Lib.hid (below_two w (.cells cs 119) (.cells #[.int .i64 a,.int .i64 3,.int .i64 0,.int .i64 n,.int .i64 v] 42))
 rw [World.size_alloc] at HX
 go_enter Tryz.func113,Tryz.ntmps113
 go_upto_region 1 with fail
 generalize (w.alloc (.cells cs 119)).alloc (.cells #[.int .i64 a,.int .i64 3,.int .i64 0,.int .i64 n,.int .i64 v] 42)=W at *
 have k1:=HX.out.cell 1
 have k2:=HX.out.cell 2
 have k3:=HX.out.cell 3
 have hn2:(n:Int)<24:=by omega
 have c0:W.cell? ⟨w.heap.size,848+n,none⟩=some (.bool b):=(HC.out.cell _).trans hb
 cases b
 all_goals
  go_wp2
  go_ret
  exact ⟨rfl,HB.out⟩
set_option maxRecDepth 100000 in
set_option maxHeartbeats 1600000 in
theorem value_shade (cs:Array Value) (n:Nat) (hn:n<4) (a v u:Int) (hu:cs[872+n]?=some (.int .i64 u)) (w:World) :
  Calls Tryz.prog 113 #[.agg cs,.agg #[.int .i64 a,.int .i64 4,.int .i64 0,.int .i64 n,.int .i64 v]] w fun e w'=>e = .returned (.int .i64 u)∧Below w.heap.size w w':=by
 have HX:=Lib.hid (Blk.new (w.alloc (.cells cs 119)) 42 #[.int .i64 a,.int .i64 4,.int .i64 0,.int .i64 n,.int .i64 v])
 have HC:=Lib.hid ((Blk.new w 119 cs).alloc (.cells #[.int .i64 a,.int .i64 4,.int .i64 0,.int .i64 n,.int .i64 v] 42))
 have HB:=Lib.hid (below_two w (.cells cs 119) (.cells #[.int .i64 a,.int .i64 4,.int .i64 0,.int .i64 n,.int .i64 v] 42))
 rw [World.size_alloc] at HX
 go_enter Tryz.func113,Tryz.ntmps113
 go_upto_region 1 with fail
 generalize (w.alloc (.cells cs 119)).alloc (.cells #[.int .i64 a,.int .i64 4,.int .i64 0,.int .i64 n,.int .i64 v] 42)=W at *
 have k1:=HX.out.cell 1
 have k3:=HX.out.cell 3
 have hn2:(n:Int)<4:=by omega
 have c0:W.cell? ⟨w.heap.size,872+n,none⟩=some (.int .i64 u):=(HC.out.cell _).trans hu
 go_wp2
 go_ret
 exact ⟨rfl,HB.out⟩
theorem bin_cell {g:Th→Int} (h:Bin g) {t:Th} (ht:t.1≠4):(if decide (g t=1)=true then (1:Int) else 0)=g t:=by
 rcases h t ht with e | e
 ·rw [e];rfl
 ·rw [e];rfl
theorem value_any (cs:Array Value) (g:Th→Int) (h:OnI g cs) (hg:Bin g) (x:Ev) (hx:Placed x) (h5:x.2.1≠5) (w:World) :
  Calls Tryz.prog 113 #[.agg cs,evV x] w fun e w'=>e = .returned (.int .i64 (g (thing x)))∧Below w.heap.size w w':=by
 cases hx with
 | key a v d n hd hn hv =>
  refine (value_key cs d n hd hn a v _ (h.val _ _ (onIx_key hd hn)) w).mono ?_
  rintro e w' ⟨rfl,hb⟩
  exact ⟨by rw [bin_cell hg (by simp)];rfl,hb⟩
 | stop a v n hn hv =>
  refine (value_stop cs n hn a v _ (h.val _ _ (onIx_stop hn)) w).mono ?_
  rintro e w' ⟨rfl,hb⟩
  exact ⟨by rw [bin_cell hg (by simp)];rfl,hb⟩
 | coupler a v n hn hv =>
  refine (value_coupler cs n hn a v _ (h.val _ _ (onIx_coupler hn)) w).mono ?_
  rintro e w' ⟨rfl,hb⟩
  exact ⟨by rw [bin_cell hg (by simp)];rfl,hb⟩
 | shade a v n hn =>
  refine (value_shade cs n hn a v _ (h.val _ _ (onIx_shade hn)) w).mono ?_
  rintro e w' ⟨rfl,hb⟩
  exact ⟨rfl,hb⟩
 | mark=>exact absurd rfl h5
theorem evE_out {S:Sp} {a k d n v:Int} (h:k<1∨5<k):evE S (a,k,d,n,v)=2:=by
 unfold evE
 rw [if_pos (by simp only;omega)]
theorem evE_div {S:Sp} {a k d n v:Int} (h:k≠1) (hd:d≠0):evE S (a,k,d,n,v)=2:=by
 unfold evE
 rw [if_pos (by simp only;omega)]
theorem evE_mark0 {S:Sp} {a d n v:Int} (hv:v≠0):evE S (a,5,d,n,v)=2:=by
 unfold evE
 rw [if_pos (.inr (.inr (.inr ⟨rfl,hv⟩)))]
theorem evE_stop (S:Sp) (a n v:Int):evE S (a,2,0,n,v)=if 0≤n∧n<(S.ss.length:Int) then (if 0≤v∧v≤1 then 0 else 7) else 4:=by
 unfold evE there
 by_cases h:0≤n∧n<(S.ss.length:Int)
 ·by_cases hv:0≤v∧v≤1
  ·simp [h,hv]
  ·rw [if_pos h,if_neg hv,if_neg (by simp),if_neg (by simp [h]),if_pos (by right;right;right;simp only [show ((2:Int)=4)=False by simp,if_false];exact hv)]
 ·simp [h]
theorem evE_coupler (S:Sp) (a n v:Int):evE S (a,3,0,n,v)=if 0≤n∧n<(S.cs.length:Int) then (if 0≤v∧v≤1 then 0 else 7) else 4:=by
 unfold evE there
 by_cases h:0≤n∧n<(S.cs.length:Int)
 ·by_cases hv:0≤v∧v≤1
  ·simp [h,hv]
  ·rw [if_pos h,if_neg hv,if_neg (by simp),if_neg (by simp [h]),if_pos (by right;right;right;simp only [show ((3:Int)=4)=False by simp,if_false];exact hv)]
 ·simp [h]
theorem evE_shade (S:Sp) (a n v:Int):evE S (a,4,0,n,v)=if 0≤n∧n≤3∧0≤v∧v≤127 then 0 else 7:=by
 unfold evE there
 rw [if_neg (by simp),if_neg (by simp)]
 by_cases h:0≤n∧n≤3∧0≤v∧v≤127
 ·rw [if_pos h]
  simp [h]
 ·rw [if_neg h,if_pos]
  by_cases h1:0≤n∧n≤3
  ·exact .inr (.inr (.inr (fun q=>h ⟨h1.1,h1.2,q.1,by simpa using q.2⟩)))
  ·exact .inr (.inl ⟨rfl,h1⟩)
theorem evE_mark (S:Sp) (a n:Int):evE S (a,5,0,n,0)=if 0≤n∧n≤9999 then 0 else 7:=by
 unfold evE there
 rw [if_neg (by simp),if_neg (by simp)]
 by_cases h:0≤n∧n≤9999
 ·rw [if_pos h]
  simp [h]
 ·rw [if_neg h,if_pos (.inr (.inr (.inl ⟨rfl,h⟩)))]
theorem evE_key0 {S:Sp} {a d n v:Int} (h:¬ (0≤d∧d<(S.ds.length:Int))):evE S (a,1,d,n,v)=4:=by
 unfold evE there
 rw [if_neg (by simp),if_pos (by rw [if_pos rfl,decide_eq_false_iff_not];exact h)]
theorem evE_key (S:Sp) (a:Int) (d:Nat) (n v:Int) (hd:d<S.ds.length):evE S (a,1,(d:Int),n,v)=if S.ds[d].lo≤n∧n≤S.ds[d].hi∧0≤v∧v≤1 then 0 else 7:=by
 unfold evE there
 rw [if_neg (by simp),if_neg (by rw [if_pos rfl];simp only [decide_eq_false_iff_not];omega)]
 have hk:keyIn S (d:Int) n=decide (S.ds[d].lo≤n∧n≤S.ds[d].hi):=by unfold keyIn;rw [Int.toNat_natCast,List.getElem?_eq_getElem hd]
 simp only [hk,decide_eq_false_iff_not]
 by_cases h1:S.ds[d].lo≤n∧n≤S.ds[d].hi
 ·by_cases h2:0≤v∧v≤1
  ·simp [h1,h2]
  ·rw [if_pos (.inr (.inr (.inr (fun q=>h2 ⟨q.1,by simpa using q.2⟩)))),if_neg (fun q=>h2 ⟨q.2.2.1,q.2.2.2⟩)]
 ·rw [if_pos (.inl ⟨by trivial,h1⟩),if_neg (fun q=>h1 ⟨q.1,q.2.1⟩)]
end Go.Proofs.YthhfmppealmblaaGreatDoor
