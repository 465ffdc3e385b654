/-
  A part of the proof: AJ4, KD, SR, SP, CG.
-/
import Derived.Test.YthhfmppealmblaaGreatDoorK11
import Derived.Test.YthhfmppealmblaaGreatDoorN01
import Derived.RangeFuncWrites
import Derived.RangeFuncLeaves
import Derived.RangeFuncRecord
import Derived.Test.YthhfmppealmblaaGreatDoorN06
import Derived.Deep.QuietTactic
import Derived.BigQuiet
import Derived.Deep.RegionWith
import Derived.RegionTactic
import Derived.BigRegion
import Derived.Shelf.GgSortFunc.InsertionK
import Derived.Shelf.SlSortCmp.Insertion
import Derived.Laws.AppendOwn
import Derived.Test.YthhfmppealmblaaGreatDoorN11
import Derived.StillTailTactics
import Derived.Deep.RegionHeld3
import Derived.Test.YthhfmppealmblaaGreatDoorK07
import Derived.Test.YthhfmppealmblaaGreatDoorK12
namespace Go.Proofs.YthhfmppealmblaaGreatDoor
open Go.RowKit
def momQ (B:(Th→Int)→Pp→Bool) (l:List Ev) (p:Pp) (ms:List Nat):List (Int × Bool):=ms.map fun i=>((l.getD i ev0).1,B (onV (l.take (i+1))) p)
def wasB (B:(Th→Int)→Pp→Bool) (l:List Ev) (p:Pp) (ms:List Nat):Bool:=(((momQ B l p ms).getLast?).map (·.2)).getD false
theorem wasB_nil (B:(Th→Int)→Pp→Bool) (l:List Ev) (p:Pp):wasB B l p []=false:=rfl
theorem wasB_snoc (B:(Th→Int)→Pp→Bool) (l:List Ev) (p:Pp) (ms:List Nat) (i:Nat):wasB B l p (ms++[i])=B (onV (l.take (i+1))) p:=by
 unfold wasB momQ
 rw [List.map_append,List.map_cons,List.map_nil,List.getLast?_concat]
 rfl
structure ChS (B:(Th→Int)→Pp→Bool) (l:List Ev) (ms:List Nat) (was:List Pp) (out:List Cg):Prop where
 nodup:was.Nodup
 was:∀ p,p∈was ↔ wasB B l p ms=true
 out:∀ p,ofP p out=chP p false (momQ B l p ms)
theorem ChS.start (B:(Th→Int)→Pp→Bool) (l:List Ev):ChS B l [] [] [] :=
 ⟨List.nodup_nil,fun p=>by rw [wasB_nil];simp,fun p=>rfl⟩
def chgs (t d:Int) (L:List Pp):List Cg:=L.map fun x=>(t,x,d,0)
theorem ofP_chgs (t d:Int) (p:Pp):∀ {L:List Pp},L.Nodup→ofP p (chgs t d L)=if p∈L then [(t,p,d,0)] else []
 | [],_=>by rw [if_neg (by simp)];rfl
 | x :: L,h=>by
  obtain ⟨h1,h2⟩:=List.nodup_cons.1 h
  have ih:=ofP_chgs t d p h2
  unfold chgs ofP at *
  rw [List.map_cons,List.filter_cons]
  by_cases e:x=p
  ·subst e
   rw [if_pos (by simp),ih,if_neg h1,if_pos (by simp)]
  ·rw [if_neg (by simp only [decide_eq_true_iff];exact e),ih]
   by_cases q:p∈L
   ·rw [if_pos q,if_pos (List.mem_cons_of_mem _ q)]
   ·rw [if_neg q,if_neg (fun z=>by rcases List.mem_cons.1 z with z | z;exact e z.symm;exact q z)]
theorem chgs_snoc (t d:Int) (L:List Pp) (x:Pp):chgs t d (L++[x])=chgs t d L++[(t,x,d,0)]:=by unfold chgs;rw [List.map_append];rfl
theorem ChS.next {B:(Th→Int)→Pp→Bool} {l:List Ev} {ms:List Nat} {was now offs ons:List Pp} {out:List Cg} (h:ChS B l ms was out) {i:Nat} (hi:i<l.length) {t:Int} (ht:l[i].1=t)
  (hn:now.Nodup) (hnow:∀ p,p∈now ↔ B (onV (l.take (i+1))) p=true) (h1:offs.Nodup) (h2:∀ p,p∈offs ↔ p∈was∧p ∉ now) (h3:ons.Nodup) (h4:∀ p,p∈ons ↔ p∈now∧p ∉ was) :
  ChS B l (ms++[i]) now (out++chgs t (-1) offs++chgs t 1 ons):=by
 refine ⟨hn,fun p=>by rw [wasB_snoc];exact hnow p,fun p=>?_⟩
 rw [ofP_append,ofP_append,h.out p,ofP_chgs t (-1) p h1,ofP_chgs t 1 p h3]
 have e:momQ B l p (ms++[i])=momQ B l p ms++[(t,B (onV (l.take (i+1))) p)]:=by
  unfold momQ
  rw [List.map_append,List.map_cons,List.map_nil,getD_at hi,ht]
 rw [e,chP_snoc]
 have ew:(((momQ B l p ms).getLast?).map (·.2)).getD false=wasB B l p ms:=rfl
 rw [ew,List.append_assoc]
 congr 1
 have hw:=h.was p
 have hw2:=hnow p
 have ho:=h2 p
 have hs:=h4 p
 obtain ⟨b,hb⟩:∃ b,B (onV (l.take (i+1))) p=b:=⟨_,rfl⟩
 obtain ⟨c,hc⟩:∃ c,wasB B l p ms=c:=⟨_,rfl⟩
 rw [hb] at hw2 ⊢
 rw [hc] at hw ⊢
 cases b with
 | true =>
  have n1:p∈now:=hw2.2 rfl
  cases c with
  | true =>
   have n2:p∈was:=hw.2 rfl
   rw [if_neg (fun z=>(ho.1 z).2 n1),if_neg (fun z=>(hs.1 z).2 n2),if_pos rfl];rfl
  | false =>
   have n2:p ∉ was:=fun z=>by have:=hw.1 z;cases this
   rw [if_neg (fun z=>(ho.1 z).2 n1),if_pos (hs.2 ⟨n1,n2⟩),if_neg (by decide)];rfl
 | false =>
  have n1:p ∉ now:=fun z=>by have:=hw2.1 z;cases this
  cases c with
  | true =>
   have n2:p∈was:=hw.2 rfl
   rw [if_pos (ho.2 ⟨n2,n1⟩),if_neg (fun z=>n1 (hs.1 z).1),if_neg (by decide)];rfl
  | false =>
   have n2:p ∉ was:=fun z=>by have:=hw.1 z;cases this
   rw [if_neg (fun z=>n2 (ho.1 z).1),if_neg (fun z=>n1 (hs.1 z).1),if_pos rfl];rfl
theorem ChS.end {B:(Th→Int)→Pp→Bool} {l:List Ev} {was:List Pp} {out:List Cg} (h:ChS B l (momI l l.length) was out):ChgOf B l out:=h.out
end Go.Proofs.YthhfmppealmblaaGreatDoor
namespace Go.Proofs.YthhfmppealmblaaGreatDoor
open Go.RowKit
def marks (Ds:List Nat):List Deferred:=Ds.map fun D=>{ target:=.collected D,args:=#[] }
structure MarksOk (B:Nat) (Ds:List Nat) (W:World):Prop where
 nodup:Ds.Nodup
 at':∀ D∈Ds,B≤D∧W.heap[D]?=some (.deferred (some []))
def cleared:World→List Nat→World
 | W,[]=>W
 | W,D :: Ds=>cleared (W.putObj D (.deferred none)) Ds
variable {F : Fence} {n : Nat} {P : Program}
theorem leaves_marks {fn:Func} {tmps:Array Value} {R:Ending→World→Prop} {B:Nat}:∀ (Ds:List Nat) (W:World),MarksOk B Ds W→LeavesIn F n P fn tmps R [] .returning (cleared W Ds)→LeavesInM F n P fn tmps R (marks Ds) .returning W
 | [],W,_,h=>h
 | D :: Ds,W,hm,h=>by
  refine ⟨by simp,.inl ⟨D,_,rfl,run_takeDeferred (hm.at' D (by simp)).2,?_⟩⟩
  obtain ⟨h1,h2⟩:=List.nodup_cons.1 hm.nodup
  exact leaves_marks Ds _ ⟨h2,fun E hE=>⟨(hm.at' E (by simp [hE])).1,(World.putObj_heap_other (fun e=>h1 (by rw [← e];exact hE))).trans (hm.at' E (by simp [hE])).2⟩⟩ h
def cmpI (a b:Int):Int:=if a<b then -1 else if b<a then 1 else 0
def orI:List Int→Int
 | []=>0
 | x :: l=>if x=0 then orI l else x
theorem orI_skip:∀ {l:List Int} (k:Nat),(∀ x∈l.take k,x=0)→orI l=orI (l.drop k)
 | [],k,_=>by rw [List.drop_nil]
 | x :: l,0,_=>rfl
 | x :: l,k+1,h=>by
  rw [orI,if_pos (h x (by simp)),List.drop_succ_cons]
  exact orI_skip k fun y hy=>h y (by simp [hy])
theorem orI_at {l:List Int} {k:Nat} (hk:k<l.length) (hz:∀ x∈l.take k,x=0) (h:l[k]≠0):orI l=l[k]:=by
 rw [orI_skip k hz,List.drop_eq_getElem_cons hk,orI,if_neg h]
theorem orI_no {l:List Int} (hz:∀ x∈l.take l.length,x=0):orI l=0:=by
 rw [orI_skip l.length hz,List.drop_length];rfl
theorem zeros_next {l:List Int} {k:Nat} (hk:k<l.length) (hz:∀ x∈l.take k,x=0) (h:l[k]=0):∀ x∈l.take (k+1),x=0:=by
 intro x hx
 rw [List.take_succ_eq_append_getElem hk,List.mem_append,List.mem_singleton] at hx
 rcases hx with hx | rfl
 ·exact hz x hx
 ·exact h
set_option maxHeartbeats 400000 in
theorem nan_any (x:Int) (W:World):Calls Tryz.prog 106 #[.int .i64 x] W fun e w'=>e = .returned (.bool false)∧w'=W:=by
 have hx:(x==x)=true:=by simp
 go_enter Tryz.func106,Tryz.ntmps106
 go_wp2
 go_ret
 exact ⟨rfl,rfl⟩
set_option maxHeartbeats 800000 in
theorem compare_any (a b:Int) (W:World):Calls Tryz.prog 72 #[.int .i64 a,.int .i64 b] W fun e w'=>e = .returned (.int .i64 (cmpI a b))∧w'=W:=by
 rcases Int.lt_trichotomy a b with h | h | h
 ·have HC:=Lib.hid (show cmpI a b = -1 from if_pos h)
  go_enter Tryz.func72,Tryz.ntmps72
  go_wp2_with (go_at_call 106;refine (nan_any _ _).mono ?_;rintro e w' ⟨rfl,rfl⟩)
  go_ret
  exact ⟨by rw [HC.out];rfl,rfl⟩
 ·have HC:=Lib.hid (show cmpI a b=0 from by unfold cmpI;rw [if_neg (by omega),if_neg (by omega)])
  have h1:¬ a<b:=by omega
  have h2:¬ b<a:=by omega
  go_enter Tryz.func72,Tryz.ntmps72
  go_wp2_with (go_at_call 106;refine (nan_any _ _).mono ?_;rintro e w' ⟨rfl,rfl⟩)
  go_ret
  exact ⟨by rw [HC.out];rfl,rfl⟩
 ·have HC:=Lib.hid (show cmpI a b=1 from by unfold cmpI;rw [if_neg (by omega),if_pos h])
  have h1:¬ a<b:=by omega
  go_enter Tryz.func72,Tryz.ntmps72
  go_wp2_with (go_at_call 106;refine (nan_any _ _).mono ?_;rintro e w' ⟨rfl,rfl⟩)
  go_ret
  exact ⟨by rw [HC.out];rfl,rfl⟩
set_option maxHeartbeats 1600000 in
theorem or_any (l:List Int) (v:Value) (w:World) (hl:l.length≤1000000) (hv:ARd w v 1 (l.map iC)) :
  Calls Tryz.prog 71 #[v] w fun e w'=>e = .returned (.int .i64 (orI l))∧w'=w:=by
 obtain ⟨a,c,ev⟩:=hv.intForm
 subst ev
 go_enter Tryz.func71,Tryz.ntmps71
 go_wp2
 go_loopw [8] (fun y wr=>∃ k:Nat,k≤l.length∧y = .int .i64 k∧RowKit.Hid (∀ x∈l.take k,x=0)∧wr=w) (fun y _=>l.length-(intOf y).toNat)
 case atStart=>exact ⟨0,Nat.zero_le _,rfl,Lib.hid (by simp),rfl⟩
 obtain ⟨k,hk,rfl,hN,rfl⟩:=hrel
 by_cases hlt:k<l.length
 ·obtain ⟨b,o,c',ev',hbl,q0⟩:=hv.intAt k hlt
  cases ev'
  have hk2:(k:Int)<(l.length:Int):=by omega
  by_cases he:l[k]=0
  ·have HE:=Lib.hid (zeros_next hlt hN.out he)
   rw [he] at q0
   clear he
   go_wp2
   go_roundw
   case rel=>exact ⟨k+1,by omega,by go_num,HE,trivial⟩
   case measure=>simp [intOf];omega
  ·have he2:(l[k]==0)=false:=by simpa using he
   have HE:=Lib.hid (orI_at hlt hN.out he)
   clear he
   go_wp2
   go_ret
   exact ⟨by rw [HE.out];rfl,rfl⟩
 ·have hk2:¬ ((k:Int)<(l.length:Int)):=by omega
  have hke:k=l.length:=by omega
  have HE:=Lib.hid (orI_no (l:=l) (by rw [← hke];exact hN.out))
  clear hke
  go_wp2
  go_ret
  exact ⟨by rw [HE.out];rfl,rfl⟩
end Go.Proofs.YthhfmppealmblaaGreatDoor
namespace Go.Proofs.YthhfmppealmblaaGreatDoor
open Go.RowKit
section
variable {α : Type} [Inhabited α]
theorem flatK_at {enc:α→List Value} {k:Nat} (hk:∀ x,(enc x).length=k):∀ (l:List α) (t:Nat),t<l.length * k→((l.map enc).flatten)[t]?=some (enc l[t / k]!)[t % k]!
 | [],t,h=>by simp at h
 | a :: l,t,h=>by
  have ha:=hk a
  rw [List.map_cons,List.flatten_cons]
  by_cases hlt:t<k
  ·rw [List.getElem?_append_left (by omega),Nat.div_eq_of_lt hlt,Nat.mod_eq_of_lt hlt,List.getElem?_eq_getElem (by omega)]
   simp [List.getElem!_eq_getElem?_getD,List.getElem?_eq_getElem (show t<(enc a).length by omega)]
  ·have k0:0<k:=by
    rcases Nat.eq_zero_or_pos k with h0 | h0
    ·subst h0;simp at h
    ·exact h0
   rw [List.getElem?_append_right (by omega),ha,flatK_at hk l (t-k) (by rw [List.length_cons,Nat.add_mul] at h;omega)]
   have e1:t / k=(t-k) / k+1:=by
    rw [← Nat.add_div_right _ k0];congr 1;omega
   have e2:t % k=(t-k) % k:=by
    rw [Nat.mod_eq_sub_mod (by omega)]
   rw [e1,e2]
   simp
theorem flatK_list {enc:α→List Value} {k:Nat} (hk:∀ x,(enc x).length=k) (d:Array α):(Sort.flatK enc k d).toList=(d.toList.map enc).flatten:=by
 apply List.ext_getElem?
 intro t
 have hl:((d.toList.map enc).flatten).length=d.size * k:=by
  have:∀ l:List α,((l.map enc).flatten).length=l.length * k:=by
   intro l
   induction l with
   | nil=>simp
   | cons a l ih=>rw [List.map_cons,List.flatten_cons,List.length_append,hk,ih,List.length_cons,Nat.add_mul];omega
  rw [this,Array.length_toList]
 by_cases h:t<d.size * k
 ·rw [flatK_at hk d.toList t (by rw [Array.length_toList];exact h),Array.getElem?_toList,Array.getElem?_eq_getElem (by rw [Sort.size_flatK];exact h)]
  have:=Sort.get_flatK enc k d t h
  rw [getElem!_pos _ t (by rw [Sort.size_flatK];exact h)] at this
  rw [this,show d.toList[t / k]! = d[t / k]! by simp [List.getElem!_eq_getElem?_getD,Array.getElem!_eq_getD,Array.getD_eq_getD_getElem?]]
 ·rw [List.getElem?_eq_none (by rw [Array.length_toList,Sort.size_flatK];omega),List.getElem?_eq_none (by rw [hl];omega)]
theorem holdsK_row {W:World} {base g:Nat} {t:TypeId} {k n cap:Nat} {enc:α→List Value} (hk:∀ x,(enc x).length=k) {d:Array α} (h:W.ownsRow base t k (.slice (some ⟨g,0,none⟩) n cap) d.size (d.toList.map enc).flatten):Sort.HoldsK enc k W g 0 d∧g<W.heap.size:=by
 obtain ⟨hl,⟨e,_⟩ | ⟨g',cap',cur,e,_,hg,hn,_,hz,hx⟩⟩:=h
 ·cases e
 ·cases e
  refine ⟨fun j hj=>?_,(Array.getElem?_eq_some_iff.1 hg).1⟩
  rw [Sort.size_flatK] at hj
  have hjc:j<cur.size:=by
   have:d.size * k≤cap * k:=Nat.mul_le_mul_right k hn
   omega
  have hj2:(Sort.flatK enc k d)[j]?=cur[j]?:=by
   rw [← Array.getElem?_toList,flatK_list hk,← hx,List.getElem?_take,if_pos hj,Array.getElem?_toList]
  constructor
  ·simp only [World.cell?,hg,Nat.zero_add]
   show cur[j]?=_
   rw [← hj2,Array.getElem?_eq_getElem (by rw [Sort.size_flatK];exact hj),getElem!_pos _ j (by rw [Sort.size_flatK];exact hj)]
   rfl
  ·simp only [World.frozen?,hg]
   rfl
theorem sorted_heap {enc:α→List Value} {k:Nat} {W:World} {g n:Nat} {d:Array α} {os:Array Obj} {cur:Array Value} {e:TypeId} {fr:Nat × Nat} (h:W.heap[g]?=some (.cells cur e fr)) :
  (sortWorldK enc k W g 0 n d os).heap[g]?=some (.cells (Sort.putCells id 0 (Sort.flatK enc k d) cur) e fr):=by
 have hlt:=(Array.getElem?_eq_some_iff.1 h).1
 show (((Sort.mapBlock (Sort.ahead W n) g _).heap)++os)[g]?=_
 rw [Array.getElem?_append_left (by simpa [Sort.mapBlock] using hlt)]
 show ((Sort.ahead W n).heap.modify g _)[g]?=_
 rw [Array.getElem?_modify,if_pos rfl]
 show Option.map _ (W.heap[g]?)=_
 simp only [h,Option.map_some]
 rfl
theorem sorted_grown {enc:α→List Value} {k:Nat} {W:World} {g n:Nat} {d:Array α} {os:Array Obj}:W.grownBy (sortWorldK enc k W g 0 n d os) (some g) where
 os:=rfl
 tape:=rfl
 output:=rfl
 size:=by
  show W.heap.size≤(((Sort.ahead W n).heap.modify g _)++os).size
  rw [Array.size_append,Array.size_modify]
  exact Nat.le_add_right _ _
 block i hi hne:=by
  show (((Sort.ahead W n).heap.modify g _)++os)[i]?=W.heap[i]?
  rw [Array.getElem?_append_left (by rw [Array.size_modify];exact hi),Array.getElem?_modify,if_neg (fun e=>hne (by rw [e]))]
  rfl
theorem sorted_row {W:World} {base g:Nat} {t:TypeId} {k m cap n:Nat} {enc:α→List Value} (hk:∀ x,(enc x).length=k) {d d':Array α} {os:Array Obj} (hs:d'.size=d.size) (h:W.ownsRow base t k (.slice (some ⟨g,0,none⟩) m cap) d.size (d.toList.map enc).flatten) :
  (sortWorldK enc k W g 0 n d' os).ownsRow base t k (.slice (some ⟨g,0,none⟩) m cap) d'.size (d'.toList.map enc).flatten:=by
 obtain ⟨hl,⟨e,_⟩ | ⟨g',cap',cur,e,hbg,hg,hn,hmx,hz,hx⟩⟩:=h
 ·cases e
 ·cases e
  have hle:d'.size * k≤cur.size:=by rw [hz,hs];exact Nat.mul_le_mul_right k hn
  refine ⟨?_,.inr ⟨g,cap,_,by rw [hs],hbg,sorted_heap hg,by rw [hs];exact hn,hmx,by simp [Sort.putCells,hz],?_⟩⟩
  ·rw [← flatK_list hk,Array.length_toList,Sort.size_flatK]
  ·rw [← flatK_list hk]
   apply List.ext_getElem?
   intro t
   rw [List.getElem?_take,Array.getElem?_toList,Array.getElem?_toList]
   by_cases ht:t<d'.size * k
   ·rw [if_pos ht]
    simp only [Sort.putCells,Array.getElem?_mapIdx]
    rw [Array.getElem?_eq_getElem (by omega),Option.map_some,if_pos ⟨Nat.zero_le _,by rw [Sort.size_flatK];omega⟩,Nat.sub_zero,getElem!_pos _ t (by rw [Sort.size_flatK];exact ht),Array.getElem?_eq_getElem (by rw [Sort.size_flatK];exact ht)]
    rfl
   ·rw [if_neg ht,Array.getElem?_eq_none (by rw [Sort.size_flatK];omega)]
end
theorem ARd.of_blkI {W:World} {B:Nat} {t:TypeId} {cs:Array Value} (h:Blk W B t cs) {l:List Int} (hcs:cs.toList=iCs l) (n c:Nat) (hn:n=l.length):ARd W (.slice (some ⟨B,0,none⟩) n c) 1 (l.map iC):=by
 subst hn
 refine ⟨_,_,by rw [List.length_map],fun i hi=>⟨B,0,rfl,h.lt,fun j u hj=>?_⟩⟩
 rw [List.getElem_map] at hj
 have hi':i<l.length:=by simpa using hi
 have hj0:j=0:=by
  have:=(List.getElem?_eq_some_iff.1 hj).1
  simpa [iC] using this
 subst hj0
 have e:cs[i]?=some (.int .i64 l[i]):=by
  rw [← Array.getElem?_toList,hcs,iCs,List.getElem?_map,List.getElem?_eq_getElem hi'];rfl
 rw [Nat.zero_add,h.cell,Nat.mul_one,Nat.add_zero,e]
 exact hj
def Grw (W W':World):Prop:=∃ q os,W'=Sort.grow (W.drewN q) os
theorem Grw.refl (W:World):Grw W W:=⟨0,#[],by rw [Sort.grow_empty];rfl⟩
theorem Grw.alloc {W W':World} (h:Grw W W') (o:Obj):Grw W (W'.alloc o):=by
 obtain ⟨q,os,rfl⟩:=h
 exact ⟨q,os ++ #[o],by rw [Sort.alloc_eq_grow,Sort.grow_grow]⟩
theorem Grw.drew {W W':World} (h:Grw W W'):Grw W W'.drew:=by
 obtain ⟨q,os,rfl⟩:=h
 exact ⟨q+1,os,rfl⟩
theorem Grw.trans {A B C:World} (h:Grw A B) (k:Grw B C):Grw A C:=by
 obtain ⟨q,os,rfl⟩:=h
 obtain ⟨r,os',rfl⟩:=k
 refine ⟨q+r,os++os',?_⟩
 rw [← Sort.grow_grow]
 simp only [World.drewN,Sort.grow,Nat.add_assoc]
theorem Grw.below {W W':World} (h:Grw W W'):Below W.heap.size W W':=by
 obtain ⟨q,os,rfl⟩:=h
 refine ⟨rfl,rfl,rfl,?_,fun i hi=>?_⟩
 ·show W.heap.size≤(W.heap++os).size
  rw [Array.size_append];omega
 ·show (W.heap++os)[i]?=_
  exact Array.getElem?_append_left hi
theorem holdG {W0 W w':World} {a0:Addr} {u0:Value} {a1:Addr} {u1:Value} {a2:Addr} {u2:Value} {a3:Addr} {u3:Value} {a4:Addr} {u4:Value} {a5:Addr} {u5:Value} (h:Grw W0 W∧W.cell? a0=some u0∧W.cell? a1=some u1∧W.cell? a2=some u2∧W.cell? a3=some u3∧W.cell? a4=some u4∧W.cell? a5=some u5) (g:Grw W w') :
  Grw W0 w'∧w'.cell? a0=some u0∧w'.cell? a1=some u1∧w'.cell? a2=some u2∧w'.cell? a3=some u3∧w'.cell? a4=some u4∧w'.cell? a5=some u5:=by
 obtain ⟨hB,h0,h1,h2,h3,h4,h5⟩:=h
 have hb:=g.below
 exact ⟨hB.trans g,(hb.cell (cell_size h0)).trans h0,(hb.cell (cell_size h1)).trans h1,(hb.cell (cell_size h2)).trans h2,(hb.cell (cell_size h3)).trans h3,(hb.cell (cell_size h4)).trans h4,(hb.cell (cell_size h5)).trans h5⟩
theorem holdGa {W0 W:World} {a0:Addr} {u0:Value} {a1:Addr} {u1:Value} {a2:Addr} {u2:Value} {a3:Addr} {u3:Value} {a4:Addr} {u4:Value} {a5:Addr} {u5:Value} (h:Grw W0 W∧W.cell? a0=some u0∧W.cell? a1=some u1∧W.cell? a2=some u2∧W.cell? a3=some u3∧W.cell? a4=some u4∧W.cell? a5=some u5) (o:Obj) :
  Grw W0 (W.alloc o)∧(W.alloc o).cell? a0=some u0∧(W.alloc o).cell? a1=some u1∧(W.alloc o).cell? a2=some u2∧(W.alloc o).cell? a3=some u3∧(W.alloc o).cell? a4=some u4∧(W.alloc o).cell? a5=some u5:=holdG h ((Grw.refl W).alloc o)
end Go.Proofs.YthhfmppealmblaaGreatDoor
namespace Go.Proofs.YthhfmppealmblaaGreatDoor
open Go.RowKit
set_option maxHeartbeats 400000 in
theorem nani_any (x:Int) (W:World):Calls Tryz.prog 129 #[.int .i64 x] W fun e w'=>e = .returned (.bool false)∧w'=W:=by
 have hx:(x==x)=true:=by simp
 go_enter Tryz.func129,Tryz.ntmps129
 go_wp2
 go_ret
 exact ⟨rfl,rfl⟩
set_option maxHeartbeats 800000 in
theorem comparei_any (a b:Int) (W:World):Calls Tryz.prog 88 #[.int .i64 a,.int .i64 b] W fun e w'=>e = .returned (.int .i64 (cmpI a b))∧w'=W:=by
 rcases Int.lt_trichotomy a b with h | h | h
 ·have HC:=Lib.hid (show cmpI a b = -1 from if_pos h)
  go_enter Tryz.func88,Tryz.ntmps88
  go_wp2_with (go_at_call 129;refine (nani_any _ _).mono ?_;rintro e w' ⟨rfl,rfl⟩)
  go_ret
  exact ⟨by rw [HC.out];rfl,rfl⟩
 ·have HC:=Lib.hid (show cmpI a b=0 from by unfold cmpI;rw [if_neg (by omega),if_neg (by omega)])
  have h1:¬ a<b:=by omega
  have h2:¬ b<a:=by omega
  go_enter Tryz.func88,Tryz.ntmps88
  go_wp2_with (go_at_call 129;refine (nani_any _ _).mono ?_;rintro e w' ⟨rfl,rfl⟩)
  go_ret
  exact ⟨by rw [HC.out];rfl,rfl⟩
 ·have HC:=Lib.hid (show cmpI a b=1 from by unfold cmpI;rw [if_neg (by omega),if_pos h])
  have h1:¬ a<b:=by omega
  go_enter Tryz.func88,Tryz.ntmps88
  go_wp2_with (go_at_call 129;refine (nani_any _ _).mono ?_;rintro e w' ⟨rfl,rfl⟩)
  go_ret
  exact ⟨by rw [HC.out];rfl,rfl⟩
def cfI (a1 a2 b1 b2:Int):Int:=orI [cmpI a1 b1,cmpI a2 b2]
set_option maxRecDepth 100000 in
set_option maxHeartbeats 3200000 in
theorem pipes_any (a1 a2 b1 b2:Int) (W:World):Calls Tryz.prog 59 #[.agg #[.int .i64 a1,.int .i64 a2],.agg #[.int .i64 b1,.int .i64 b2]] W fun e w'=>e = .returned (.int .i64 (cfI a1 a2 b1 b2))∧Grw W w':=by
 have HB:=Lib.hid (show cfI a1 a2 b1 b2=orI [cmpI a1 b1,cmpI a2 b2] from rfl)
 have m1:=((Blk.new W 45 #[.int .i64 a1,.int .i64 a2]).alloc (.cells #[.int .i64 b1,.int .i64 b2] 45))
 have m2:=Blk.new (W.alloc (.cells #[.int .i64 a1,.int .i64 a2] 45)) 45 #[.int .i64 b1,.int .i64 b2]
 rw [World.size_alloc] at m2
 have M1:=Lib.hid m1
 have M2:=Lib.hid m2
 have HG:=Lib.hid (((Grw.refl W).alloc (.cells #[.int .i64 a1,.int .i64 a2] 45)).alloc (.cells #[.int .i64 b1,.int .i64 b2] 45))
 clear m1 m2
 go_enter Tryz.func59,Tryz.ntmps59
 go_wp2_with fail
 obtain ⟨W2,hW2⟩:∃ W2,(W.alloc (.cells #[.int .i64 a1,.int .i64 a2] 45)).alloc (.cells #[.int .i64 b1,.int .i64 b2] 45)=W2:=⟨_,rfl⟩
 rw [hW2] at M1 M2 HG ⊢
 have x0:W2.cell? ⟨W.heap.size,0,none⟩=some (.int .i64 a1):=M1.out.cell 0
 have x1:W2.cell? ⟨W.heap.size,1,none⟩=some (.int .i64 a2):=M1.out.cell 1
 have z0:W2.cell? ⟨W.heap.size+1,0,none⟩=some (.int .i64 b1):=M2.out.cell 0
 have z1:W2.cell? ⟨W.heap.size+1,1,none⟩=some (.int .i64 b2):=M2.out.cell 1
 clear hW2 M1 M2
 go_still_tail 10,(by kernel_rfl)
 still_call (comparei_any a1 b1 _)
 repeat still_step
 still_call (comparei_any a2 b2 _)
 repeat still_step
 refine wpStill_nil ?_
 change wpList _ _ _ _ _ W2.drew
 have HG3:=Lib.hid HG.out.drew
 obtain ⟨W3,hW3⟩:∃ W3,W2.drew=W3:=⟨_,rfl⟩
 rw [hW3] at HG3 ⊢
 clear hW3 x0 x1 z0 z1
 go_wp2_with (go_at_call 71;refine (or_any [cmpI a1 b1,cmpI a2 b2] _ _ (by simp) (ARd.of_blkI (Blk.new _ 3 _) rfl _ _ rfl)).mono ?_;rintro e w' ⟨rfl,rfl⟩)
 go_ret
 exact ⟨by rw [HB.out];rfl,HG3.out.alloc _⟩
def cfC5 (a0 a1 a2 b0 b1 b2:Int):Int:=orI [cfI a1 a2 b1 b2,cmpI a0 b0]
set_option maxRecDepth 100000 in
set_option maxHeartbeats 6400000 in
theorem beforeC_any (a0 a1 a2 a3 a4 b0 b1 b2 b3 b4:Int) (W:World):Calls Tryz.prog 70 #[.agg #[.int .i64 a0,.int .i64 a1,.int .i64 a2,.int .i64 a3,.int .i64 a4],.agg #[.int .i64 b0,.int .i64 b1,.int .i64 b2,.int .i64 b3,.int .i64 b4]] W fun e w'=>e = .returned (.int .i64 (cfC5 a0 a1 a2 b0 b1 b2))∧Grw W w':=by
 have HB:=Lib.hid (show cfC5 a0 a1 a2 b0 b1 b2=orI [cfI a1 a2 b1 b2,cmpI a0 b0] from rfl)
 have m1:=((Blk.new W 91 #[.int .i64 a0,.int .i64 a1,.int .i64 a2,.int .i64 a3,.int .i64 a4]).alloc (.cells #[.int .i64 b0,.int .i64 b1,.int .i64 b2,.int .i64 b3,.int .i64 b4] 91))
 have m2:=Blk.new (W.alloc (.cells #[.int .i64 a0,.int .i64 a1,.int .i64 a2,.int .i64 a3,.int .i64 a4] 91)) 91 #[.int .i64 b0,.int .i64 b1,.int .i64 b2,.int .i64 b3,.int .i64 b4]
 rw [World.size_alloc] at m2
 have M1:=Lib.hid m1
 have M2:=Lib.hid m2
 have HG:=Lib.hid (((Grw.refl W).alloc (.cells #[.int .i64 a0,.int .i64 a1,.int .i64 a2,.int .i64 a3,.int .i64 a4] 91)).alloc (.cells #[.int .i64 b0,.int .i64 b1,.int .i64 b2,.int .i64 b3,.int .i64 b4] 91))
 clear m1 m2
 go_enter Tryz.func70,Tryz.ntmps70
 go_wp2_with fail
 obtain ⟨W2,hW2⟩:∃ W2,(W.alloc (.cells #[.int .i64 a0,.int .i64 a1,.int .i64 a2,.int .i64 a3,.int .i64 a4] 91)).alloc (.cells #[.int .i64 b0,.int .i64 b1,.int .i64 b2,.int .i64 b3,.int .i64 b4] 91)=W2:=⟨_,rfl⟩
 rw [hW2] at M1 M2 HG ⊢
 have x0:W2.cell? ⟨W.heap.size,0,none⟩=some (.int .i64 a0):=M1.out.cell 0
 have z0:W2.cell? ⟨W.heap.size+1,0,none⟩=some (.int .i64 b0):=M2.out.cell 0
 have x1:W2.cell? ⟨W.heap.size,1,none⟩=some (.int .i64 a1):=M1.out.cell 1
 have z1:W2.cell? ⟨W.heap.size+1,1,none⟩=some (.int .i64 b1):=M2.out.cell 1
 have x2:W2.cell? ⟨W.heap.size,2,none⟩=some (.int .i64 a2):=M1.out.cell 2
 have z2:W2.cell? ⟨W.heap.size+1,2,none⟩=some (.int .i64 b2):=M2.out.cell 2
 have hdr:=holdG (W0:=W2) ⟨Grw.refl W2,x0,x1,x2,z0,z1,z2⟩ (Grw.refl W2).drew
 clear hW2 M1 M2
 go_region_held3 (fun w'=>Grw W2 w'∧w'.cell? ⟨W.heap.size,0,none⟩=some (.int .i64 a0)∧w'.cell? ⟨W.heap.size,1,none⟩=some (.int .i64 a1)∧w'.cell? ⟨W.heap.size,2,none⟩=some (.int .i64 a2)∧w'.cell? ⟨W.heap.size+1,0,none⟩=some (.int .i64 b0)∧w'.cell? ⟨W.heap.size+1,1,none⟩=some (.int .i64 b1)∧w'.cell? ⟨W.heap.size+1,2,none⟩=some (.int .i64 b2)) (first | exact hdr | assumption | exact holdGa (by assumption) _) (first | (go_at_call 59;(with_reducible refine (pipes_any a1 a2 b1 b2 _).mono ?_);rintro e w5 ⟨rfl,hg5⟩;have hn:=holdG hdr hg5;clear hg5) | (go_at_call 72;(with_reducible refine (compare_any a0 b0 _).mono ?_);rintro e w6 ⟨rfl,rfl⟩) | (go_at_call 71;refine (or_any [cfI a1 a2 b1 b2,cmpI a0 b0] _ _ (by simp) (ARd.of_blkI (Blk.new _ 3 _) rfl _ _ rfl)).mono ?_;rintro e w7 ⟨rfl,rfl⟩))
 all_goals (go_wp2;go_ret;exact ⟨by rw [HB.out];rfl,HG.out.trans (hn.1.alloc _)⟩)
def cfF5 (a1 a2 a3 b1 b2 b3:Int):Int:=orI [cmpI a3 b3,cfI a1 a2 b1 b2]
set_option maxRecDepth 100000 in
set_option maxHeartbeats 6400000 in
theorem beforeF_any (a0 a1 a2 a3 a4 b0 b1 b2 b3 b4:Int) (W:World):Calls Tryz.prog 74 #[.agg #[.int .i64 a0,.int .i64 a1,.int .i64 a2,.int .i64 a3,.int .i64 a4],.agg #[.int .i64 b0,.int .i64 b1,.int .i64 b2,.int .i64 b3,.int .i64 b4]] W fun e w'=>e = .returned (.int .i64 (cfF5 a1 a2 a3 b1 b2 b3))∧Grw W w':=by
 have HB:=Lib.hid (show cfF5 a1 a2 a3 b1 b2 b3=orI [cmpI a3 b3,cfI a1 a2 b1 b2] from rfl)
 have m1:=((Blk.new W 52 #[.int .i64 a0,.int .i64 a1,.int .i64 a2,.int .i64 a3,.int .i64 a4]).alloc (.cells #[.int .i64 b0,.int .i64 b1,.int .i64 b2,.int .i64 b3,.int .i64 b4] 52))
 have m2:=Blk.new (W.alloc (.cells #[.int .i64 a0,.int .i64 a1,.int .i64 a2,.int .i64 a3,.int .i64 a4] 52)) 52 #[.int .i64 b0,.int .i64 b1,.int .i64 b2,.int .i64 b3,.int .i64 b4]
 rw [World.size_alloc] at m2
 have M1:=Lib.hid m1
 have M2:=Lib.hid m2
 have HG:=Lib.hid (((Grw.refl W).alloc (.cells #[.int .i64 a0,.int .i64 a1,.int .i64 a2,.int .i64 a3,.int .i64 a4] 52)).alloc (.cells #[.int .i64 b0,.int .i64 b1,.int .i64 b2,.int .i64 b3,.int .i64 b4] 52))
 clear m1 m2
 go_enter Tryz.func74,Tryz.ntmps74
 go_wp2_with fail
 obtain ⟨W2,hW2⟩:∃ W2,(W.alloc (.cells #[.int .i64 a0,.int .i64 a1,.int .i64 a2,.int .i64 a3,.int .i64 a4] 52)).alloc (.cells #[.int .i64 b0,.int .i64 b1,.int .i64 b2,.int .i64 b3,.int .i64 b4] 52)=W2:=⟨_,rfl⟩
 rw [hW2] at M1 M2 HG ⊢
 have x1:W2.cell? ⟨W.heap.size,1,none⟩=some (.int .i64 a1):=M1.out.cell 1
 have z1:W2.cell? ⟨W.heap.size+1,1,none⟩=some (.int .i64 b1):=M2.out.cell 1
 have x2:W2.cell? ⟨W.heap.size,2,none⟩=some (.int .i64 a2):=M1.out.cell 2
 have z2:W2.cell? ⟨W.heap.size+1,2,none⟩=some (.int .i64 b2):=M2.out.cell 2
 have x3:W2.cell? ⟨W.heap.size,3,none⟩=some (.int .i64 a3):=M1.out.cell 3
 have z3:W2.cell? ⟨W.heap.size+1,3,none⟩=some (.int .i64 b3):=M2.out.cell 3
 have hdr:=holdG (W0:=W2) ⟨Grw.refl W2,x1,x2,x3,z1,z2,z3⟩ (Grw.refl W2).drew
 clear hW2 M1 M2
 go_region_held3 (fun w'=>Grw W2 w'∧w'.cell? ⟨W.heap.size,1,none⟩=some (.int .i64 a1)∧w'.cell? ⟨W.heap.size,2,none⟩=some (.int .i64 a2)∧w'.cell? ⟨W.heap.size,3,none⟩=some (.int .i64 a3)∧w'.cell? ⟨W.heap.size+1,1,none⟩=some (.int .i64 b1)∧w'.cell? ⟨W.heap.size+1,2,none⟩=some (.int .i64 b2)∧w'.cell? ⟨W.heap.size+1,3,none⟩=some (.int .i64 b3)) (first | exact hdr | assumption | exact holdGa (by assumption) _) (first | (go_at_call 59;(with_reducible refine (pipes_any a1 a2 b1 b2 _).mono ?_);rintro e w5 ⟨rfl,hg5⟩;have hn:=holdG hdr hg5;clear hg5) | (go_at_call 72;(with_reducible refine (compare_any a3 b3 _).mono ?_);rintro e w6 ⟨rfl,rfl⟩) | (go_at_call 71;refine (or_any [cmpI a3 b3,cfI a1 a2 b1 b2] _ _ (by simp) (ARd.of_blkI (Blk.new _ 3 _) rfl _ _ rfl)).mono ?_;rintro e w7 ⟨rfl,rfl⟩))
 all_goals (go_wp2;go_ret;exact ⟨by rw [HB.out];rfl,HG.out.trans (hn.1.alloc _)⟩)
def cgC (x:Cg):List Value:=[.int .i64 x.1,.int .i64 x.2.1.1,.int .i64 x.2.1.2,.int .i64 x.2.2.1,.int .i64 x.2.2.2]
def cgCs (l:List Cg):List Value:=(l.map cgC).flatten
theorem cg_info:(Tryz.prog.info? 91).map (fun i=>(i.zero,i.size,i.bytes))=some (some (.agg #[.int .i64 0,.int .i64 0,.int .i64 0,.int .i64 0,.int .i64 0]),5,40):=by kernel_rfl
theorem cgs_step {W:World} {base:Nat} {t:TypeId} {v:Value} {l:List Cg} {n:Nat} {a:Int} {p:Pp} {b c:Int} (h:W.ownsRow base t 5 v n (cgCs l++[.int .i64 a,.int .i64 p.1,.int .i64 p.2,.int .i64 b,.int .i64 c])) (hn:n=l.length+1):W.ownsRow base t 5 v (l++[(a,p,b,c)]).length (cgCs (l++[(a,p,b,c)])):=by
 have e:cgCs (l++[(a,p,b,c)])=cgCs l++[.int .i64 a,.int .i64 p.1,.int .i64 p.2,.int .i64 b,.int .i64 c]:=by simp [cgCs,cgC]
 rw [e,List.length_append,List.length_singleton,← hn]
 exact h
theorem cfI_lt (a1 a2 b1 b2:Int):cfI a1 a2 b1 b2<0 ↔ ppLt (a1,a2) (b1,b2):=by
 unfold cfI cmpI ppLt
 simp only [orI]
 repeat' split
 all_goals omega
end Go.Proofs.YthhfmppealmblaaGreatDoor
namespace Go.Proofs.YthhfmppealmblaaGreatDoor
open Go.RowKit
theorem Boxed.turn {W W':World} {B D:Nat} {t T:TypeId} {v:Value} {row:Option Nat} (h:Boxed W B t v) (hg:W.grownBy W' row) (ht:Turn T D W row) (hne:t≠T):Boxed W' B t v:=h.kept hg (fun e=>by
 obtain ⟨_,o,ho,hc⟩:=ht B e.symm
 rw [show W.heap[B]?=_ from h] at ho
 cases ho
 rcases hc with hc | ⟨cs,fr,hc⟩
 ·cases hc
 ·cases hc
  exact hne rfl)
theorem row_turn {W W':World} {base D n:Nat} {t T:TypeId} {k:Nat} {v:Value} {xs:List Value} {row:Option Nat} (h:W.ownsRow base t k v n xs) (hg:W.grownBy W' row) (ht:Turn T D W row) (hne:t≠T):W'.ownsRow base t k v n xs:=by
 rcases h.2 with ⟨rfl,_⟩ | ⟨g,cap,cur,rfl,_,hgg,_⟩
 ·exact h.kept hg (.inl rfl)
 ·refine h.kept hg (.inr fun e=>?_)
  obtain ⟨_,o,ho,hc⟩:=ht g (e.symm.trans rfl)
  rw [hgg] at ho
  cases ho
  rcases hc with hc | ⟨cs,fr,hc⟩
  ·cases hc
  ·cases hc
   exact hne rfl
theorem Mp.turn {κ:Type} {ek:κ→Value} {W W':World} {b D:Nat} {l:List (κ × Value)} {T:TypeId} {row:Option Nat} (h:Mp ek W b l) (hg:W.grownBy W' row) (ht:Turn T D W row):Mp ek W' b l:=h.kept hg (fun e=>by
 obtain ⟨_,o,ho,hc⟩:=ht b e.symm
 obtain ⟨es,clock,hb,_⟩:=h
 rw [hb] at ho
 cases ho
 rcases hc with hc | ⟨cs,fr,hc⟩
 ·cases hc
 ·cases hc)
theorem row_not_box {W:World} {base n B:Nat} {t t2:TypeId} {k:Nat} {v u:Value} {xs:List Value} (h:W.ownsRow base t k v n xs) (hb:Boxed W B t2 u) (hne:t≠t2):v.ownBlock=none∨v.ownBlock≠some B:=.inr fun e=>hb.not_row (fun q=>hne q.symm) h e.symm
structure RdK (n0:Nat) (W W':World):Prop where
 ko:KeepsOthers W W'
 kp:KpM n0 W W'
theorem RdK.refl (n0:Nat) (W:World):RdK n0 W W:=⟨KeepsOthers.refl W,⟨Below.refl _ _,fun _ _ _ _ _ h=>h⟩⟩
theorem RdK.grown {n0:Nat} {W A A':World} {row:Option Nat} (h:RdK n0 W A) (hn:n0≤W.heap.size) (hg:A.grownBy A' row) (hr:∀ r,row=some r→n0≤r∧(W.heap.size≤r∨∃ cs t fr,A.heap[r]?=some (.cells cs t fr)∧¬ keptT t)):RdK n0 W A':=by
 refine ⟨⟨Nat.le_trans h.ko.size hg.size,fun k o hk ho=>?_⟩,⟨h.kp.be.grown hg (Nat.le_trans hn h.ko.size) (fun j e=>(hr j e).1),fun k cs t fr ht hk=>?_⟩⟩
 ·have h1:=h.ko.same k o hk ho
  refine (hg.block k (Array.getElem?_eq_some_iff.1 h1).1 (fun e=>?_)).trans h1
  rcases (hr k e.symm).2 with q | ⟨cs,t,fr,q,_⟩
  ·have:=(Array.getElem?_eq_some_iff.1 hk).1;omega
  ·rw [h1] at q
   cases q
   cases ho
 ·have h1:=h.kp.kept k cs t fr ht hk
  refine (hg.block k (Array.getElem?_eq_some_iff.1 h1).1 (fun e=>?_)).trans h1
  rcases (hr k e.symm).2 with q | ⟨cs',t',fr',q,hq⟩
  ·have:=(Array.getElem?_eq_some_iff.1 hk).1;omega
  ·rw [h1] at q
   cases q
   exact hq ht
theorem RdK.below {n0:Nat} {W A A':World} (h:RdK n0 W A) (hn:n0≤W.heap.size) (hb:Below A.heap.size A A'):RdK n0 W A':=h.grown hn (below_grown hb none) (fun r e=>by cases e)
theorem cg_not_kept:¬ keptT 91:=by unfold keptT;decide
theorem cgs_not_kept:¬ keptT 87:=by unfold keptT;decide
theorem mpb_not_kept:¬ keptT 131:=by unfold keptT;decide
structure ChW (w W0:World) (OUT WAS mb mb2:Nat) (was now:List Pp) (out:List Cg) (W:World):Prop where
 rd:RdK w.heap.size W0 W
 be:Below w.heap.size w W
 sz:w.heap.size≤W0.heap.size
 box:∃ v,Boxed W OUT 87 v∧W.ownsRow w.heap.size 91 5 v out.length (cgCs out)
 ol:w.heap.size≤OUT
 wb:Boxed W WAS 131 (.map (some mb))
 mw:Mp ekP W mb (setM was)
 mn:Mp ekP W mb2 (setM now)
theorem ChW.below {w W0 W W':World} {OUT WAS mb mb2:Nat} {was now:List Pp} {out:List Cg} (h:ChW w W0 OUT WAS mb mb2 was now out W) (hb:Below W.heap.size W W'):ChW w W0 OUT WAS mb mb2 was now out W':=by
 obtain ⟨v,hv,hr⟩:=h.box
 exact ⟨h.rd.below h.sz hb,below_step h.be hb,h.sz,⟨v,(hb.block _ hv.lt).trans hv,row_later hr hb⟩,h.ol,(hb.block _ h.wb.lt).trans h.wb,h.mw.below hb,h.mn.below hb⟩
theorem ChW.next {w W0 W W':World} {OUT WAS mb mb2:Nat} {was now:List Pp} {out:List Cg} (h:ChW w W0 OUT WAS mb mb2 was now out W) {b r:Nat} {l left:List (Pp × Value)} (hr:Rg ekP W b r l left) (hg:W.grownBy W' (some r)) (h0:W0.heap.size≤r):ChW w W0 OUT WAS mb mb2 was now out W':=by
 obtain ⟨v,hv,ho⟩:=h.box
 obtain ⟨es,clock,since,seen,c0,_,_,_,_,_,hit,_⟩:=hr
 have hbx:∀ {B:Nat} {t:TypeId} {u:Value},Boxed W B t u→some B≠some r:=fun hB e=>by
  cases e
  rw [show W.heap[r]?=_ from hB] at hit
  cases hit
 have hmp:∀ {B:Nat} {m:List (Pp × Value)},Mp ekP W B m→some B≠some r:=fun hB e=>by
  cases e
  obtain ⟨_,_,hb,_⟩:=hB
  rw [hb] at hit
  cases hit
 refine ⟨h.rd.grown h.sz hg (fun j e=>by cases e;exact ⟨Nat.le_trans h.sz h0,.inl h0⟩),h.be.grown hg h.be.size (fun j e=>by cases e;exact Nat.le_trans h.sz h0),h.sz,⟨v,hv.kept hg (hbx hv),?_⟩,h.ol,h.wb.kept hg (hbx h.wb),h.mw.kept hg (hmp h.mw),h.mn.kept hg (hmp h.mn)⟩
 rcases ho.2 with ⟨rfl,_⟩ | ⟨g,cap,cur,rfl,_,hgg,_⟩
 ·exact ho.kept hg (.inl rfl)
 ·refine ho.kept hg (.inr fun e=>?_)
  have e':g=r:=Option.some.inj e
  subst e'
  rw [hgg] at hit
  cases hit
theorem Rg.box {W:World} {b r B:Nat} {l left:List (Pp × Value)} {t:TypeId} {u:Value} (hr:Rg ekP W b r l left) (hB:Boxed W B t u):B≠b∧B≠r:=by
 obtain ⟨es,clock,since,seen,c0,hm,_,_,_,_,hit,_⟩:=hr
 constructor
 ·intro e
  subst e
  rw [show W.heap[B]?=_ from hB] at hm
  cases hm
 ·intro e
  subst e
  rw [show W.heap[B]?=_ from hB] at hit
  cases hit
theorem Rg.row {W:World} {b r base n k:Nat} {l left:List (Pp × Value)} {t:TypeId} {v:Value} {xs:List Value} (hr:Rg ekP W b r l left) (h:W.ownsRow base t k v n xs):some b≠v.ownBlock∧some r≠v.ownBlock:=by
 obtain ⟨es,clock,since,seen,c0,hm,_,_,_,_,hit,_⟩:=hr
 rcases h.2 with ⟨rfl,_⟩ | ⟨g,cap,cur,rfl,_,hgg,_⟩
 ·exact ⟨by simp [Value.ownBlock],by simp [Value.ownBlock]⟩
 ·constructor
  ·intro e
   have e':b=g:=Option.some.inj e
   subst e'
   rw [hm] at hgg
   cases hgg
  ·intro e
   have e':r=g:=Option.some.inj e
   subst e'
   rw [hit] at hgg
   cases hgg
theorem Mp.not_row {W:World} {b base n k:Nat} {l:List (Pp × Value)} {t:TypeId} {v:Value} {xs:List Value} (hr:Mp ekP W b l) (h:W.ownsRow base t k v n xs):some b≠v.ownBlock:=by
 obtain ⟨es,clock,hm,_⟩:=hr
 rcases h.2 with ⟨rfl,_⟩ | ⟨g,cap,cur,rfl,_,hgg,_⟩
 ·simp [Value.ownBlock]
 ·intro e
  have e':b=g:=Option.some.inj e
  subst e'
  rw [hm] at hgg
  cases hgg
theorem Mp.not_box {W:World} {b B:Nat} {l:List (Pp × Value)} {t:TypeId} {u:Value} (hr:Mp ekP W b l) (hB:Boxed W B t u):some b≠some B:=by
 obtain ⟨es,clock,hm,_⟩:=hr
 intro e
 cases e
 rw [show W.heap[b]?=_ from hB] at hm
 cases hm
theorem ChW.push {w W0 W W1:World} {OUT WAS mb mb2:Nat} {was now:List Pp} {out:List Cg} (h:ChW w W0 OUT WAS mb mb2 was now out W) {v v':Value} (hv:Boxed W OUT 87 v) (hg:W.grownBy W1 v.ownBlock) {x:Cg} (hr:W1.ownsRow w.heap.size 91 5 v' (out++[x]).length (cgCs (out++[x]))) :
  ChW w W0 OUT WAS mb mb2 was now (out++[x]) (W1.setCell ⟨OUT,0,none⟩ v'):=by
 obtain ⟨u,hu,ho⟩:=h.box
 have e:u=v:=by
  have h1:=hu.cell
  rw [hv.cell] at h1
  exact (Option.some.inj h1).symm
 subst e
 have hv1:Boxed W1 OUT 87 u:=hv.kept hg (hv.not_row (by decide) ho)
 have hwb1:Boxed W1 WAS 131 (.map (some mb)):=h.wb.kept hg (h.wb.not_row (by decide) ho)
 have hmw1:=h.mw.kept hg (h.mw.not_row ho)
 have hmn1:=h.mn.kept hg (h.mn.not_row ho)
 have hrow:∀ r,u.ownBlock=some r→w.heap.size≤r∧(W0.heap.size≤r∨∃ cs t fr,W.heap[r]?=some (.cells cs t fr)∧¬ keptT t):=fun r e=>by
  rcases ho.2 with ⟨rfl,_⟩ | ⟨g,cap,cur,rfl,hb,hgg,_⟩
  ·cases e
  ·cases e
   exact ⟨hb,.inr ⟨_,_,_,hgg,cg_not_kept⟩⟩
 have hset:=set_grown W1 OUT 0 v'
 have hrd1:=h.rd.grown h.sz hg hrow
 have hbe1:=h.be.grown hg h.be.size (fun j e=>(hrow j e).1)
 refine ⟨hrd1.grown h.sz hset (fun r e=>by cases e;exact ⟨h.ol,.inr ⟨_,_,_,hv1,cgs_not_kept⟩⟩),hbe1.grown hset hbe1.size (fun j e=>by cases e;exact h.ol),h.sz,⟨v',hv1.set v',hr.kept hset (row_not_box hr hv1 (by decide))⟩,h.ol,hwb1.kept hset (fun e=>?_),hmw1.kept hset (hmw1.not_box hv1),hmn1.kept hset (hmn1.not_box hv1)⟩
 cases e
 unfold Boxed at hwb1 hv1
 rw [hwb1] at hv1
 cases hv1
theorem mark_ret {F:Fence} {n:Nat} {P:Program} {fn:Func} {R:Ending→World→Prop} {a:Act} {D:Nat} {W:World} {v:Value} (hK:W.heap[D]?=some (.deferred (some []))) (hd:a.defers=[{ target:=.collected D,args:=#[] }]) (hr:∀ W',(results fn a.tmps).run P W' = .ok v W') (hR:R (.returned v) (W.putObj D (.deferred none))):bodyPostM F n P fn R .ret a W:=by
 show LeavesInM F n P fn a.tmps R a.defers .returning W
 rw [hd]
 exact leaves_marks (B:=0) [D] W ⟨by simp,fun E hE=>by rw [List.mem_singleton.1 hE];exact ⟨Nat.zero_le _,hK⟩⟩ ⟨v,hr _,hR⟩
theorem turn_mark {W:World} {D:Nat} (hK:W.heap[D]?=some (.deferred (some []))) (T:TypeId):Turn T 0 W (some D):=fun r e=>by
 cases e
 exact ⟨Nat.zero_le _,_,hK,.inl rfl⟩
structure CgI (w:World) (OUT WAS:Nat) (B:(Th→Int)→Pp→Bool) (l:List Ev) (pre:List MoX) (W:World):Prop where
 ex:∃ (v:Value) (mb:Nat) (was:List Pp) (out:List Cg),Boxed W OUT 87 v∧W.ownsRow w.heap.size 91 5 v out.length (cgCs out)∧Boxed W WAS 131 (.map (some mb))∧Mp ekP W mb (setM was)∧ChS B l (pre.map (·.1)) was out∧out.length≤8000 * pre.length
 be:Below w.heap.size w W
theorem CgI.turn {w:World} {OUT WAS D:Nat} {B:(Th→Int)→Pp→Bool} {l:List Ev} {pre:List MoX} {A A':World} {row:Option Nat} (h:CgI w OUT WAS B l pre A) (hD:w.heap.size≤D) (hg:A.grownBy A' row) (ht:Turn 134 D A row):CgI w OUT WAS B l pre A':=by
 obtain ⟨v,mb,was,out,h1,h2,h3,h4,h5,h6⟩:=h.ex
 exact ⟨⟨v,mb,was,out,Boxed.turn h1 hg ht (by decide),row_turn h2 hg ht (by decide),Boxed.turn h3 hg ht (by decide),h4.turn hg ht,h5,h6⟩,h.be.grown hg h.be.size (fun r e=>Nat.le_trans hD (ht r e).1)⟩
theorem nodup_lenP {l m:List Pp} (h:l.Nodup) (hs:∀ x∈l,x∈m):l.length≤m.length:=by
 induction l generalizing m with
 | nil=>exact Nat.zero_le _
 | cons a l ih =>
  rw [List.nodup_cons] at h
  have ha:=hs a (by simp)
  have h2:=ih h.2 (m:=m.erase a) (fun x hx=>(List.mem_erase_of_ne (fun e=>h.1 (by rw [← e];exact hx))).2 (hs x (by simp [hx])))
  rw [List.length_erase_of_mem ha] at h2
  have:0<m.length:=List.length_pos_of_mem ha
  rw [List.length_cons]
  omega
theorem sndP_len {S:Sp} (hc:(checkP S).2=0) {m:List Pp} (hn:m.Nodup) (hm:∀ p,p∈m→∃ f,Snd S f p):m.length≤4000:=by
 have hsg:=spGood hc
 have h1:=allFrom_len hsg.r 0
 have h2:=hsg.rs
 have h3:m.length≤(allFrom 0 S.rs).length:=nodup_lenP hn (fun p hp=>by obtain ⟨f,hf⟩:=hm p hp;exact snd_all (fun x hx key=>hsg.plays hx) hf)
 omega
def ChgE (B:(Th→Int)→Pp→Bool) (l:List Ev) (w:World) (e:Ending) (w':World):Prop:=∃ v out,e = .returned v∧w'.ownsRow w.heap.size 91 5 v out.length (cgCs out)∧ChgOf B l out∧out.length≤8000 * l.length∧Below w.heap.size w w'
theorem below_none {W W':World} (hg:W.grownBy W' none):Below W.heap.size W W':=⟨hg.os,hg.tape,hg.output,hg.size,fun k hk=>hg.block k hk (by simp)⟩
theorem was_snd {S:Sp} {B:(Th→Int)→Pp→Bool} (hB:SndIs S B) {l:List Ev} {p:Pp} {ms:List Nat} (h:wasB B l p ms=true):∃ f,Snd S f p:=by
 unfold wasB momQ at h
 rcases List.eq_nil_or_concat ms with rfl | ⟨m',i,rfl⟩
 ·cases h
 ·rw [List.concat_eq_append,List.map_append,List.map_cons,List.map_nil,List.getLast?_concat] at h
  exact ⟨_,(hB _ _).1 h⟩
theorem ChW.end {w W0 W:World} {OUT WAS mb mb2:Nat} {was now:List Pp} {out:List Cg} (h:ChW w W0 OUT WAS mb mb2 was now out W) (hw:w.heap.size≤WAS) {B:(Th→Int)→Pp→Bool} {l:List Ev} {pre:List MoX} (hs:ChS B l (pre.map (·.1)) now out) (hl:out.length≤8000 * pre.length) (D:Nat) :
  KeepsFrom D W0 (W.setCell ⟨WAS,0,none⟩ (.map (some mb2)))∧KpM w.heap.size W0 (W.setCell ⟨WAS,0,none⟩ (.map (some mb2)))∧CgI w OUT WAS B l pre (W.setCell ⟨WAS,0,none⟩ (.map (some mb2))):=by
 obtain ⟨v,hv,hr⟩:=h.box
 have hset:=set_grown W WAS 0 (.map (some mb2))
 have hne:some OUT≠some WAS:=fun e=>by
  cases e
  have hb:=h.wb
  unfold Boxed at hb hv
  rw [hv] at hb
  cases hb
 have hrd:=h.rd.grown h.sz hset (fun r e=>by cases e;exact ⟨hw,.inr ⟨_,_,_,h.wb,mpb_not_kept⟩⟩)
 exact ⟨hrd.ko.from D,hrd.kp,⟨v,mb2,now,out,hv.kept hset hne,hr.kept hset (row_not_box hr h.wb (by decide)),h.wb.set _,h.mn.kept hset (h.mn.not_box h.wb),hs,hl⟩,h.be.grown hset h.be.size (fun r e=>by cases e;exact hw)⟩
theorem chgs_len (t d:Int) (L:List Pp):(chgs t d L).length=L.length:=List.length_map ..
theorem gone_all {m o:List Pp} {done:List (Pp × Value)} (hp:done.Perm (setM m)) (hn:m.Nodup):((done.map (·.1)).filter fun p=>decide (p ∉ o)).Nodup∧(∀ p,p∈((done.map (·.1)).filter fun p=>decide (p ∉ o)) ↔ p∈m∧p ∉ o)∧((done.map (·.1)).filter fun p=>decide (p ∉ o)).length≤m.length:=by
 have h1:(done.map (·.1)).Perm m:=by
  have:=hp.map (·.1)
  rwa [setM_keys] at this
 refine ⟨(h1.nodup_iff.2 hn).filter _,fun p=>?_,?_⟩
 ·rw [List.mem_filter,h1.mem_iff,decide_eq_true_iff]
 ·exact Nat.le_trans (List.length_filter_le _ _) (Nat.le_of_eq h1.length_eq)
theorem gone_yes {o:List Pp} {done:List (Pp × Value)} {x:Pp} {v:Value} (h:x ∉ o):(((done++[(x,v)]).map (·.1)).filter fun p=>decide (p ∉ o))=((done.map (·.1)).filter fun p=>decide (p ∉ o))++[x]:=by
 rw [List.map_append,List.filter_append,List.map_cons,List.map_nil,List.filter_cons,if_pos (decide_eq_true h),List.filter_nil]
theorem gone_no {o:List Pp} {done:List (Pp × Value)} {x:Pp} {v:Value} (h:x∈o):(((done++[(x,v)]).map (·.1)).filter fun p=>decide (p ∉ o))=((done.map (·.1)).filter fun p=>decide (p ∉ o)):=by
 rw [List.map_append,List.filter_append,List.map_cons,List.map_nil,List.filter_cons,if_neg (by simp only [decide_eq_true_iff];exact fun q=>q h),List.filter_nil,List.append_nil]
theorem strike_perm {left:List (Pp × Value)} {x:Pp} {v:Value} (hn:(left.map (·.1)).Nodup) (hx:(x,v)∈left) {done all:List (Pp × Value)} (hp:(done++left).Perm all):((done++[(x,v)])++left.filter fun p=>!decide (p.1=x)).Perm all:=by
 refine List.Perm.trans ?_ hp
 rw [List.append_assoc]
 refine List.Perm.append_left _ ?_
 clear hp
 induction left with
 | nil=>cases hx
 | cons y left ih =>
  rw [List.map_cons,List.nodup_cons] at hn
  by_cases e:y.1=x
  ·have hy:y=(x,v):=by
    rcases List.mem_cons.1 hx with h | h
    ·exact h.symm
    ·exact absurd (by rw [e];exact List.mem_map.2 ⟨(x,v),h,rfl⟩) hn.1
   rw [List.filter_cons,if_neg (by simp [e]),hy,List.singleton_append]
   refine List.Perm.of_eq (congrArg _ ?_)
   rw [List.filter_eq_self]
   intro z hz
   have:z.1≠x:=fun q=>hn.1 (by rw [e,← q];exact List.mem_map.2 ⟨z,hz,rfl⟩)
   simp [this]
  ·have hx2:(x,v)∈left:=by
    rcases List.mem_cons.1 hx with h | h
    ·exact absurd (by rw [← h]) e
    ·exact h
   rw [List.filter_cons,if_pos (by simp [e])]
   exact (List.Perm.swap _ _ _).trans ((ih hn.2 hx2).cons y)
theorem strike_len {left:List (Pp × Value)} {x:Pp} {v:Value} (hx:(x,v)∈left):(left.filter fun p=>!decide (p.1=x)).length<left.length:=by
 induction left with
 | nil=>cases hx
 | cons y left ih =>
  rw [List.filter_cons]
  by_cases e:y.1=x
  ·rw [if_neg (by simp [e]),List.length_cons]
   have:=List.length_filter_le (fun p:Pp × Value=>!decide (p.1=x)) left
   omega
  ·rw [if_pos (by simp [e]),List.length_cons,List.length_cons]
   have:=ih (by
    rcases List.mem_cons.1 hx with h | h
    ·exact absurd (by rw [← h]) e
    ·exact h)
   omega
end Go.Proofs.YthhfmppealmblaaGreatDoor
