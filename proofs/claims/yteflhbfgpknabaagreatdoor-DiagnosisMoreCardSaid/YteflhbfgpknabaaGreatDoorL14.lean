/-
  A part of the proof: KD,UM,AN2,US.
-/
import Derived.Test.YteflhbfgpknabaaGreatDoorL01
import Derived.RangeFuncWrites
import Derived.RangeFuncLeaves
import Derived.RangeFuncRecord
import Derived.Test.YteflhbfgpknabaaGreatDoorL07
import Derived.Deep.QuietTactic
import Derived.BigQuiet
import Derived.Deep.RegionWith
import Derived.RegionTactic
import Derived.BigRegion
import Derived.Test.YteflhbfgpknabaaGreatDoorL13
import Derived.Test.YteflhbfgpknabaaGreatDoorL02
import Derived.Test.YteflhbfgpknabaaGreatDoorL08
import Derived.ControlIn
import Derived.Scope
set_option maxHeartbeats 1600000
namespace Go.Proofs.YteflhbfgpknabaaGreatDoor
open Go.Lib (hid)
open Go.RowKit
def marks (Ds:List Nat):List Deferred:=Ds.map fun D=>{ target:=.collected D,args:=#[] }
structure MarksOk (B:Nat) (Ds:List Nat) (W:World):Prop where
 nodup:Ds.Nodup
 at':∀ D∈Ds,B≤D∧W.heap[D]?=some (.deferred (some []))
theorem MarksOk.lt {B:Nat} {Ds:List Nat} {W:World} (h:MarksOk B Ds W) {D:Nat} (hD:D∈Ds):D<W.heap.size:=(Array.getElem?_eq_some_iff.1 (h.at' D hD).2).1
theorem MarksOk.nil (B:Nat) (W:World):MarksOk B [] W:=⟨List.nodup_nil,fun D h=>by cases h⟩
theorem MarksOk.cons {B:Nat} {Ds:List Nat} {W:World} (h:MarksOk B Ds W) {D:Nat} (hD:D ∉ Ds) (hB:B≤D) (hK:W.heap[D]?=some (.deferred (some []))):MarksOk B (D :: Ds) W :=
 ⟨List.nodup_cons.2 ⟨hD,h.nodup⟩,fun E hE=>by
  rcases List.mem_cons.1 hE with rfl | hE
  ·exact ⟨hB,hK⟩
  ·exact h.at' E hE⟩
theorem MarksOk.keeps {B:Nat} {Ds:List Nat} {W W':World} (h:MarksOk B Ds W) (hk:∀ D,D∈Ds→W'.heap[D]?=W.heap[D]?):MarksOk B Ds W':=⟨h.nodup,fun D hD=>⟨(h.at' D hD).1,(hk D hD).trans (h.at' D hD).2⟩⟩
theorem MarksOk.grown {B:Nat} {Ds:List Nat} {W W':World} {row:Option Nat} (h:MarksOk B Ds W) (hg:W.grownBy W' row) (hr:∀ r,row=some r→∃ cs t fr,W.heap[r]?=some (.cells cs t fr)):MarksOk B Ds W' :=
 h.keeps fun D hD=>hg.block D (h.lt hD) (fun e=>by
  obtain ⟨cs,t,fr,hc⟩:=hr D e.symm
  rw [(h.at' D hD).2] at hc
  cases hc)
theorem MarksOk.below {B:Nat} {Ds:List Nat} {W W':World} (h:MarksOk B Ds W) (hb:Below W.heap.size W W'):MarksOk B Ds W':=h.keeps fun D hD=>hb.block D (h.lt hD)
def cleared:World→List Nat→World
 | W,[]=>W
 | W,D :: Ds=>cleared (W.putObj D (.deferred none)) Ds
theorem cleared_block:∀ (Ds:List Nat) (W:World) (k:Nat),k ∉ Ds→(cleared W Ds).heap[k]?=W.heap[k]?
 | [],_,_,_=>rfl
 | D :: Ds,W,k,h=>by
  rw [List.mem_cons,not_or] at h
  rw [cleared,cleared_block Ds _ k h.2]
  exact World.putObj_heap_other (fun e=>h.1 e)
theorem cleared_blk {B:Nat} {Ds:List Nat} {W:World} (h:MarksOk B Ds W) {b:Nat} {t:TypeId} {cs:Array Value} (hb:Blk W b t cs):Blk (cleared W Ds) b t cs:=by
 have hn:b ∉ Ds:=fun hm=>by
  have h1:=(h.at' b hm).2
  rw [show W.heap[b]?=some (.cells cs t (0,0)) from hb] at h1
  cases h1
 exact (cleared_block Ds W b hn).trans hb
variable {F : Fence} {n : Nat} {P : Program}
theorem leaves_marks {fn:Func} {tmps:Array Value} {R:Ending→World→Prop} {B:Nat}:∀ (Ds:List Nat) (W:World),MarksOk B Ds W→LeavesIn F n P fn tmps R [] .returning (cleared W Ds)→LeavesInM F n P fn tmps R (marks Ds) .returning W
 | [],W,_,h=>h
 | D :: Ds,W,hm,h=>by
  refine ⟨by simp,.inl ⟨D,_,rfl,run_takeDeferred (hm.at' D (by simp)).2,?_⟩⟩
  obtain ⟨h1,h2⟩:=List.nodup_cons.1 hm.nodup
  exact leaves_marks Ds _ ⟨h2,fun E hE=>⟨(hm.at' E (by simp [hE])).1,(World.putObj_heap_other (fun e=>h1 (by rw [← e];exact hE))).trans (hm.at' E (by simp [hE])).2⟩⟩ h
def cmpI (a b:Int):Int:=if a<b then -1 else if b<a then 1 else 0
def orI:List Int→Int
 | []=>0
 | x :: l=>if x=0 then orI l else x
theorem orI_skip:∀ {l:List Int} (k:Nat),(∀ x∈l.take k,x=0)→orI l=orI (l.drop k)
 | [],k,_=>by rw [List.drop_nil]
 | x :: l,0,_=>rfl
 | x :: l,k+1,h=>by
  rw [orI,if_pos (h x (by simp)),List.drop_succ_cons]
  exact orI_skip k fun y hy=>h y (by simp [hy])
theorem orI_at {l:List Int} {k:Nat} (hk:k<l.length) (hz:∀ x∈l.take k,x=0) (h:l[k]≠0):orI l=l[k]:=by
 rw [orI_skip k hz,List.drop_eq_getElem_cons hk,orI,if_neg h]
theorem orI_no {l:List Int} (hz:∀ x∈l.take l.length,x=0):orI l=0:=by
 rw [orI_skip l.length hz,List.drop_length];rfl
theorem zeros_next {l:List Int} {k:Nat} (hk:k<l.length) (hz:∀ x∈l.take k,x=0) (h:l[k]=0):∀ x∈l.take (k+1),x=0:=by
 intro x hx
 rw [List.take_succ_eq_append_getElem hk,List.mem_append,List.mem_singleton] at hx
 rcases hx with hx | rfl
 ·exact hz x hx
 ·exact h
theorem or_any (l:List Int) (v:Value) (w:World) (hl:l.length≤1000000) (hv:ARd w v 1 (l.map iC)) :
  Calls Tryz.prog 93 #[v] w fun e w'=>e = .returned (.int .i64 (orI l))∧w'=w:=by
 obtain ⟨a,c,ev⟩:=hv.intForm
 subst ev
 go_enter Tryz.func93,Tryz.ntmps93
 go_wp2
 go_loopw [8] (fun y wr=>∃ k:Nat,k≤l.length∧y = .int .i64 k∧Hid (∀ x∈l.take k,x=0)∧wr=w) (fun y _=>l.length-(intOf y).toNat)
 case atStart=>exact ⟨0,Nat.zero_le _,rfl,hid (by simp),rfl⟩
 obtain ⟨k,hk,rfl,hN,rfl⟩:=hrel
 by_cases hlt:k<l.length
 ·obtain ⟨b,o,c',ev',hbl,q0⟩:=hv.intAt k hlt
  cases ev'
  have hk2:(k:Int)<(l.length:Int):=by omega
  by_cases he:l[k]=0
  ·have HE:=hid (zeros_next hlt hN.out he)
   rw [he] at q0
   clear he
   go_wp2
   go_roundw
   case rel=>exact ⟨k+1,by omega,by go_num,HE,trivial⟩
   case measure=>simp [intOf];omega
  ·have he2:(l[k]==0)=false:=by simpa using he
   have HE:=hid (orI_at hlt hN.out he)
   clear he
   go_wp2
   go_ret
   exact ⟨by rw [HE.out];rfl,rfl⟩
 ·have hk2:¬ ((k:Int)<(l.length:Int)):=by omega
  have hke:k=l.length:=by omega
  have HE:=hid (orI_no (l:=l) (by rw [← hke];exact hN.out))
  clear hke
  go_wp2
  go_ret
  exact ⟨by rw [HE.out];rfl,rfl⟩
end Go.Proofs.YteflhbfgpknabaaGreatDoor
namespace Go.Proofs.YteflhbfgpknabaaGreatDoor
open Go.Lib (hid)
open Go.RowKit
theorem row_info:(Tryz.prog.info? 208).map (fun i=>(i.zero,i.size,i.bytes))=some (some (.agg (Array.replicate 128 (.int .i64 0))),128,1024):=by kernel_rfl
theorem make_counts (n:Nat) (hn:n≤1000):∀ w:World,(Instr.makeSlice 206 (.int .i64 (n:Int)) (.int .i64 (n:Int))).run Tryz.prog w = .ok (.slice (some ⟨w.heap.size,0,none⟩) n n) (w.alloc (.cells (madeCells (Array.replicate 128 (.int .i64 0)) (n * 128)) 208)):=by
 intro w
 obtain ⟨i0,hi,hz0,hz1,hz2⟩:=info_parts row_info
 have:=run_make_rowN (P:=Tryz.prog) 206 208 i0 _ Tryz.underlying206 hi hz0 .i64 .i64 n n (Nat.le_refl _) (by rw [hz2];omega) (by omega) w
 rw [hz1] at this
 exact this
def CtI (W:World) (OB nr:Nat) (M:List Pp):Prop:=∃ cs:Array Value,Blk W OB 208 cs∧cs.size=nr * 128∧∀ r t:Nat,r<nr→t<128→cs[r * 128+t]?=some (.int .i64 ((M.count ((r:Int),(t:Int)):Nat):Int))
theorem made_count (n:Nat) {j:Nat} (hj:j<n * 128):(madeCells (Array.replicate 128 (Value.int .i64 0)) (n * 128))[j]?=some (.int .i64 0):=by
 unfold madeCells
 rw [Array.getElem?_map,Array.getElem?_range,if_pos hj,Option.map_some]
 have h:j % 128<128:=Nat.mod_lt _ (by decide)
 simp [h]
theorem CtI.start (W:World) (nr:Nat):CtI (W.alloc (.cells (madeCells (Array.replicate 128 (.int .i64 0)) (nr * 128)) 208)) W.heap.size nr [] :=
 ⟨_,Blk.new W _ _,size_madeCells _ _,fun r t hr ht=>made_count nr (by omega)⟩
theorem CtI.kept {W W':World} {OB nr:Nat} {M:List Pp} {row:Option Nat} (h:CtI W OB nr M) (hg:W.grownBy W' row) (hne:row≠some OB):CtI W' OB nr M:=by
 obtain ⟨cs,h1,h2⟩:=h
 exact ⟨cs,h1.grown hg hne,h2⟩
theorem CtI.below {W W':World} {OB nr:Nat} {M:List Pp} (h:CtI W OB nr M) (hb:Below W.heap.size W W'):CtI W' OB nr M:=by
 obtain ⟨cs,h1,h2⟩:=h
 exact ⟨cs,h1.below hb,h2⟩
theorem CtI.at' {W:World} {OB nr:Nat} {M:List Pp} (h:CtI W OB nr M) {r t:Nat} (hr:r<nr) (ht:t<128):W.cell? ⟨OB,r * 128+t,none⟩=some (.int .i64 ((M.count ((r:Int),(t:Int)):Nat):Int))∧W.frozen? ⟨OB,r * 128+t,none⟩=false:=by
 obtain ⟨cs,h1,_,h2⟩:=h
 exact ⟨(h1.cell _).trans (h2 r t hr ht),h1.frozen _⟩
theorem CtI.inc {W:World} {OB nr:Nat} {M:List Pp} (h:CtI W OB nr M) {r t:Nat} (hr:r<nr) (ht:t<128):CtI (W.setCell ⟨OB,r * 128+t,none⟩ (.int .i64 ((M.count ((r:Int),(t:Int)):Nat)+1:Int))) OB nr (M++[((r:Int),(t:Int))]):=by
 obtain ⟨cs,h1,h2,h3⟩:=h
 refine ⟨_,h1.set _ _,by rw [Array.size_setIfInBounds];exact h2,fun r' t' hr' ht'=>?_⟩
 rw [Array.getElem?_setIfInBounds,List.count_append,List.count_singleton]
 by_cases e:r=r'∧t=t'
 ·obtain ⟨rfl,rfl⟩:=e
  rw [if_pos rfl,if_pos (by omega)]
  simp
 ·rw [if_neg (by omega),h3 r' t' hr' ht']
  have:((((r:Int),(t:Int)):Pp)==((r':Int),(t':Int)))=false:=by
   rw [beq_eq_false_iff_ne]
   intro q
   have:=Prod.mk.inj q
   exact e ⟨by omega,by omega⟩
  rw [this]
  simp
structure CtX (w:World) (B0 B1 AB KB MB OB BO:Nat) (v1 v2 v3 v4 vk vs vc:Value) (n nr:Nat) (m:List Pl) (M:List Pp) (W:World):Prop where
 b:Below w.heap.size w W
 lo:w.heap.size≤OB
 sp:Blk W B0 27 #[v1,v2,v3,v4]
 hd:Blk W B1 32 #[vk,vs,vc]
 ab:Blk W AB 238 #[.slice (some ⟨KB,0,none⟩) n n,.map (some MB)]
 ks:KsI W KB n m
 ct:CtI W OB nr M
 bo:Blk W BO 206 #[.slice (some ⟨OB,0,none⟩) nr nr]
variable {w : World} {B0 B1 AB KB MB OB BO : Nat} {v1 v2 v3 v4 vk vs vc : Value} {n nr : Nat} {m : List Pl} {M : List Pp} {W W' : World}
theorem CtX.low (h:CtX w B0 B1 AB KB MB OB BO v1 v2 v3 v4 vk vs vc n nr m M W) (hb:Below W.heap.size W W'):CtX w B0 B1 AB KB MB OB BO v1 v2 v3 v4 vk vs vc n nr m M W' :=
 ⟨below_step h.b hb,h.lo,h.sp.below hb,h.hd.below hb,h.ab.below hb,h.ks.below hb,h.ct.below hb,h.bo.below hb⟩
theorem CtX.inc (h:CtX w B0 B1 AB KB MB OB BO v1 v2 v3 v4 vk vs vc n nr m M W) {r t:Nat} (hr:r<nr) (ht:t<128):CtX w B0 B1 AB KB MB OB BO v1 v2 v3 v4 vk vs vc n nr m (M++[((r:Int),(t:Int))]) (W.setCell ⟨OB,r * 128+t,none⟩ (.int .i64 ((M.count ((r:Int),(t:Int)):Nat)+1:Int))):=by
 have hg:=set_grown W OB (r * 128+t) (.int .i64 ((M.count ((r:Int),(t:Int)):Nat)+1:Int))
 obtain ⟨cs,k1,k2⟩:=h.ct
 have ne:∀ {B:Nat} {T:TypeId} {cs':Array Value},Blk W B T cs'→208≠T→some OB≠some B:=fun hb ht e=>k1.ne hb ht (Option.some.inj e)
 obtain ⟨ks,j1,j2⟩:=h.ks
 exact ⟨h.b.grown hg h.b.size (fun k e=>by cases e;exact h.lo),h.lo,h.sp.grown hg (ne h.sp (by decide)),h.hd.grown hg (ne h.hd (by decide)),h.ab.grown hg (ne h.ab (by decide)),h.ks.kept hg (ne j1 (by decide)),h.ct.inc hr ht,h.bo.grown hg (ne h.bo (by decide))⟩
theorem CtX.turn (h:CtX w B0 B1 AB KB MB OB BO v1 v2 v3 v4 vk vs vc n nr m M W) {row:Option Nat} (hg:W.grownBy W' row) (hr:∀ r,row=some r→w.heap.size≤r∧∃ o:Obj,W.heap[r]?=some o∧o.isCells=false):CtX w B0 B1 AB KB MB OB BO v1 v2 v3 v4 vk vs vc n nr m M W':=by
 have ne:∀ {B:Nat} {T:TypeId} {cs':Array Value},Blk W B T cs'→row≠some B:=fun hb e=>by
  obtain ⟨_,o,ho,hc⟩:=hr _ e
  rw [show W.heap[_]?=_ from hb] at ho
  cases ho
  cases hc
 obtain ⟨cs,k1,k2⟩:=h.ct
 obtain ⟨ks,j1,j2⟩:=h.ks
 exact ⟨h.b.grown hg h.b.size (fun k e=>(hr k e).1),h.lo,h.sp.grown hg (ne h.sp),h.hd.grown hg (ne h.hd),h.ab.grown hg (ne h.ab),h.ks.kept hg (ne j1),h.ct.kept hg (ne k1),h.bo.grown hg (ne h.bo)⟩
def DnP (S:Sp) (f:Th→Int) (l:List Int) (p:Pp):Prop:=∃ i,∃ hi:i<S.ss.length,(i:Int)∈l∧∃ key,Acts S f (S.ss[i].div,key)∧playsB S.ss[i] key p=true
def KyP (x:St) (ts:List Nat) (p:Pp):Prop:=∃ t∈ts,playsB x (t:Int) p=true
def covB (y:Pt) (key:Int) (p:Pp):Bool:=decide (y.rank=p.1∧y.lo≤key∧key≤y.hi∧key+y.shift=p.2)
def PtP (x:St) (key:Int) (k:Nat) (p:Pp):Prop:=∃ y∈x.parts.take k,covB y key p=true
theorem PtP_zero (x:St) (key:Int) (p:Pp):¬ PtP x key 0 p:=fun ⟨y,hy,_⟩=>by simp at hy
theorem PtP_all (x:St) (key:Int) {k:Nat} (hk:x.parts.length≤k) (p:Pp):PtP x key k p↔playsB x key p=true:=by
 unfold PtP playsB covB
 rw [List.take_of_length_le hk,List.any_eq_true]
theorem PtP_next {x:St} {key:Int} {k:Nat} (hk:k<x.parts.length) (p:Pp):PtP x key (k+1) p↔PtP x key k p∨covB x.parts[k] key p=true:=by
 unfold PtP
 rw [List.take_succ_eq_append_getElem hk]
 constructor
 ·rintro ⟨y,hy,h⟩
  rcases List.mem_append.1 hy with hy | hy
  ·exact .inl ⟨y,hy,h⟩
  ·rw [List.mem_singleton] at hy;subst hy;exact .inr h
 ·rintro (⟨y,hy,h⟩ | h)
  ·exact ⟨y,List.mem_append_left _ hy,h⟩
  ·exact ⟨_,List.mem_append_right _ (List.mem_singleton.2 rfl),h⟩
theorem cov_out {y:Pt} {key:Int} (h:key<y.lo∨y.hi<key) (p:Pp):covB y key p=false:=by
 unfold covB
 rw [decide_eq_false_iff_not]
 omega
theorem cov_in {y:Pt} {key:Int} (h1:y.lo≤key) (h2:key≤y.hi) (p:Pp):covB y key p=true↔p=(y.rank,key+y.shift):=by
 unfold covB
 rw [decide_eq_true_iff]
 constructor
 ·rintro ⟨a,_,_,b⟩
  exact Prod.ext a.symm b.symm
 ·rintro rfl
  exact ⟨rfl,h1,h2,rfl⟩
theorem cov_dup2 {x:St} {key:Int} {k:Nat} {y z:Pt} (hz:z∈x.parts.take k) (e1:z.rank=y.rank) (e2:z.shift=y.shift) (e3:z.lo≤key) (e4:key≤z.hi) (p:Pp) (h:covB y key p=true):PtP x key k p:=by
 refine ⟨z,hz,?_⟩
 unfold covB at *
 rw [decide_eq_true_iff] at *
 omega
theorem acts_ok {S:Sp} {f:Th→Int} (hf:OnOk S f):∀ x,Acts S f x→keyOk S x=true :=
 act_in (fun d k hd hk=>(hf.key d k (by rw [(mem_playedL.1 hk).2.2];decide)).1) (fun i hi hon k hk ok=>ok) (fun i hi hon ht k hk ok=>ok)
theorem DnP_all {S:Sp} {f:Th→Int} (hf:OnOk S f) (p:Pp):DnP S f (onL f 2 S.ss.length) p↔Snd S f p:=by
 constructor
 ·rintro ⟨i,hi,hin,key,hA,hp⟩
  exact ⟨i,hi,(mem_onL.1 hin).2.2,key,hA,acts_ok hf _ hA,hp⟩
 ·rintro ⟨i,hi,hon,key,hA,_,hp⟩
  exact ⟨i,hi,mem_onL.2 ⟨by omega,by omega,hon⟩,key,hA,hp⟩
theorem DnP_next {S:Sp} {f:Th→Int} {l:List Int} {i:Nat} (hi:i<S.ss.length) {q:Rw} {m:List Pl} (hm:∀ x,x∈m↔Acts S f x) (hq:SetIs q fun t=>decide ((S.ss[i].div,(t:Int))∈m)) (hr:∀ key,Acts S f (S.ss[i].div,key)→0≤key∧key<128) (p:Pp) :
  DnP S f (l++[(i:Int)]) p↔DnP S f l p∨KyP S.ss[i] (nts q) p:=by
 constructor
 ·rintro ⟨j,hj,hin,key,hA,hp⟩
  rcases List.mem_append.1 hin with hin | hin
  ·exact .inl ⟨j,hj,hin,key,hA,hp⟩
  ·rw [List.mem_singleton] at hin
   have e:j=i:=by omega
   subst e
   obtain ⟨h0,h1⟩:=hr key hA
   obtain ⟨t,rfl⟩:=Int.eq_ofNat_of_zero_le h0
   refine .inr ⟨t,mem_nts.2 ⟨by omega,?_⟩,hp⟩
   rw [hq.2 t (by omega),decide_eq_true_iff]
   exact (hm _).2 hA
 ·rintro (⟨j,hj,hin,key,hA,hp⟩ | ⟨t,ht,hp⟩)
  ·exact ⟨j,hj,List.mem_append_left _ hin,key,hA,hp⟩
  ·obtain ⟨h1,h2⟩:=mem_nts.1 ht
   rw [hq.2 t h1,decide_eq_true_iff] at h2
   exact ⟨i,hi,List.mem_append_right _ (List.mem_singleton.2 rfl),(t:Int),(hm _).1 h2,hp⟩
theorem KyP_snoc (x:St) (ts:List Nat) (t:Nat) (p:Pp):KyP x (ts++[t]) p↔KyP x ts p∨playsB x (t:Int) p=true:=by
 unfold KyP
 simp [or_and_right,exists_or]
end Go.Proofs.YteflhbfgpknabaaGreatDoor
namespace Go.Proofs.YteflhbfgpknabaaGreatDoor
open Go.Lib (hid)
open Go.RowKit
section
variable {m : Nat} {P : Program} {md : Region.Mode} {ops : Array Oper}
theorem operIn_still {o:Oper} {a:Act} {w:World} {K:Act→Prop} {K':Act→World→Prop} {Q:Exit→Act→World→Prop} (hk:∀ a,K a→K' a w) (h:o.still P a w K):o.wpIn Fence.wide m P a w K' Q:=by
 have h2:o.wp P a w K' Q:=Oper.wp_of_still hk h
 refine ⟨fun f _=>trivial,?_⟩
 rw [show Fence.wide.round=none from rfl,Oper.semAt_none]
 unfold Oper.wp at h2
 generalize (execOp a.eval o).run P w=r at h2
 cases r with
 | ok x w' =>
  cases x with
  | value v=>exact h2
  | skip=>exact h2
  | defer d=>exact h2
  | enter f args=>exact ⟨fun hx=>(by cases hx),callsIn_wide.2 h2⟩
  | row row args=>exact ⟨fun hx=>(by cases hx),fun c cs _=>by
    obtain ⟨v,w'',hr,hs⟩:=h2 c cs
    exact ⟨v,w'',hr,stepsIn_wide.2 hs⟩⟩
  | _=>exact h2.elim
 | halt x w' =>
  cases x with
  | panic v=>exact h2
  | _=>exact h2.elim
theorem wpOpIn_still {w:World} {i:Nat} {a:Act} {K:Act→Prop} {K':Act→World→Prop} {Q':Exit→Act→World→Prop} (h:∀ a,K a→K' a w) (hh:stOp P ops w i K a):wpOpIn Fence.wide m P ops Q' i K' a w:=by
 unfold stOp at hh
 unfold wpOpIn
 cases ho:ops[i]? with
 | none=>rw [ho] at hh;exact h _ hh
 | some o =>
  rw [ho] at hh
  simp only at hh ⊢
  by_cases hw:Region.wanted o (yielded ops a.tmps)=true
  ·rw [if_pos hw] at hh ⊢
   exact operIn_still h hh
  ·rw [if_neg hw] at hh ⊢
   exact ⟨fun f _=>trivial,h _ hh⟩
theorem anyIn_head {w:World} {n g:Nat} {L:Array Bool→Act→Prop} {Q':Exit→Act→World→Prop} (hL:∀ listed a,L listed a→wpAnyIn Fence.wide m P md ops Q' g listed a w) :
  ∀ (f:Nat) (listed:Array Bool) (a:Act),wpAnyL P md ops w n L f listed a→wpAnyIn Fence.wide m P md ops Q' (f+g) listed a w
 | 0,listed,a,h => by rw [Nat.zero_add];exact hL _ _ h
 | f+1,listed,a,h=>by
  rw [show f+1+g=(f+g)+1 by omega]
  exact ⟨fun h0=>absurd h0 h.1,fun i hi=>wpOpIn_still (fun a' h'=>anyIn_head hL f _ a' h') (h.2 i hi).2⟩
theorem anyIn_seq {Q':Exit→Act→World→Prop}:∀ (l:List Oper) (k:Nat) (listed:Array Bool) (a:Act) (w:World),(∀ j,l[j]?=ops[k+j]?) →
  Region.seqB md ops l.length k listed=true→wpListIn Fence.wide m P ops Q' l a w→wpAnyIn Fence.wide m P md ops Q' l.length listed a w
 | [],_,_,_,_,_,hB,h=>⟨by simpa [Region.seqB] using hB,h⟩
 | o :: l,k,listed,a,w,hl,hB,h=>by
  have h0:ops[k]?=some o:=by simpa using (hl 0).symm
  simp only [List.length_cons,Region.seqB,Bool.and_eq_true,decide_eq_true_eq] at hB
  refine ⟨fun h1=>(by rw [hB.1] at h1;cases h1),fun i hi=>?_⟩
  rw [hB.1] at hi
  have hik:i=k:=by simpa using hi
  subst hik
  have hw:wpOpIn Fence.wide m P ops Q' i (wpListIn Fence.wide m P ops Q' l) a w:=by unfold wpOpIn;simp only [h0];exact h
  exact wpOpIn_mono (fun a' w' h'=>anyIn_seq l (i+1) _ a' w' (fun j=>by have:=hl (j+1);simpa [Nat.add_assoc,Nat.add_comm 1 j] using this) hB.2 h') hw
theorem wpIn_region_still_tail {id:Nat} {Q:Exit→Act→World→Prop} {a:Act} {w:World} {l:List Oper} (n:Nat) (hm:P.follows .mixedOrders=true) (hB:Region.lexTailB .any l.toArray n=true)
  (h:wpStill P l.toArray { w with drawn:=w.drawn+1 } (fun a'=>wpListIn Fence.wide m P l.toArray Q (l.drop n) a' { w with drawn:=w.drawn+1 }) (l.take n) a):(Code.region id l.toArray true).wpIn Fence.wide m P Q a w:=by
 simp only [Region.lexTailB,Bool.and_eq_true,decide_eq_true_eq] at hB
 obtain ⟨⟨⟨⟨hsel,hn⟩,hs⟩,hc⟩,hlex⟩:=hB
 have hn':n<l.length:=by simpa using hn
 have htl:(l.take n).length=n:=by simp;omega
 have hdl:(l.drop n).length=l.toArray.size-n:=by simp
 have inv0:HeadInv .any l.toArray n (Array.replicate l.toArray.size false) :=
  ⟨by simp,fun j oj _ hl=>(by rw [getD_replicate_false] at hl;cases hl),fun t _ ht=>getD_in (by simpa using ht) (getD_replicate_false _ _)⟩
 have H:=wpAnyL_lex (md:=.any) (g:=l.toArray.size-n) hsel hs hc hn (l.take n) 0 _ a (fun j hj=>by
  have hj':j<n:=by rw [htl] at hj;exact hj
  simp [hj']) (by simpa using htl) inv0 (by rw [htl];exact hlex) h
 refine wpIn_region_any hm ?_
 have:=anyIn_head (m:=m) (Q':=Q) (g:=l.toArray.size-n) (fun listed a' hL=>by
  have:=anyIn_seq (m:=m) (md:=.any) (Q':=Q) (l.drop n) n listed a' { w with drawn:=w.drawn+1 } (fun j=>by simp [List.getElem?_drop]) (by rw [hdl];exact hL.1) hL.2
  rwa [hdl] at this) _ _ _ H
 rw [htl,show n+(l.toArray.size-n)=l.toArray.size by omega] at this
 exact this
end
theorem listIn_round {n l:Nat} {P:Program} {ops:Array Oper} {Q:Exit→Act→World→Prop} (hQ:¬ LetsOut Q):∀ (L:List Oper) (a:Act) (w:World),(∀ o∈L,∀ c,o.op ≠ .defer c)→wpList P ops Q L a w→wpListIn (Fence.wide.inRound l) n P ops Q L a w
 | [],_,_,_,h=>h
 | o :: L,a,w,hd,h=>by
  unfold wpList at h
  unfold wpListIn
  by_cases hw:Region.wanted o (yielded ops a.tmps)=true
  ·rw [if_pos hw] at h ⊢
   rcases h with h | h
   ·exact operIn_round (hd o (by simp)) (Oper.wp_mono (fun a w h=>listIn_round hQ L a w (fun o ho=>hd o (by simp [ho])) h) h)
   ·exact absurd h.2 hQ
  ·rw [if_neg hw] at h ⊢
   exact ⟨fun f _=>trivial,listIn_round hQ L _ w (fun o ho=>hd o (by simp [ho])) h⟩
theorem wpIn_region_plain_round {id n r:Nat} {P:Program} {Q:Exit→Act→World→Prop} {a:Act} {w:World} {l:List Oper} (hd:l.all plainOp=true) (h:wpList P l.toArray (Exit.then (fun a w=>Q .normal a w) (fun _ _ _=>False)) l a w):(Code.region id l.toArray false).wpIn (Fence.wide.inRound r) n P Q a w :=
 wpIn_normal (wpIn_region_lit (listIn_round (by rintro ⟨a,w,h⟩;exact h) l a w (fun o ho=>plainOp_is (List.all_eq_true.1 hd o ho)) h))
end Go.Proofs.YteflhbfgpknabaaGreatDoor
namespace Go.Proofs.YteflhbfgpknabaaGreatDoor
open Go.Lib (hid)
open Go
section
variable {P : Program} {b : Frame} {a : Act} {k : List Item} {cs : List Frame} {w : World}
theorem stepR_scope {c:Code}:step P (lone (b.atR a (.code (.scope c) :: k)) cs w) = .next (lone (b.atR a (.code c :: .inScope c :: k)) cs w) :=
 step_lone_go (by simp [stepG,stepG.exec,Frame.atR])
theorem stepR_inScope {c:Code}:step P (lone (b.atR a (.inScope c :: k)) cs w) = .next (lone (b.atR a k) cs w) :=
 step_lone_go (by simp [stepG,stepG.exec,Frame.atR])
end
variable {F : Fence} {n : Nat} {P : Program} {Q : Exit → Act → World → Prop} {a : Act} {w : World}
theorem wpIn_scope_straight {c:Code} (h:c.wpIn F n P (Exit.noGoto Q) a w):(Code.scope c).wpIn F n P Q a w:=by
 intro b k cs hro hb hr
 have h0:(lone (b.atR a (.code (.scope c) :: k)) cs w).fenced P F:=fenced_calm hb hr rfl
 obtain ⟨e,a₁,w₁,hq,harr⟩:=h b (.inScope c :: k) cs hro hb hr
 cases e with
 | normal=>exact ⟨.normal,a₁,w₁,hq,.head h0 stepR_scope (StepsIn.trans harr (.one (fenced_calm hb hr rfl) stepR_inScope))⟩
 | exit id =>
  have hx:exitTo id (.inScope c :: k)=exitTo id k:=by simp [exitTo]
  exact ⟨.exit id,a₁,w₁,hq,fun k' hk => .head h0 stepR_scope (harr.1 k' (by rw [hx];exact hk)),
   fun hr' hk=>let ⟨k₁,h1,h2⟩:=harr.2 hr' (by rw [hx];exact hk);⟨k₁,h1,.head h0 stepR_scope h2⟩⟩
 | goto l=>exact hq.elim
 | ret=>exact ⟨_,a₁,w₁,hq,.of_steps (.one h0 stepR_scope) harr⟩
 | panic ch=>exact ⟨_,a₁,w₁,hq,.of_steps (.one h0 stepR_scope) harr⟩
 | outgrown=>exact ⟨_,a₁,w₁,hq,.of_steps (.one h0 stepR_scope) harr⟩
end Go.Proofs.YteflhbfgpknabaaGreatDoor
