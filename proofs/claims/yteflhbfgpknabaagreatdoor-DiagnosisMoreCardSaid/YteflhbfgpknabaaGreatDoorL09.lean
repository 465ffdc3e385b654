/-
  A part of the proof: UG,APl,AH2,AH3,AH4,AH5,A7,AH6.
-/
import Derived.Test.YteflhbfgpknabaaGreatDoorL02
import Derived.Test.YteflhbfgpknabaaGreatDoorL08
import Derived.Test.YteflhbfgpknabaaGreatDoorL07
import Derived.Laws.MakeOwn
set_option maxRecDepth 100000
set_option maxHeartbeats 6400000
namespace Go.Proofs.YteflhbfgpknabaaGreatDoor
open Go.Lib (hid)
open Go.RowKit
def gpC (x:Pl):List Value:=[.int .i64 x.1,.int .i64 x.2]
def gpCs (l:List Pl):List Value:=(l.map gpC).flatten
theorem gpCs_snoc (l:List Pl) (x:Pl):gpCs (l++[x])=gpCs l++[.int .i64 x.1,.int .i64 x.2]:=by simp [gpCs,gpC]
def ekG (p:Pl):Value:=.agg #[.int .i64 p.1,.int .i64 p.2]
theorem run_eqG (x y:Pl) (w:World):(Op.equalIn 10000 251 (ekG x) (ekG y)).run Tryz.prog w = .ok (decide (x=y)) w:=by
 unfold ekG
 rw [← pl_eq]
 rw [run_equalIn_agg w 9999 251 _ _ (by kernel_rfl) (by kernel_rfl)]
 simp only [Program.fieldsOf,Tryz.underlying251]
 simp [go_sem,Tryz.underlying3,part]
 by_cases h1:x.1=y.1 <;> by_cases h2:x.2=y.2 <;> simp [h1,h2]
theorem chk_gp (b:Bool) (x:Pl) (w:World) (n:Nat):(Instr.checkKey b (n+1+1) 251 (ekG x)).run Tryz.prog w = .ok () w:=by
 unfold ekG
 simp [Instr.checkKey,run_underlying Tryz.underlying251,run_underlying Tryz.underlying3,go_sem,part,Result.andThen]
theorem gp_keys:MapK Tryz.prog 251 ekG :=
 mapK_agg Tryz.underlying251 (fun _ _=>rfl) (fun x y w=>run_eqG x y w) (fun b x w=>chk_gp b x w 9998) (fun x=>by unfold ekG;simp [Instr.sameBits])
theorem mp_not_cells {κ:Type} {ek:κ→Value} {W:World} {b i:Nat} {l:List (κ × Value)} {t:TypeId} {cs:Array Value} (h:Mp ek W b l) (hb:Blk W i t cs):i≠b:=by
 intro e
 subst e
 obtain ⟨es,c,h1,_⟩:=h
 rw [show W.heap[i]?=_ from hb] at h1
 cases h1
theorem Blk.rowed {W W':World} {B:Nat} {T t:TypeId} {cs:Array Value} {base k n:Nat} {v:Value} {xs:List Value} {o:Obj} (hB:Blk W B T cs) (hr:W.ownsRow base t k v n xs) (ht:T≠t) (hg:(W.alloc o).grownBy W' v.ownBlock):Blk W' B T cs :=
 (hB.alloc o).grown hg (row_not hr hB ht)
def KsI (W:World) (KB n:Nat) (m:List Pl):Prop:=∃ cs:Array Value,Blk W KB 202 cs∧cs.size=n * 2 ∧
 ∀ d,d<n→∃ q:Rw,cs[d * 2]?=some (.int .u64 q.1)∧cs[d * 2+1]?=some (.int .u64 q.2)∧SetIs q fun t=>decide (((d:Int),(t:Int))∈m)
theorem KsI.kept {W W':World} {KB n:Nat} {m:List Pl} {row:Option Nat} (h:KsI W KB n m) (hg:W.grownBy W' row) (hne:row≠some KB):KsI W' KB n m:=by
 obtain ⟨cs,h1,h2⟩:=h
 exact ⟨cs,h1.grown hg hne,h2⟩
theorem KsI.below {W W':World} {KB n:Nat} {m:List Pl} (h:KsI W KB n m) (hb:Below W.heap.size W W'):KsI W' KB n m:=by
 obtain ⟨cs,h1,h2⟩:=h
 exact ⟨cs,h1.below hb,h2⟩
theorem KsI.at' {W:World} {KB n:Nat} {m:List Pl} (h:KsI W KB n m) {d:Nat} (hd:d<n):∃ q:Rw,W.cell? ⟨KB,d * 2,none⟩=some (.int .u64 q.1)∧W.cell? ⟨KB,d * 2+1,none⟩=some (.int .u64 q.2)∧SetIs q fun t=>decide (((d:Int),(t:Int))∈m):=by
 obtain ⟨cs,h1,_,h2⟩:=h
 obtain ⟨q,a,b,c⟩:=h2 d hd
 exact ⟨q,(h1.cell _).trans a,(h1.cell _).trans b,c⟩
theorem made_set (n:Nat) {j:Nat} (hj:j<n * 2):(madeCells #[Value.int .u64 0,.int .u64 0] (n * 2))[j]?=some (.int .u64 0):=by
 unfold madeCells
 rw [Array.getElem?_map,Array.getElem?_range,if_pos hj,Option.map_some]
 rcases (show j % 2=0∨j % 2=1 by omega) with h | h
 ·simp [h]
 ·simp [h]
theorem KsI.start (W:World) (n:Nat):KsI (W.alloc (.cells (madeCells #[.int .u64 0,.int .u64 0] (n * 2)) 202)) W.heap.size n [] :=
 ⟨_,Blk.new W _ _,size_madeCells _ _,fun d hd=>⟨(0,0),made_set n (by omega),made_set n (by omega),SetIs.zero.congr fun t _=>by simp⟩⟩
theorem KsI.put {W':World} {KB n:Nat} {m:List Pl} {cs:Array Value} (h2:cs.size=n * 2)
  (h3:∀ d,d<n→∃ q:Rw,cs[d * 2]?=some (.int .u64 q.1)∧cs[d * 2+1]?=some (.int .u64 q.2)∧SetIs q fun t=>decide (((d:Int),(t:Int))∈m))
  {d:Nat} (hd:d<n) {t:Nat} (ht:t<128) {q:Rw} (hq:SetIs q fun t=>decide (((d:Int),(t:Int))∈m))
  (hb:Blk W' KB 202 ((cs.setIfInBounds (d * 2) (.int .u64 ((orR q t).1:Int))).setIfInBounds (d * 2+1) (.int .u64 ((orR q t).2:Int)))):KsI W' KB n (m++[((d:Int),(t:Int))]):=by
 refine ⟨_,hb,by rw [Array.size_setIfInBounds,Array.size_setIfInBounds];exact h2,fun e he=>?_⟩
 by_cases q0:e=d
 ·subst q0
  refine ⟨orR q t,?_,?_,(hq.or ht).congr fun u hu=>?_⟩
  ·rw [Array.getElem?_setIfInBounds,if_neg (by omega),Array.getElem?_setIfInBounds,if_pos rfl,if_pos (by omega)]
  ·rw [Array.getElem?_setIfInBounds,if_pos rfl,if_pos (by rw [Array.size_setIfInBounds];omega)]
  ·rw [Bool.eq_iff_iff,Bool.or_eq_true,decide_eq_true_iff,decide_eq_true_iff,decide_eq_true_iff,List.mem_append,List.mem_singleton,Prod.mk.injEq]
   constructor
   ·rintro (rfl | h)
    ·exact .inr ⟨rfl,rfl⟩
    ·exact .inl h
   ·rintro (h | ⟨_,h⟩)
    ·exact .inr h
    ·exact .inl (by omega)
 ·obtain ⟨r,a,b,c⟩:=h3 e he
  refine ⟨r,?_,?_,c.congr fun u hu=>?_⟩
  ·rw [Array.getElem?_setIfInBounds,if_neg (by omega),Array.getElem?_setIfInBounds,if_neg (by omega)];exact a
  ·rw [Array.getElem?_setIfInBounds,if_neg (by omega),Array.getElem?_setIfInBounds,if_neg (by omega)];exact b
  ·rw [decide_eq_decide,List.mem_append,List.mem_singleton,Prod.mk.injEq]
   exact ⟨.inl,fun h=>h.elim id fun h=>absurd h.1 (by omega)⟩
theorem addK_any (W:World) (KB n:Nat) (m:List Pl) (h:KsI W KB n m) (d:Nat) (hd:d<n) (t:Nat) (ht:t<128) :
  Calls Tryz.prog 153 #[.pointer (some ⟨KB,d * 2,none⟩),.int .i64 t] W fun e W'=>e = .returned (.tuple #[])∧KsI W' KB n (m++[((d:Int),(t:Int))])∧W.grownBy W' (some KB)∧W'.heap.size=W.heap.size:=by
 obtain ⟨cs,h1,h2,h3⟩:=h
 obtain ⟨q,a,b,c⟩:=h3 d hd
 refine (add_set q c.1 t ht KB (d * 2) _ cs W h1 a b).mono ?_
 rintro e W' ⟨rfl,k1,k2,k3⟩
 exact ⟨rfl,KsI.put h2 h3 hd ht c k1,k2,k3⟩
structure AsA where
 b0:Nat
 b1:Nat
 kb:Nat
 mb:Nat
 ab:Nat
 pa:Nat
structure AsM (w:World) (A:AsA) (v1 v2 v3 v4 vk vs vc:Value) (n:Nat) (m:List Pl) (W:World):Prop where
 b:Below w.heap.size w W
 lk:w.heap.size≤A.kb
 lm:w.heap.size≤A.mb
 sp:Blk W A.b0 27 #[v1,v2,v3,v4]
 hd:Blk W A.b1 32 #[vk,vs,vc]
 ks:KsI W A.kb n m
 mp:∃ es,Mp ekG W A.mb es
 ab:Blk W A.ab 238 #[.slice (some ⟨A.kb,0,none⟩) n n,.map (some A.mb)]
 pa:Blk W A.pa 234 #[.pointer (some ⟨A.ab,0,none⟩)]
variable {w : World} {A : AsA} {v1 v2 v3 v4 vk vs vc : Value} {n : Nat} {m : List Pl} {W W' : World}
theorem AsM.low (h:AsM w A v1 v2 v3 v4 vk vs vc n m W) (hb:Below W.heap.size W W'):AsM w A v1 v2 v3 v4 vk vs vc n m W' :=
 ⟨below_step h.b hb,h.lk,h.lm,h.sp.below hb,h.hd.below hb,h.ks.below hb,h.mp.imp fun _ q=>q.below hb,h.ab.below hb,h.pa.below hb⟩
theorem AsM.far (h:AsM w A v1 v2 v3 v4 vk vs vc n m W) {r:Nat} (hr:w.heap.size≤r) {T:TypeId} {cs:Array Value} (hB:Blk W r T cs) (h1:T≠27) (h2:T≠32) (h3:T≠202) (h4:T≠238) (h5:T≠234) (hg:W.grownBy W' (some r)):AsM w A v1 v2 v3 v4 vk vs vc n m W':=by
 have ne:∀ {B:Nat} {t:TypeId} {cs':Array Value},Blk W B t cs'→T≠t→some r≠some B:=fun hb ht e=>hB.ne hb ht (Option.some.inj e)
 obtain ⟨ks,k1,k2⟩:=h.ks
 refine ⟨h.b.grown hg h.b.size (fun k e=>by cases e;exact hr),h.lk,h.lm,h.sp.grown hg (ne h.sp h1),h.hd.grown hg (ne h.hd h2),h.ks.kept hg (ne k1 h3),?_,h.ab.grown hg (ne h.ab h4),h.pa.grown hg (ne h.pa h5)⟩
 obtain ⟨es,he⟩:=h.mp
 exact ⟨es,he.kept hg (fun e=>mp_not_cells he hB (Option.some.inj e).symm)⟩
theorem AsM.row (h:AsM w A v1 v2 v3 v4 vk vs vc n m W) {base k size:Nat} {T:TypeId} {v:Value} {xs:List Value} {o:Obj} (hr:W.ownsRow base T size v k xs) (h1:T≠27) (h2:T≠32) (h3:T≠202) (h4:T≠238) (h5:T≠234) (hb:w.heap.size≤base) (hg:(W.alloc o).grownBy W' v.ownBlock):AsM w A v1 v2 v3 v4 vk vs vc n m W':=by
 have h0:=h.low ((Below.refl _ W).alloc (Nat.le_refl _) o)
 rcases hr.2 with ⟨rfl,_⟩ | ⟨g,cap,cur,rfl,q2,q3,_⟩
 ·exact h0.low ⟨hg.os,hg.tape,hg.output,hg.size,fun i hi=>hg.block i hi (by simp [Value.ownBlock])⟩
 ·have hB:Blk (W.alloc o) g T cur:=(show Blk W g T cur from q3).alloc o
  exact h0.far (Nat.le_trans hb q2) hB h1 h2 h3 h4 h5 hg
theorem AsM.key (h:AsM w A v1 v2 v3 v4 vk vs vc n m W) {m':List Pl} (hk:KsI W' A.kb n m') (hg:W.grownBy W' (some A.kb)):AsM w A v1 v2 v3 v4 vk vs vc n m' W':=by
 obtain ⟨ks,k1,k2⟩:=h.ks
 have ne:∀ {B:Nat} {t:TypeId} {cs':Array Value},Blk W B t cs'→202≠t→some A.kb≠some B:=fun hb ht e=>k1.ne hb ht (Option.some.inj e)
 refine ⟨h.b.grown hg h.b.size (fun k e=>by cases e;exact h.lk),h.lk,h.lm,h.sp.grown hg (ne h.sp (by decide)),h.hd.grown hg (ne h.hd (by decide)),hk,?_,h.ab.grown hg (ne h.ab (by decide)),h.pa.grown hg (ne h.pa (by decide))⟩
 obtain ⟨es,he⟩:=h.mp
 exact ⟨es,he.kept hg (fun e=>mp_not_cells he k1 (Option.some.inj e).symm)⟩
theorem AsM.upd (h:AsM w A v1 v2 v3 v4 vk vs vc n m W) {es es':List (Pl × Value)} (he:Mp ekG W A.mb es) (hm:Mp ekG W' A.mb es') (hg:W.grownBy W' (some A.mb)):AsM w A v1 v2 v3 v4 vk vs vc n m W':=by
 obtain ⟨ks,k1,k2⟩:=h.ks
 have ne:∀ {B:Nat} {t:TypeId} {cs':Array Value},Blk W B t cs'→some A.mb≠some B:=fun hb e=>mp_not_cells he hb (Option.some.inj e).symm
 exact ⟨h.b.grown hg h.b.size (fun k e=>by cases e;exact h.lm),h.lk,h.lm,h.sp.grown hg (ne h.sp),h.hd.grown hg (ne h.hd),h.ks.kept hg (ne k1),⟨_,hm⟩,h.ab.grown hg (ne h.ab),h.pa.grown hg (ne h.pa)⟩
def Two (A:AsA) (W W':World):Prop:=W.heap.size≤W'.heap.size∧∀ B,B<W.heap.size→B≠A.kb→B≠A.mb→W'.heap[B]?=W.heap[B]?
theorem Two.refl (A:AsA) (W:World):Two A W W:=⟨Nat.le_refl _,fun _ _ _ _=>rfl⟩
theorem Two.trans {W1 W2 W3:World} (h:Two A W1 W2) (k:Two A W2 W3):Two A W1 W3:=⟨Nat.le_trans h.1 k.1,fun B hB h1 h2=>(k.2 B (Nat.lt_of_lt_of_le hB h.1) h1 h2).trans (h.2 B hB h1 h2)⟩
theorem Two.low (hb:Below W.heap.size W W'):Two A W W':=⟨hb.size,fun B hB _ _=>hb.block B hB⟩
theorem Two.kb (hg:W.grownBy W' (some A.kb)):Two A W W':=⟨hg.size,fun B hB h _=>hg.block B hB (fun e=>h (Option.some.inj e))⟩
theorem Two.mb (hg:W.grownBy W' (some A.mb)):Two A W W':=⟨hg.size,fun B hB _ h=>hg.block B hB (fun e=>h (Option.some.inj e))⟩
theorem Two.row {W0:World} (h:Two A W0 W) {k size:Nat} {T:TypeId} {v:Value} {xs:List Value} {o:Obj} (hr:W.ownsRow W0.heap.size T size v k xs) (hg:(W.alloc o).grownBy W' v.ownBlock):Two A W0 W':=by
 refine ⟨Nat.le_trans h.1 (Nat.le_trans (by rw [World.size_alloc];omega) hg.size),fun B hB h1 h2=>?_⟩
 have hBW:=Nat.lt_of_lt_of_le hB h.1
 have e1:(W.alloc o).heap[B]?=W.heap[B]?:=Below.heap_alloc W o B hBW
 refine (hg.block B (by rw [World.size_alloc];omega) (fun e=>?_)).trans (e1.trans (h.2 B hB h1 h2))
 rcases hr.2 with ⟨rfl,_⟩ | ⟨g,cap,cur,rfl,q2,q3,_⟩
 ·cases e
 ·simp only [Value.ownBlock,Option.some.injEq] at e
  omega
theorem Two.blk (h:Two A W W') {B:Nat} {T:TypeId} {cs:Array Value} (hB:Blk W B T cs) (hT:202≠T) (ha:AsM w A v1 v2 v3 v4 vk vs vc n m W):Blk W' B T cs:=by
 obtain ⟨ks,k1,k2⟩:=ha.ks
 obtain ⟨es,he⟩:=ha.mp
 exact (h.2 B hB.lt (fun e=>k1.ne hB hT e.symm) (mp_not_cells he hB)).trans hB
theorem Two.owns (h:Two A W W') {base k size:Nat} {T:TypeId} {v:Value} {xs:List Value} (hr:W.ownsRow base T size v k xs) (hT:202≠T) (ha:AsM w A v1 v2 v3 v4 vk vs vc n m W):W'.ownsRow base T size v k xs:=by
 obtain ⟨e1,⟨e2,e3⟩ | ⟨g,cap,cur,e2,e4,e5,e6⟩⟩:=hr
 ·exact ⟨e1,.inl ⟨e2,e3⟩⟩
 ·exact ⟨e1,.inr ⟨g,cap,cur,e2,e4,h.blk (show Blk W g T cur from e5) hT ha,e6⟩⟩
abbrev SlA:=Option Addr × Nat × Nat
def encS (p:SlA):Value:=.slice p.1 p.2.1 p.2.2
structure GpI (W:World) (base:Nat) (v:Value) (ps:List (SlA × List Pl)):Prop where
 out:W.ownsRow base 254 1 v ps.length (ps.map fun p=>encS p.1)
 ins:∀ p∈ps,W.ownsRow base 251 2 (encS p.1) p.2.length (gpCs p.2)
theorem GpI.nil (W:World) (base:Nat):GpI W base (.slice none 0 0) []:=⟨World.ownsRow_nil _ _ _ _,fun p h=>(by cases h)⟩
theorem GpI.low {base:Nat} {v:Value} {ps:List (SlA × List Pl)} (h:GpI W base v ps) (hb:Below W.heap.size W W'):GpI W' base v ps :=
 ⟨row_later h.out hb,fun p hp=>row_later (h.ins p hp) hb⟩
theorem GpI.two {base:Nat} {v:Value} {ps:List (SlA × List Pl)} (h:GpI W base v ps) (h2:Two A W W') (ha:AsM w A v1 v2 v3 v4 vk vs vc n m W):GpI W' base v ps :=
 ⟨h2.owns h.out (by decide) ha,fun p hp=>h2.owns (h.ins p hp) (by decide) ha⟩
theorem GpI.base {base base':Nat} {v:Value} {ps:List (SlA × List Pl)} (h:GpI W base v ps) (hb:base'≤base):GpI W base' v ps:=⟨row_base h.out hb,fun p hp=>row_base (h.ins p hp) hb⟩
theorem owns_rowed {W W':World} {base base' k k' n n':Nat} {T t:TypeId} {v v':Value} {xs xs':List Value} {o:Obj} (h:W.ownsRow base' T k' v' n' xs') (hr:W.ownsRow base t k v n xs) (ht:T≠t) (hg:(W.alloc o).grownBy W' v.ownBlock):W'.ownsRow base' T k' v' n' xs':=by
 obtain ⟨e1,⟨e2,e3⟩ | ⟨g,cap,cur,e2,e4,e5,e6⟩⟩:=h
 ·exact ⟨e1,.inl ⟨e2,e3⟩⟩
 ·exact ⟨e1,.inr ⟨g,cap,cur,e2,e4,Blk.rowed (show Blk W g T cur from e5) hr ht hg,e6⟩⟩
theorem GpI.push {base g cap:Nat} {v:Value} {ps:List (SlA × List Pl)} (h:GpI W base v ps) {q:SlA} {l:List Pl} (hq:W.ownsRow base 251 2 (encS q) l.length (gpCs l)) {o:Obj} (hg:(W.alloc o).grownBy W' v.ownBlock)
  (hown:W'.ownsRow base 254 1 (.slice (some ⟨g,0,none⟩) (ps.length+1) cap) (ps.length+1) ((ps.map fun p=>encS p.1)++[encS q])):GpI W' base (.slice (some ⟨g,0,none⟩) (ps.length+1) cap) (ps++[(q,l)]):=by
 refine ⟨by rw [List.length_append,List.map_append];exact hown,fun p hp=>?_⟩
 rcases List.mem_append.1 hp with hp | hp
 ·exact owns_rowed (h.ins p hp) h.out (by decide) hg
 ·rw [List.mem_singleton] at hp
  subst hp
  exact owns_rowed hq h.out (by decide) hg
theorem own_slice {base k n:Nat} {T:TypeId} {v:Value} {xs:List Value} (h:W.ownsRow base T k v n xs):∃ q:SlA,v=encS q∧q.2.1=n∧q.2.1≤q.2.2:=by
 rcases h.2 with ⟨rfl,rfl⟩ | ⟨g,cap,cur,rfl,_,_,hc,_⟩
 ·exact ⟨(none,0,0),rfl,rfl,Nat.le_refl _⟩
 ·exact ⟨(some ⟨g,0,none⟩,n,cap),rfl,rfl,hc⟩
def rchM (S:Sp) (i:Nat):List Pl→List Pl × List Pl→List Pl × List Pl
 | [],s=>s
 | x :: l,s=>rchM S i l (addM S s.1 (thrTo S x i),addQ S s.1 s.2 (thrTo S x i))
theorem rchM_snoc (S:Sp) (i:Nat):∀ (l:List Pl) (x:Pl) (s:List Pl × List Pl),rchM S i (l++[x]) s=(addM S (rchM S i l s).1 (thrTo S x i),addQ S (rchM S i l s).1 (rchM S i l s).2 (thrTo S x i))
 | [],_,_=>rfl
 | y :: l,x,s=>by rw [List.cons_append,rchM,rchM_snoc S i l x];rfl
theorem rchM_pd (S:Sp) (i:Nat):∀ (l:List Pl) (mm pd o:List Pl),(rchM S i l (mm,pd++o)).1=(rchM S i l (mm,o)).1∧(rchM S i l (mm,pd++o)).2=pd++(rchM S i l (mm,o)).2
 | [],_,_,_=>⟨rfl,rfl⟩
 | x :: l,mm,pd,o=>by
  have e:addQ S mm (pd++o) (thrTo S x i)=pd++addQ S mm o (thrTo S x i):=by
   unfold addQ
   split
   ·rw [List.append_assoc]
   ·rfl
  rw [rchM,rchM]
  simp only
  rw [e]
  exact rchM_pd S i l _ pd _
end Go.Proofs.YteflhbfgpknabaaGreatDoor
namespace Go.Proofs.YteflhbfgpknabaaGreatDoor
open Go.Lib (hid)
open Go.RowKit
theorem keyIn_at {S:Sp} {d:Nat} (hd:d<S.ds.length) (n:Int):keyIn S (d:Int) n=decide (S.ds[d].lo≤n∧n≤S.ds[d].hi):=by unfold keyIn;rw [Int.toNat_natCast,List.getElem?_eq_getElem hd]
theorem made_flat {α:Type} {enc:α→List Value} (x:α) {k:Nat} (hk:∀ y,(enc y).length=k) (hk0:0<k) (n:Nat):(madeCells (enc x).toArray (n * k)).toList=((List.replicate n x).map enc).flatten:=by
 apply List.ext_getElem?
 intro q
 by_cases h:q<n * k
 ·have hd:=Nat.div_add_mod q k
  have hm:=Nat.mod_lt q hk0
  have hql:q / k<n:=(Nat.div_lt_iff_lt_mul hk0).2 h
  have e1:=flat_get ((List.replicate n x).map enc) (by intro r hr;obtain ⟨p,_,rfl⟩:=List.mem_map.1 hr;exact hk p) (q / k) (by simpa using hql) (q % k) hm
  rw [Nat.mul_comm (q / k) k,hd] at e1
  rw [e1]
  simp only [List.getElem_map,List.getElem_replicate,madeCells,Array.getElem?_toList,Array.getElem?_map]
  rw [Array.getElem?_range,if_pos h]
  simp only [Option.map_some,List.size_toArray,hk x]
  rw [List.getElem?_eq_getElem (by rw [hk];exact hm),getElem!_pos _ _ (by simpa [hk x] using hm)]
  simp
 ·rw [List.getElem?_eq_none (by rw [Array.length_toList,size_madeCells];omega),List.getElem?_eq_none (by rw [enc_len hk,List.length_replicate];omega)]
theorem run_make_rowN {P:Program} (t e:TypeId) (i:TypeInfo) (z:Value) (ht:P.underlying t=some (.slice e)) (hi:P.info? e=some i) (hz:i.zero=some z)
  (kl kc:IntKind) (n c:Nat) (hnc:n≤c) (hbytes:i.bytes * c≤281474976710656) (h63:c≤9223372036854775807) (w:World) :
  (Instr.makeSlice t (.int kl (n:Int)) (.int kc (c:Int))).run P w = .ok (.slice (some ⟨w.heap.size,0,none⟩) n c) (w.alloc (.cells (madeCells z.cells (c * i.size)) e)):=by
 have hb:(i.bytes:Int) * (c:Int)≤281474976710656:=by
  have h:((i.bytes * c:Nat):Int)≤281474976710656:=by omega
  rwa [Int.natCast_mul] at h
 have hr:=run_make (P:=P) w t e i z ht hi hz kl kc n c (by omega) (by omega) hb (by omega)
 simp only [Int.toNat_natCast] at hr
 exact hr
theorem row_block {W:World} {base:Nat} {t:TypeId} {k n:Nat} {v:Value} {xs:List Value} (h:W.ownsRow base t k v n xs) {j:Nat} (hj:v.ownBlock=some j):j<W.heap.size:=by
 rcases h.2 with ⟨q,_⟩ | ⟨g2,cap2,cur2,q,_,hg2,_⟩
 ·rw [q] at hj;cases hj
 ·rw [q] at hj
  cases hj
  exact (Array.getElem?_eq_some_iff.1 hg2).1
theorem own_form {W:World} {base:Nat} {t:TypeId} {k n:Nat} {v:Value} {xs:List Value} (h:W.ownsRow base t k v n xs):∃ a c,v = .slice a n c:=by
 rcases h.2 with ⟨e,e0⟩ | ⟨g,cap,cur,e,_⟩
 ·exact ⟨none,0,by rw [e,e0]⟩
 ·exact ⟨_,_,e⟩
theorem HdRd.forms {W:World} {vk vs vc:Value} {S:Sp} {f:Th→Int} (h:HdRd W vk vs vc S f):(∃ a c,vk = .slice a S.ds.length c)∧(∃ a c,vs = .slice a (onL f 2 S.ss.length).length c)∧(∃ a c,vc = .slice a (onL f 3 S.cs.length).length c):=by
 obtain ⟨⟨g,h1,_⟩,h2,h3⟩:=h
 obtain ⟨a1,c1,e1⟩:=h1.form
 obtain ⟨a2,c2,e2⟩:=h2.form
 obtain ⟨a3,c3,e3⟩:=h3.form
 exact ⟨⟨a1,c1,by simpa using e1⟩,⟨a2,c2,by simpa using e2⟩,⟨a3,c3,by simpa using e3⟩⟩
theorem asc_onL (f:Th→Int) (k:Int) (n:Nat):(onL f k n).Pairwise (· < ·):=by
 unfold onL
 refine List.Pairwise.filter _ ?_
 rw [List.pairwise_map]
 exact List.pairwise_lt_range.imp fun h=>by omega
theorem asc_playedL (f:Th→Int) (d:Int):(playedL f d).Pairwise (· < ·):=by
 unfold playedL
 refine List.Pairwise.filter _ ?_
 rw [List.pairwise_map]
 exact List.pairwise_lt_range.imp fun h=>by omega
theorem len_playedL (f:Th→Int) (d:Int):(playedL f d).length≤128:=by rw [← playN_all];exact len_playN _ _ _
theorem OnOk.range {S:Sp} {f:Th→Int} (h:OnOk S f) {d:Nat} (hd:d<S.ds.length):∀ k∈playedL f d,S.ds[d].lo≤k∧k≤S.ds[d].hi:=by
 intro k hk
 have h1:=(mem_playedL.1 hk).2.2
 have h2:=(h.key d k (by rw [h1];decide)).1
 unfold keyOk at h2
 rw [Bool.and_eq_true,Bool.and_eq_true] at h2
 have h3:=h2.1.2
 simp only at h3
 unfold keyIn at h3
 rw [Int.toNat_natCast,List.getElem?_eq_getElem hd] at h3
 simp only [decide_eq_true_iff] at h3
 exact h3
theorem rising_ok (l:List Int) (v:Value) (lo up bad:Int) (w:World) (hv:ARd w v 1 (l.map iC)) (ha:l.Pairwise (· < ·)) (hb:∀ x∈l,lo≤x∧x≤up) (hl:l.length≤10000) :
  Calls Tryz.prog 67 #[v,.int .i64 lo,.int .i64 up,.int .i64 bad] w fun e w'=>e = .returned (.int .i64 0)∧∃ n,w'=w.drewN n:=by
 obtain ⟨a,c,rfl⟩:=hv.intForm
 have HV:=hid hv
 have HA:=hid ha
 have HB:=hid hb
 have H0:Hid (∃ n,w=w.drewN n):=hid ⟨0,rfl⟩
 clear hv ha hb
 go_enter Tryz.func67,Tryz.ntmps67
 go_wp2
 go_loopw [9] (fun x wr=>∃ i:Nat,i≤l.length∧x = .int .i64 i∧Hid (∃ n,wr=w.drewN n)) (fun x _=>l.length-(intOf x).toNat)
 case atStart=>exact ⟨0,Nat.zero_le _,rfl,H0⟩
 obtain ⟨i,hi,rfl,hW⟩:=hrel
 obtain ⟨nn,hnn⟩:=hW.out
 have hbw:Below w.heap.size w wr:=by rw [hnn];exact below_drewN (Below.refl _ _) _
 have HBW:=hid hbw
 have HNN:=hid hnn
 clear hnn hbw hW
 by_cases hil:i<l.length
 ·have hi2:(i:Int)<(l.length:Int):=by omega
  obtain ⟨b,o,c',ev,hbl,q0⟩:=(HV.out.later HBW.out).intAt i hil
  cases ev
  obtain ⟨h1,h2⟩:=HB.out _ (List.getElem_mem hil)
  obtain ⟨x,hx⟩:∃ x,l[i]=x:=⟨_,rfl⟩
  rw [hx] at q0 h1 h2
  have d1:decide (x<lo)=false:=decide_eq_false (by omega)
  have d2:decide (up<x)=false:=decide_eq_false (by omega)
  have HX:=hid hx
  clear hx h1 h2
  by_cases hz:i=0
  ·have d3:decide (0<i)=false:=decide_eq_false (by omega)
   have d4:decide ((0:Int)<(i:Int))=false:=decide_eq_false (by omega)
   clear hz
   go_wp2_with fail
   go_quiet (fail)
   have HN2:Hid (∃ n,wr.drewN nq=w.drewN n):=hid ⟨nn+nq,by rw [HNN.out];exact World.drewN_drewN _ _ _⟩
   go_wp2
   go_roundw
   case rel=>exact ⟨i+1,by omega,by go_num,HN2⟩
   case measure=>simp [intOf];omega
  ·have d3:decide (0<i)=true:=decide_eq_true (by omega)
   have d4:decide ((0:Int)<(i:Int))=true:=decide_eq_true (by omega)
   obtain ⟨b',o',c',ev,_,q1⟩:=(HV.out.later HBW.out).intAt (i-1) (by omega)
   cases ev
   obtain ⟨y,hy⟩:∃ y,l[i-1]'(by omega)=y:=⟨_,rfl⟩
   have hlt:=List.pairwise_iff_getElem.1 HA.out (i-1) i (by omega) hil (by omega)
   rw [hy] at q1 hlt
   rw [HX.out] at hlt
   have d5:decide (x≤y)=false:=decide_eq_false (by omega)
   have e1:IntKind.i64.wrap ((i:Int)-1)=(i:Int)-1:=IntWalk.i64_in _ (by omega)
   have e2:0≤(i:Int)-1:=by omega
   have e3:((i:Int)-1).toNat=i-1:=by omega
   have e4:(i:Int)-1<(l.length:Int):=by omega
   have e5:1≤(i:Int):=by omega
   clear hy hlt
   go_wp2_with fail
   go_quiet (fail)
   have HN2:Hid (∃ n,wr.drewN nq=w.drewN n):=hid ⟨nn+nq,by rw [HNN.out];exact World.drewN_drewN _ _ _⟩
   clear e1 e2 e3 e4 e5
   go_wp2
   go_roundw
   case rel=>exact ⟨i+1,by omega,by go_num,HN2⟩
   case measure=>simp [intOf];omega
 ·have hi2:¬ (i:Int)<(l.length:Int):=by omega
  go_wp2
  go_ret
  exact ⟨rfl,_,HNN.out⟩
theorem HdRd.keyAt {W:World} {vk vs vc:Value} {S:Sp} {f:Th→Int} (h:HdRd W vk vs vc S f) {d:Nat} (hd:d<S.ds.length):∃ b o c g,vk = .slice (some ⟨b,o,none⟩) S.ds.length c∧W.cell? ⟨b,o+d,none⟩=some g∧ARd W g 1 ((playedL f d).map iC):=by
 obtain ⟨⟨g,h1,h2⟩,_⟩:=h
 obtain ⟨b,o,c,e,_,hc⟩:=h1.at d (by simpa using hd)
 refine ⟨b,o,c,g d,by simpa using e,?_,h2 d hd⟩
 have:=hc 0 (g d) (by simp)
 simpa using this
theorem check12_ok (v1 v2 v3 v4:Value) (S:Sp) (ok:SpOk S) (hc:(checkP S).2=0) (fp:Nat→Value) (vk vs vc:Value) (f:Th→Int) (hf:OnOk S f) (w:World) (hsp:SpRd w v1 v2 v3 v4 fp S) (hh:HdRd w vk vs vc S f) :
  Calls Tryz.prog 33 #[.agg #[v1,v2,v3,v4],.agg #[vk,vs,vc]] w (NumR 0 w):=by
 obtain ⟨l1,_,l3,l4⟩:=sp_lens hc
 obtain ⟨⟨a1,c1,rfl⟩,_,⟨a3,c3,rfl⟩,⟨a4,c4,rfl⟩⟩:=hsp.forms
 obtain ⟨⟨ak,ck,rfl⟩,⟨as',cs',rfl⟩,⟨ac,cc,rfl⟩⟩:=hh.forms
 have HSP:=hid hsp
 have HOK:=hid ok
 have HF:=hid hf
 have HH:=hid hh
 have hcv:ckV (checkP S) = .tuple #[.agg #[.int .i64 (checkP S).1.1,.int .i64 (checkP S).1.2.1,.int .i64 (checkP S).1.2.2],.int .i64 0]:=by unfold ckV;rw [hc]
 obtain ⟨fl,hfl⟩:∃ fl,(checkP S).1=fl:=⟨_,rfl⟩
 rw [hfl] at hcv
 have HCV:=hid hcv
 have b0:=(Blk.new w 27 #[.slice a1 S.ds.length c1,v2,.slice a3 S.ss.length c3,.slice a4 S.cs.length c4]).alloc (.cells #[.slice ak S.ds.length ck,.slice as' (onL f 2 S.ss.length).length cs',.slice ac (onL f 3 S.cs.length).length cc] 32)
 have b1:=Blk.new (w.alloc (.cells #[.slice a1 S.ds.length c1,v2,.slice a3 S.ss.length c3,.slice a4 S.cs.length c4] 27)) 32 #[.slice ak S.ds.length ck,.slice as' (onL f 2 S.ss.length).length cs',.slice ac (onL f 3 S.cs.length).length cc]
 rw [World.size_alloc] at b1
 have B0:=hid b0
 have B1:=hid b1
 have HB:=hid (below_two w (.cells #[.slice a1 S.ds.length c1,v2,.slice a3 S.ss.length c3,.slice a4 S.cs.length c4] 27) (.cells #[.slice ak S.ds.length ck,.slice as' (onL f 2 S.ss.length).length cs',.slice ac (onL f 3 S.cs.length).length cc] 32))
 clear hsp ok hf hh hcv hfl hc b0 b1
 go_enter Tryz.func33,Tryz.ntmps33
 go_wp2_with fail
 generalize (w.alloc (.cells #[.slice a1 S.ds.length c1,v2,.slice a3 S.ss.length c3,.slice a4 S.cs.length c4] 27)).alloc (.cells #[.slice ak S.ds.length ck,.slice as' (onL f 2 S.ss.length).length cs',.slice ac (onL f 3 S.cs.length).length cc] 32)=W at *
 refine (rcheck_any _ _ _ _ S HOK.out _ fp (HSP.out.later HB.out)).mono ?_
 rw [HCV.out]
 rintro e W1 ⟨rfl,hb1⟩
 obtain ⟨W2,hw2⟩:∃ W2,W1.alloc (.cells #[.int .i64 fl.1,.int .i64 fl.2.1,.int .i64 fl.2.2] 69)=W2:=⟨_,rfl⟩
 have hb2:Below W1.heap.size W1 W2:=by rw [← hw2];exact (Below.refl _ _).alloc (Nat.le_refl _) _
 have HB2:=hid (below_step (below_step HB.out hb1) hb2)
 have C0:=hid ((B0.out.below hb1).below hb2)
 have C1:=hid ((B1.out.below hb1).below hb2)
 clear hb1 hb2 HB B0 B1
 obtain ⟨s0,s1,s2,s3⟩:=C0.out.four
 have h0:W2.cell? ⟨w.heap.size+1,0,none⟩=some (.slice ak S.ds.length ck):=C1.out.cell 0
 have hrefl:Hid (Below W2.heap.size W2 W2):=hid (Below.refl _ _)
 go_wp2
 go_loopw [7] (fun x wr=>∃ i:Nat,i≤S.ds.length∧x = .int .i64 i∧Hid (Below W2.heap.size W2 wr)) (fun x _=>S.ds.length-(intOf x).toNat)
 case atStart=>exact ⟨0,Nat.zero_le _,rfl,hrefl⟩
 clear s0 s1 s2 s3 h0 hrefl hw2
 obtain ⟨i,hi,rfl,hW⟩:=hrel
 have HBW:=hid (below_step HB2.out hW.out)
 obtain ⟨s0,s1,s2,s3⟩:=(C0.out.below hW.out).four
 have hC1:=C1.out.below hW.out
 have h0:wr.cell? ⟨w.heap.size+1,0,none⟩=some (.slice ak S.ds.length ck):=hC1.cell 0
 have h1:wr.cell? ⟨w.heap.size+1,1,none⟩=some (.slice as' (onL f 2 S.ss.length).length cs'):=hC1.cell 1
 have h2:wr.cell? ⟨w.heap.size+1,2,none⟩=some (.slice ac (onL f 3 S.cs.length).length cc):=hC1.cell 2
 clear hC1
 by_cases hil:i<S.ds.length
 ·have hi2:(i:Int)<(S.ds.length:Int):=by omega
  obtain ⟨b,o,c,ev,hbl,r0,r1,r2⟩:=(HSP.out.later HBW.out).dAt i hil
  cases ev
  obtain ⟨b',o',c',g,ev,g0,hg⟩:=(HH.out.later HBW.out).keyAt hil
  cases ev
  obtain ⟨av,cv,rfl⟩:=hg.intForm
  have HR:=hid (fun (nn:Nat)=>rising_ok (playedL f i) _ S.ds[i].lo S.ds[i].hi 7 (wr.drewN nn) (hg.later (below_drewN (Below.refl _ _) nn)) (asc_playedL f i) (HF.out.range hil) (Nat.le_trans (len_playedL f i) (by decide)))
  obtain ⟨lo,hlo⟩:∃ lo,lo=S.ds[i].lo:=⟨_,rfl⟩
  obtain ⟨up,hup⟩:∃ up,up=S.ds[i].hi:=⟨_,rfl⟩
  rw [← hlo] at r1 HR
  rw [← hup] at r2 HR
  clear hlo hup hg
  go_wp2_with fail
  go_quiet ((go_at_call 67;exact Calls.quiet_of (HR.out _)))
  have HB3:=hid (below_drewN hW.out nq)
  go_wp2
  go_roundw
  case rel=>exact ⟨i+1,by omega,by go_num,HB3⟩
  case measure=>simp [intOf];omega
 ·have hi2:¬ (i:Int)<(S.ds.length:Int):=by omega
  have hl2:=len_onL f 2 S.ss.length
  have hl3:=len_onL f 3 S.cs.length
  have HRS:=hid (fun (W3:World) (hb:Below W2.heap.size W2 W3)=>rising_ok (onL f 2 S.ss.length) _ 0 ((S.ss.length:Int)-1) 4 W3 ((HH.out.later (below_step HB2.out hb)).stops) (asc_onL f 2 _) (fun x hx=>by have:=mem_onL.1 hx;omega) (by omega))
  have HRC:=hid (fun (W3:World) (hb:Below W2.heap.size W2 W3)=>rising_ok (onL f 3 S.cs.length) _ 0 ((S.cs.length:Int)-1) 4 W3 ((HH.out.later (below_step HB2.out hb)).cous) (asc_onL f 3 _) (fun x hx=>by have:=mem_onL.1 hx;omega) (by omega))
  have e1:IntKind.i64.wrap ((S.ss.length:Int)-1)=(S.ss.length:Int)-1:=IntWalk.i64_in _ (by omega)
  have e2:IntKind.i64.wrap ((S.cs.length:Int)-1)=(S.cs.length:Int)-1:=IntWalk.i64_in _ (by omega)
  clear hl2 hl3
  go_wp2_with fail
  refine (HRS.out wr hW.out).mono ?_
  rintro e W3 ⟨rfl,n3,rfl⟩
  have hb3:=below_drewN hW.out n3
  have HB3:=hid (below_step HB2.out hb3)
  go_wp2_with fail
  refine (HRC.out _ hb3).mono ?_
  rintro e W4 ⟨rfl,n4,rfl⟩
  have HB4:=hid (below_drewN HB3.out n4)
  go_wp2
  go_ret
  exact numR rfl (by have:=HB4.out;rwa [World.drewN_drewN] at this)
theorem append_int (W:World) (base:Nat) (V:Value) (xs:List Int) (hown:W.ownsRow base 3 1 V xs.length (iCs xs)) (v:Value) (l:List Int) (hv:ARd W v 1 (l.map iC)) (hl:xs.length+l.length≤1000000000) (hb:base≤W.heap.size) :
  ∃ V' w',(Builtin.append_ #[30,30] 30 #[V,v]).run Tryz.prog W = .ok V' w'∧w'.ownsRow base 3 1 V' (xs++l).length (iCs (xs++l))∧W.grownBy w' V.ownBlock:=by
 obtain ⟨i0,hi,hz0,hz1,hz2⟩:=info_parts int64_info
 obtain ⟨V',w',h1,h2,h3⟩:=append_src W base 30 3 i0 _ 1 8 Tryz.underlying30 hi hz0 hz1 hz2 rfl (by omega) (by omega) V xs.length (iCs xs) hown v (l.map iC) (by intro r hr;obtain ⟨p,_,rfl⟩:=List.mem_map.1 hr;rfl) (by rw [← iCs_flat];intro u hu;obtain ⟨p,_,rfl⟩:=List.mem_map.1 hu;rfl) hv (by simpa using hl) hb
 refine ⟨V',w',h1,?_,h3⟩
 rw [List.length_map,← iCs_flat] at h2
 rw [List.length_append]
 unfold iCs at h2 ⊢
 rw [List.map_append]
 exact h2
theorem ard_one (w:World) (x:Int):ARd (w.alloc (.cells #[.int .i64 x] 3)) (.slice (some ⟨w.heap.size,0,none⟩) 1 1) 1 ([x].map iC):=⟨_,1,rfl,fun i hi=>⟨w.heap.size,0,rfl,by simp,fun j u hj=>by
 have hi0:i=0:=by simpa using hi
 subst hi0
 have hj0:j=0:=by
  have:=(List.getElem?_eq_some_iff.1 hj).1
  simp [iC] at this
  exact this
 subst hj0
 have e:u = .int .i64 x:=by simpa [iC] using hj.symm
 rw [e]
 exact (Blk.new w 3 #[.int .i64 x]).cell 0⟩⟩
def IsR (l:List Int) (w:World) (e:Ending) (w':World):Prop:=∃ v,e = .returned v∧w'.ownsRow w.heap.size 3 1 v l.length (iCs l)∧Below w.heap.size w w'
theorem with_any (l:List Int) (v:Value) (n:Int) (w:World) (hv:ARd w v 1 (l.map iC)) (hl:l.length≤100000) :
  Calls Tryz.prog 159 #[v,.int .i64 n] w (IsR (l++[n]) w):=by
 have hb0:Below w.heap.size w (w.alloc (.cells #[] 3)):=(Below.refl _ _).alloc (Nat.le_refl _) _
 obtain ⟨V1,w1,hr1,o1,g1⟩:=append_int _ w.heap.size _ [] (row_empty w _) v l (hv.later hb0) (by simp;omega) hb0.size
 rw [List.nil_append] at o1
 have hb1:Below w.heap.size w w1:=hb0.grown g1 hb0.size (fun j e=>by simp [Value.ownBlock] at e;omega)
 have hb2:Below w.heap.size w (w1.alloc (.cells #[.int .i64 n] 3)):=hb1.alloc hb1.size _
 have o1':=row_later o1 ((Below.refl _ w1).alloc (Nat.le_refl _) (.cells #[.int .i64 n] 3))
 obtain ⟨V2,w2,hr2,o2,g2⟩:=append_int _ w.heap.size _ l o1' _ [n] (ard_one w1 n) (by simp;omega) hb2.size
 have HO:=hid o2
 have HB:=hid (hb2.grown g2 hb2.size (fun j e=>row_ge o1' e))
 clear hb0 o1 g1 hb1 hb2 o1' o2 g2
 go_enter Tryz.func159,Tryz.ntmps159
 go_wp2_with (first | (at_builtin;refine Lib.wpList_append_run _ rfl _ _ _ _ rfl _ _ rfl rfl _ _ hr1 ?_) | (at_builtin;refine Lib.wpList_append_run _ rfl _ _ _ _ rfl _ _ rfl rfl _ _ hr2 ?_))
 go_ret
 exact ⟨_,rfl,HO.out,HB.out⟩
theorem less_any (l m:List Int) (v u:Value) (w:World) (hv:ARd w v 1 (l.map iC)) (hu:ARd w u 1 (m.map iC)) (hl:l.length≤100000) :
  Calls Tryz.prog 185 #[v,u] w fun e w'=>(∃ b:Bool,e = .returned (.bool b))∧Below w.heap.size w w':=by
 obtain ⟨a,c,rfl⟩:=hv.intForm
 obtain ⟨a2,c2,rfl⟩:=hu.intForm
 have HV:=hid hv
 have HU:=hid hu
 have H0:=hid (Below.refl w.heap.size w)
 clear hv hu
 go_enter Tryz.func185,Tryz.ntmps185
 go_wp2
 go_loopw [5] (fun x wr=>∃ i:Nat,i≤l.length∧x = .int .i64 i∧Hid (Below w.heap.size w wr)) (fun x _=>l.length-(intOf x).toNat)
 case atStart=>exact ⟨0,Nat.zero_le _,rfl,H0⟩
 clear H0
 obtain ⟨i,hi,rfl,hW⟩:=hrel
 by_cases hil:i<l.length
 ·have hi2:(i:Int)<(l.length:Int):=by omega
  have d1:decide (i<l.length)=true:=decide_eq_true hil
  by_cases him:i<m.length
  ·have him2:(i:Int)<(m.length:Int):=by omega
   have d2:decide (i<m.length)=true:=decide_eq_true him
   obtain ⟨b,o,c',ev,_,q0⟩:=(HV.out.later hW.out).intAt i hil
   cases ev
   obtain ⟨b2,o2,c',ev,_,q1⟩:=(HU.out.later hW.out).intAt i him
   cases ev
   obtain ⟨x,hx⟩:∃ x,l[i]=x:=⟨_,rfl⟩
   obtain ⟨y,hy⟩:∃ y,m[i]=y:=⟨_,rfl⟩
   rw [hx] at q0
   rw [hy] at q1
   clear hx hy
   by_cases hxy:x=y
   ·have hq:(x==y)=true:=by rw [beq_iff_eq];exact hxy
    clear hxy
    go_wp2_with fail
    go_quiet (fail)
    have HB:=hid (below_drewN hW.out nq)
    go_wp2
    go_roundw
    case rel=>exact ⟨i+1,by omega,by go_num,HB⟩
    case measure=>simp [intOf];omega
   ·have hq:(x==y)=false:=by rw [beq_eq_false_iff_ne];exact hxy
    clear hxy
    go_wp2_with fail
    go_quiet (fail)
    obtain ⟨W3,hW3⟩:∃ W3,wr.drewN nq=W3:=⟨_,rfl⟩
    have hb3:Below wr.heap.size wr W3:=by rw [← hW3];exact below_drewN (Below.refl _ _) _
    have HB:=hid (below_step hW.out hb3)
    rw [hW3]
    replace q0:=(hb3.cell (cell_size q0)).trans q0
    replace q1:=(hb3.cell (cell_size q1)).trans q1
    clear hW3 hb3
    go_wp2_with fail
    go_quiet (fail)
    have HB2:=hid (below_drewN HB.out nq)
    go_wp2
    go_ret
    exact ⟨⟨_,rfl⟩,HB2.out⟩
  ·have d2:decide (i<m.length)=false:=decide_eq_false him
   clear him
   go_wp2
   go_ret
   exact ⟨⟨_,rfl⟩,hW.out⟩
 ·have d1:decide (i<l.length)=false:=decide_eq_false hil
  clear hil
  go_wp2
  go_ret
  exact ⟨⟨_,rfl⟩,hW.out⟩
def firstB (only:Int) (n i:Nat):Bool:=decide (only=0)||(decide (only=1)&&decide (i=0))||(decide (only=2)&&decide (i+1=n))
theorem first_any (nm:ByteArray) (fr to' sh only:Int) (thr:Bool) (a:Option Addr) (n c i:Nat) (hn:n≤100000) (w:World) :
  Calls Tryz.prog 157 #[.agg #[.string nm,.int .i64 fr,.int .i64 to',.int .i64 sh,.int .i64 only,.bool thr],.slice a n c,.int .i64 i] w (BoolR (firstB only n i) w):=by
 have HB:=hid (show Below w.heap.size w (w.alloc (.cells #[.string nm,.int .i64 fr,.int .i64 to',.int .i64 sh,.int .i64 only,.bool thr] 145)) from (Below.refl _ _).alloc (Nat.le_refl _) _)
 have e1:IntKind.i64.wrap ((n:Int)-1)=(n:Int)-1:=IntWalk.i64_in _ (by omega)
 by_cases h0:only=0
 ·have HQ:=hid (show firstB only n i=true by unfold firstB;rw [decide_eq_true h0];rfl)
  have q0:(only==0)=true:=by rw [beq_iff_eq];exact h0
  clear h0
  go_enter Tryz.func157,Tryz.ntmps157
  go_wp2
  go_ret
  exact boolR HQ.out HB.out
 have q0:(only==0)=false:=by rw [beq_eq_false_iff_ne];exact h0
 by_cases h1:only=1
 ·subst h1
  have HQ:=hid (show firstB 1 n i=decide (i=0) by unfold firstB;simp)
  by_cases hz:i=0
  ·have q1:((i:Int)==0)=true:=by rw [beq_iff_eq];omega
   have HZ:=hid (HQ.out.trans (decide_eq_true hz))
   clear hz
   go_enter Tryz.func157,Tryz.ntmps157
   go_wp2
   go_ret
   exact boolR HZ.out HB.out
  ·have q1:((i:Int)==0)=false:=by rw [beq_eq_false_iff_ne];omega
   have q2:(i==0)=false:=by rw [beq_eq_false_iff_ne];exact hz
   have HZ:=hid (HQ.out.trans (decide_eq_false hz))
   clear hz
   go_enter Tryz.func157,Tryz.ntmps157
   go_wp2
   go_ret
   exact boolR HZ.out HB.out
 have q1:(only==1)=false:=by rw [beq_eq_false_iff_ne];exact h1
 by_cases h2:only=2
 ·subst h2
  have HQ:=hid (show firstB 2 n i=decide (i+1=n) by unfold firstB;simp)
  by_cases hz:i+1=n
  ·have q2:((i:Int)==(n:Int)-1)=true:=by rw [beq_iff_eq];omega
   have HZ:=hid (HQ.out.trans (decide_eq_true hz))
   clear hz
   go_enter Tryz.func157,Tryz.ntmps157
   go_wp2
   go_ret
   exact boolR HZ.out HB.out
  ·have q2:((i:Int)==(n:Int)-1)=false:=by rw [beq_eq_false_iff_ne];omega
   have HZ:=hid (HQ.out.trans (decide_eq_false hz))
   clear hz
   go_enter Tryz.func157,Tryz.ntmps157
   go_wp2
   go_ret
   exact boolR HZ.out HB.out
 ·have q2:(only==2)=false:=by rw [beq_eq_false_iff_ne];exact h2
  have HQ:=hid (show firstB only n i=false by unfold firstB;simp [h0,h1,h2])
  clear h0 h1 h2
  go_enter Tryz.func157,Tryz.ntmps157
  go_wp2
  go_ret
  exact boolR HQ.out HB.out
end Go.Proofs.YteflhbfgpknabaaGreatDoor
namespace Go.Proofs.YteflhbfgpknabaaGreatDoor
open Go.Lib (hid)
abbrev Gr:=Pl→Option Nat
def addG (S:Sp) (G:Gr) (p:Pl) (n:Nat):Gr:=fun q=>if q=p∧keyOk S p=true∧G p=none then some n else G q
theorem addG_le {S:Sp} {G:Gr} {p q:Pl} {n j:Nat} (h:G q=some j):addG S G p n q=some j:=by
 unfold addG
 rw [if_neg,h]
 rintro ⟨rfl,_,h2⟩
 rw [h] at h2;cases h2
theorem addG_new {S:Sp} {G:Gr} {p q:Pl} {n j:Nat} (h:addG S G p n q=some j):G q=some j∨(G q=none∧q=p∧keyOk S p=true∧j=n):=by
 unfold addG at h
 split at h
 ·rename_i c
  obtain ⟨rfl,c2,c3⟩:=c
  exact .inr ⟨c3,rfl,c2,by cases h;rfl⟩
 ·exact .inl h
theorem addG_at {S:Sp} {G:Gr} {p:Pl} {n:Nat} (h:keyOk S p=true):addG S G p n p≠none:=by
 unfold addG
 cases e:G p with
 | none=>rw [if_pos ⟨rfl,h,rfl⟩];simp
 | some j=>rw [if_neg (fun c=>by cases c.2.2)];simp
theorem addG_same {S:Sp} {G:Gr} {p:Pl} {n j:Nat} (h:G p=some j):addG S G p n=G:=by
 funext q
 unfold addG
 rw [if_neg]
 rintro ⟨_,_,h2⟩
 rw [h] at h2;cases h2
theorem addG_out {S:Sp} {G:Gr} {p:Pl} {n:Nat} (h:keyOk S p=false):addG S G p n=G:=by
 funext q
 unfold addG
 rw [if_neg]
 rintro ⟨_,h2,_⟩
 rw [h] at h2;cases h2
def GLe (G G':Gr):Prop:=∀ q j,G q=some j→G' q=some j
theorem GLe.refl (G:Gr):GLe G G:=fun _ _ h=>h
theorem GLe.add {S:Sp} {A G:Gr} {p:Pl} {n:Nat} (h:GLe A G):GLe A (addG S G p n):=fun q j e=>addG_le (h q j e)
theorem GLe.some {G G':Gr} (h:GLe G G') {q:Pl} (hq:G q≠none):G' q≠none:=by
 cases e:G q with
 | none=>exact absurd e hq
 | some j=>rw [h q j e];simp
structure ChI (S:Sp) (f:Th→Int) (n:Nat) (G:Gr):Prop where
 ok:∀ q j,G q=some j→keyOk S q=true
 act:∀ q j,G q=some j→Acts S f q
 le:∀ q j,G q=some j→j≤n
 zero:∀ q,G q=some 0→q.2∈playedL f q.1
 closed:∀ q j,G q=some j→0<j→j<n→∀ i,i<S.cs.length→thrB S f q i=true→keyOk S (thrTo S q i)=true→G (thrTo S q i)≠none
def posP (k:Nat):Pl:=(((k / 128:Nat):Int),((k % 128:Nat):Int))
def fieldP:List Pl:=(List.range 768).map posP
theorem mem_fieldP {S:Sp} (hd:S.ds.length≤6) (hdv:∀ d∈S.ds,dvE d=0) {q:Pl} (h:keyOk S q=true):q∈fieldP:=by
 have:=keyOk_lt hd hdv h
 obtain ⟨d,k⟩:=q
 simp only at this
 unfold fieldP
 rw [List.mem_map]
 refine ⟨(d * 128+k).toNat,List.mem_range.2 (by omega),?_⟩
 unfold posP
 exact Prod.ext (by simp only;omega) (by simp only;omega)
def muB (G:Gr) (n:Nat) (q:Pl):Bool:=match G q with
 | none=>true
 | some j=>decide (n≤j)
def muG (G:Gr) (n:Nat):Nat:=(fieldP.filter (muB G n)).length
theorem filter_lt {α:Type} {P Q:α→Bool}:∀ {l:List α},(∀ x∈l,Q x=true→P x=true)→(∃ x∈l,P x=true∧Q x=false)→(l.filter Q).length<(l.filter P).length
 | [],_,⟨x,hx,_⟩=>by cases hx
 | a :: l,h,⟨x,hx,hp,hq⟩=>by
  have hle:∀ {m:List α},(∀ x∈m,Q x=true→P x=true)→(m.filter Q).length≤(m.filter P).length:=by
   intro m
   induction m with
   | nil=>intro _;exact Nat.le_refl _
   | cons b m ih =>
    intro hm
    have h1:=ih fun y hy=>hm y (List.mem_cons_of_mem _ hy)
    have h2:=hm b (by simp)
    cases eq:Q b with
    | true=>rw [List.filter_cons_of_pos eq,List.filter_cons_of_pos (h2 eq),List.length_cons,List.length_cons];omega
    | false =>
     rw [List.filter_cons_of_neg (by simp [eq])]
     cases ep:P b with
     | true=>rw [List.filter_cons_of_pos ep,List.length_cons];omega
     | false=>rw [List.filter_cons_of_neg (by simp [ep])];exact h1
  have ht:∀ y∈l,Q y=true→P y=true:=fun y hy=>h y (List.mem_cons_of_mem _ hy)
  rcases List.mem_cons.1 hx with rfl | hx
  ·rw [List.filter_cons_of_pos hp,List.filter_cons_of_neg (by simp [hq]),List.length_cons]
   have:=hle ht
   omega
  ·have ih:=filter_lt ht ⟨x,hx,hp,hq⟩
   cases eq:Q a with
   | true=>rw [List.filter_cons_of_pos eq,List.filter_cons_of_pos (h a (by simp) eq),List.length_cons,List.length_cons];omega
   | false =>
    rw [List.filter_cons_of_neg (by simp [eq])]
    cases ep:P a with
    | true=>rw [List.filter_cons_of_pos ep,List.length_cons];omega
    | false=>rw [List.filter_cons_of_neg (by simp [ep])];exact ih
theorem muG_lt {S:Sp} (hd:S.ds.length≤6) (hdv:∀ d∈S.ds,dvE d=0) {G G':Gr} {n:Nat} (hle:GLe G G') {q:Pl} (hq:G q=some n) (hok:keyOk S q=true):muG G' (n+1)<muG G n:=by
 unfold muG
 refine filter_lt (fun x _ hx=>?_) ⟨q,mem_fieldP hd hdv hok,?_,?_⟩
 ·unfold muB at hx ⊢
  cases e:G x with
  | none=>rfl
  | some j =>
   rw [hle x j e] at hx
   simp only [decide_eq_true_iff] at hx ⊢
   omega
 ·unfold muB;rw [hq];simp
 ·unfold muB;rw [hle q n hq];simp
structure ChR (S:Sp) (f:Th→Int) (n:Nat) (G0:Gr) (k:Nat) (more:Bool) (G:Gr):Prop where
 ok:∀ q j,G q=some j→keyOk S q=true
 act:∀ q j,G q=some j→Acts S f q
 le:∀ q j,G q=some j→j≤n+1
 zero:∀ q,G q=some 0→q.2∈playedL f q.1
 closed:∀ q j,G q=some j→0<j→j<n→∀ i,i<S.cs.length→thrB S f q i=true→keyOk S (thrTo S q i)=true→G (thrTo S q i)≠none
 since:GLe G0 G
 old:∀ q,G q=some n→G0 q=some n
 no:∀ q,G q=some (n+1)→more=true
 yes:more=true→∃ q,G q=some n
 done:∀ m,m<k→G (posP m)=some n→more=true∧∀ i,i<S.cs.length→thrB S f (posP m) i=true→keyOk S (thrTo S (posP m) i)=true→G (thrTo S (posP m) i)≠none
theorem ChI.start {S:Sp} {f:Th→Int} {n:Nat} {G:Gr} (h:ChI S f n G):ChR S f n G 0 false G :=
 ⟨h.ok,h.act,fun q j e=>Nat.le_succ_of_le (h.le q j e),h.zero,h.closed,GLe.refl G,fun _ e=>e,fun q e=>by have:=h.le q _ e;omega,fun e=>(by cases e),fun m hm=>absurd hm (Nat.not_lt_zero m)⟩
theorem ChR.skip {S:Sp} {f:Th→Int} {n k:Nat} {G0 G:Gr} {more:Bool} (h:ChR S f n G0 k more G) (hk:G (posP k)≠some n):ChR S f n G0 (k+1) more G :=
 ⟨h.ok,h.act,h.le,h.zero,h.closed,h.since,h.old,h.no,h.yes,fun m hm e=>by
  by_cases q:m=k
  ·subst q;exact absurd e hk
  ·exact h.done m (by omega) e⟩
structure ChK (S:Sp) (f:Th→Int) (n:Nat) (G0:Gr) (k:Nat) (i:Nat) (G:Gr):Prop where
 r:ChR S f n G0 k true G
 here:G (posP k)=some n
 suc:∀ c,c<i→c<S.cs.length→thrB S f (posP k) c=true→keyOk S (thrTo S (posP k) c)=true→G (thrTo S (posP k) c)≠none
theorem ChR.take {S:Sp} {f:Th→Int} {n k:Nat} {G0 G:Gr} {more:Bool} (h:ChR S f n G0 k more G) (hk:G (posP k)=some n):ChK S f n G0 k 0 G :=
 ⟨⟨h.ok,h.act,h.le,h.zero,h.closed,h.since,h.old,fun _ _=>rfl,fun _=>⟨_,hk⟩,fun m hm e=>⟨rfl,(h.done m hm e).2⟩⟩,hk,fun c hc=>absurd hc (Nat.not_lt_zero c)⟩
theorem ChR.all {S:Sp} {f:Th→Int} {n:Nat} {G0 G:Gr} {more:Bool} (hd:S.ds.length≤6) (hdv:∀ d∈S.ds,dvE d=0) (h:ChR S f n G0 (S.ds.length * 128) more G) {q:Pl} (hq:G q=some n):more=true∧∀ i,i<S.cs.length→thrB S f q i=true→keyOk S (thrTo S q i)=true→G (thrTo S q i)≠none:=by
 have hok:=keyOk_lt hd hdv (h.ok q n hq)
 obtain ⟨d,k⟩:=q
 simp only at hok
 have e:posP (d * 128+k).toNat=(d,k):=by unfold posP;exact Prod.ext (by simp only;omega) (by simp only;omega)
 have:=h.done (d * 128+k).toNat (by omega) (by rw [e];exact hq)
 rw [e] at this
 exact this
theorem ChR.next {S:Sp} {f:Th→Int} {n:Nat} {G0 G:Gr} {more:Bool} (hd:S.ds.length≤6) (hdv:∀ d∈S.ds,dvE d=0) (h:ChR S f n G0 (S.ds.length * 128) more G):ChI S f (n+1) G :=
 ⟨h.ok,h.act,h.le,h.zero,fun q j e h0 hj=>by
  by_cases q2:j=n
  ·subst q2;exact (h.all hd hdv e).2
  ·exact h.closed q j e h0 (by omega)⟩
theorem ChR.fewer {S:Sp} {f:Th→Int} {n:Nat} {G0 G:Gr} {k:Nat} (hd:S.ds.length≤6) (hdv:∀ d∈S.ds,dvE d=0) (h:ChR S f n G0 k true G):muG G (n+1)<muG G0 n:=by
 obtain ⟨q,hq⟩:=h.yes rfl
 exact muG_lt hd hdv h.since (h.old q hq) (h.ok q n hq)
structure ChH (S:Sp) (f:Th→Int) (G:Gr):Prop where
 key:∀ d k,0≤d∧d<(S.ds.length:Int)→k∈playedL f d→G (d,k)≠none
 cou:∀ i (hi:i<S.cs.length),f (3,0,(i:Int))=1→∀ k∈takes S.cs[i].only (playedL f S.cs[i].frm),keyOk S (S.cs[i].to,k+S.cs[i].shift)=true→G (S.cs[i].to,k+S.cs[i].shift)≠none
theorem ChH.le {S:Sp} {f:Th→Int} {G G':Gr} (h:ChH S f G) (hl:GLe G G'):ChH S f G':=⟨fun d k h1 h2=>hl.some (h.key d k h1 h2),fun i hi h1 k h2 h3=>hl.some (h.cou i hi h1 k h2 h3)⟩
theorem chains_all {S:Sp} {f:Th→Int} {n:Nat} {G0 G:Gr} (hd:S.ds.length≤6) (hdv:∀ d∈S.ds,dvE d=0) (hc:∀ c∈S.cs,c.thr=true→c.only=0) (hn:0<n) (h:ChR S f n G0 (S.ds.length * 128) false G) (hh:ChH S f G) (q:Pl):G q≠none↔Acts S f q:=by
 constructor
 ·intro hq
  cases e:G q with
  | none=>exact absurd e hq
  | some j=>exact h.act q j e
 ·refine act_in (Q:=fun q=>G q≠none) hh.key hh.cou ?_ q
  intro i hi hon ht k hk ok
  cases e:G (S.cs[i].frm,k) with
  | none=>exact absurd e hk
  | some j =>
   have et:thrTo S (S.cs[i].frm,k) i=(S.cs[i].to,k+S.cs[i].shift):=by unfold thrTo;rw [List.getElem?_eq_getElem hi]
   by_cases h0:j=0
   ·subst h0
    have hz:=h.zero _ e
    simp only at hz
    refine hh.cou i hi hon k ?_ ok
    unfold takes
    rw [hc _ (List.getElem_mem hi) ht,if_neg (by decide),if_neg (by decide)]
    exact hz
   ·have hjn:j<n:=by
     have h1:=h.le _ _ e
     have h2:j≠n:=fun q2=>by subst q2;have:=(h.all hd hdv e).1;cases this
     have h3:j≠n+1:=fun q2=>by subst q2;have:=h.no _ e;cases this
     omega
    rw [← et]
    refine h.closed _ j e (by omega) hjn i hi ?_ (by rw [et];exact ok)
    unfold thrB
    rw [List.getElem?_eq_getElem hi]
    simp only [Bool.and_eq_true,decide_eq_true_iff]
    exact ⟨⟨hon,ht⟩,trivial⟩
open Go.RowKit
structure LsI (W:World) (v:Value) (j:Nat):Prop where
 ex:∃ l:List Int,l.length=j∧ARd W v 1 (l.map iC)
 at':v = .slice none 0 0∨∃ g o n c cs,v = .slice (some ⟨g,o,none⟩) n c∧Blk W g 3 cs
theorem LsI.nil (W:World):LsI W (.slice none 0 0) 0:=⟨⟨[],rfl,ARd.empty W 1⟩,.inl rfl⟩
theorem LsI.low {W W':World} {v:Value} {j:Nat} (h:LsI W v j) (hb:Below W.heap.size W W'):LsI W' v j:=by
 obtain ⟨⟨l,h1,h2⟩,h3⟩:=h
 refine ⟨⟨l,h1,h2.later hb⟩,h3.imp id ?_⟩
 rintro ⟨g,o,n,c,cs,e,hB⟩
 exact ⟨g,o,n,c,cs,e,hB.below hb⟩
theorem LsI.keep {W W':World} {v:Value} {j:Nat} (h:LsI W v j) {b:Nat} {t:TypeId} {ks:Array Value} (hk:Blk W b t ks) (ht:t≠3) (hg:W.grownBy W' (some b)):LsI W' v j:=by
 obtain ⟨⟨l,h1,h2⟩,h3⟩:=h
 rcases h3 with rfl | ⟨g,o,n,c,cs,rfl,hB⟩
 ·obtain ⟨a,c,e,_⟩:=h2
  rw [List.length_map] at e
  have this:l=[]:=by
   injection e with _ e2 _
   exact List.length_eq_zero_iff.1 e2.symm
  subst this
  exact ⟨⟨[],h1,ARd.empty W' 1⟩,.inl rfl⟩
 ·have hne:g≠b:=hB.ne hk ht.symm
  have hB':Blk W' g 3 cs:=hB.grown hg (fun e=>hne (Option.some.inj e).symm)
  obtain ⟨a,c2,e,hr⟩:=h2
  rw [List.length_map] at e
  cases e
  refine ⟨⟨l,h1,some ⟨g,o,none⟩,c,by rw [List.length_map],fun i hi=>?_⟩,.inr ⟨g,o,_,c,cs,rfl,hB'⟩⟩
  obtain ⟨b2,o2,e2,_,hc⟩:=hr i hi
  cases e2
  refine ⟨g,o,rfl,hB'.lt,fun k u hk2=>?_⟩
  have:=hc k u hk2
  rw [hB.cell] at this
  rw [hB'.cell]
  exact this
structure ChC (W:World) (cs:Array Value) (k:Nat) (g:Option Nat):Prop where
 c0:cs[4 * k]?=some (.bool g.isSome)
 c1:∃ a,cs[4 * k+1]?=some (.int .i64 a)
 c2:∃ a,cs[4 * k+2]?=some (.int .i64 a)
 c3:∃ v,cs[4 * k+3]?=some v∧LsI W v (g.getD 0)
structure GrI (base sz n LB:Nat) (rb:Nat→Nat) (G:Gr) (W:World):Prop where
 blk:∃ cs,Blk W LB 213 cs∧cs.size=sz∧∀ d,d<n→cs[d]?=some (.slice (some ⟨rb d,0,none⟩) 128 128)
 row:∀ d,d<n→∃ cs,Blk W (rb d) 212 cs∧cs.size=512∧∀ k,k<128→ChC W cs k (G ((d:Int),(k:Int)))
 inj:∀ d e,d<n→e<n→rb d=rb e→d=e
 new:base≤LB∧∀ d,d<n→base≤rb d
theorem ChC.low {W W':World} {cs:Array Value} {k:Nat} {g:Option Nat} (h:ChC W cs k g) (hb:Below W.heap.size W W'):ChC W' cs k g:=by
 obtain ⟨v,h1,h2⟩:=h.c3
 exact ⟨h.c0,h.c1,h.c2,v,h1,h2.low hb⟩
theorem GrI.low {base sz n LB:Nat} {rb:Nat→Nat} {G:Gr} {W W':World} (h:GrI base sz n LB rb G W) (hb:Below W.heap.size W W'):GrI base sz n LB rb G W':=by
 obtain ⟨⟨cs,h1,h2⟩,h3,h4,h5⟩:=h
 refine ⟨⟨cs,h1.below hb,h2⟩,fun d hd=>?_,h4,h5⟩
 obtain ⟨ks,k1,k2,k3⟩:=h3 d hd
 exact ⟨ks,k1.below hb,k2,fun k hk=>(k3 k hk).low hb⟩
theorem GrI.rowCell {base sz n LB:Nat} {rb:Nat→Nat} {G:Gr} {W:World} (h:GrI base sz n LB rb G W) {d:Nat} (hd:d<n):W.cell? ⟨LB,d,none⟩=some (.slice (some ⟨rb d,0,none⟩) 128 128):=by
 obtain ⟨⟨cs,h1,h2,h3⟩,_⟩:=h
 rw [h1.cell];exact h3 d hd
theorem GrI.at' {base sz n LB:Nat} {rb:Nat→Nat} {G:Gr} {W:World} (h:GrI base sz n LB rb G W) {d k:Nat} (hd:d<n) (hk:k<128):∃ a b v,W.cell? ⟨rb d,k * 4,none⟩=some (.bool (G ((d:Int),(k:Int))).isSome)∧W.cell? ⟨rb d,k * 4+1,none⟩=some (.int .i64 a)∧W.cell? ⟨rb d,k * 4+2,none⟩=some (.int .i64 b)∧W.cell? ⟨rb d,k * 4+3,none⟩=some v∧LsI W v ((G ((d:Int),(k:Int))).getD 0)∧(∀ i,W.frozen? ⟨rb d,i,none⟩=false):=by
 obtain ⟨cs,h1,_,h3⟩:=h.row d hd
 obtain ⟨c0,⟨a,c1⟩,⟨b,c2⟩,v,c3,hv⟩:=h3 k hk
 refine ⟨a,b,v,?_,?_,?_,?_,hv,h1.frozen⟩
 ·rw [h1.cell,Nat.mul_comm];exact c0
 ·rw [h1.cell,Nat.mul_comm];exact c1
 ·rw [h1.cell,Nat.mul_comm];exact c2
 ·rw [h1.cell,Nat.mul_comm];exact c3
def put4 (W:World) (b k:Nat) (x0 x1 x2 x3:Value):World:=(((W.setCell ⟨b,k * 4,none⟩ x0).setCell ⟨b,k * 4+1,none⟩ x1).setCell ⟨b,k * 4+2,none⟩ x2).setCell ⟨b,k * 4+3,none⟩ x3
theorem put4_grown (W:World) (b k:Nat) (x0 x1 x2 x3:Value):W.grownBy (put4 W b k x0 x1 x2 x3) (some b) :=
 (((set_grown W b _ x0).trans (set_grown _ b _ x1)).trans (set_grown _ b _ x2)).trans (set_grown _ b _ x3)
theorem put4_blk {W:World} {b:Nat} {t:TypeId} {cs:Array Value} (h:Blk W b t cs) (k:Nat) (x0 x1 x2 x3:Value):Blk (put4 W b k x0 x1 x2 x3) b t ((((cs.setIfInBounds (k * 4) x0).setIfInBounds (k * 4+1) x1).setIfInBounds (k * 4+2) x2).setIfInBounds (k * 4+3) x3):=(((h.set _ x0).set _ x1).set _ x2).set _ x3
theorem get4 {cs:Array Value} {k:Nat} (hs:4 * k+3<cs.size) (x0 x1 x2 x3:Value) (j:Nat):((((cs.setIfInBounds (k * 4) x0).setIfInBounds (k * 4+1) x1).setIfInBounds (k * 4+2) x2).setIfInBounds (k * 4+3) x3)[j]?=if j=4 * k then some x0 else if j=4 * k+1 then some x1 else if j=4 * k+2 then some x2 else if j=4 * k+3 then some x3 else cs[j]?:=by
 rw [Array.getElem?_setIfInBounds,Array.getElem?_setIfInBounds,Array.getElem?_setIfInBounds,Array.getElem?_setIfInBounds]
 simp only [Array.size_setIfInBounds]
 by_cases h0:j=4 * k
 ·rw [if_pos h0,if_neg (by omega),if_neg (by omega),if_neg (by omega),if_pos (by omega),if_pos (by omega)]
 ·rw [if_neg h0]
  by_cases h1:j=4 * k+1
  ·rw [if_pos h1,if_neg (by omega),if_neg (by omega),if_pos (by omega),if_pos (by omega)]
  ·rw [if_neg h1]
   by_cases h2:j=4 * k+2
   ·rw [if_pos h2,if_neg (by omega),if_pos (by omega),if_pos (by omega)]
   ·rw [if_neg h2]
    by_cases h3:j=4 * k+3
    ·rw [if_pos h3,if_pos (by omega),if_pos (by omega)]
    ·rw [if_neg h3,if_neg (by omega),if_neg (by omega),if_neg (by omega),if_neg (by omega)]
def setG (G:Gr) (p:Pl) (j:Nat):Gr:=fun q=>if q=p then some j else G q
theorem setG_add {S:Sp} {G:Gr} {p:Pl} {j:Nat} (hk:keyOk S p=true) (h:G p=none∨G p=some j):setG G p j=addG S G p j:=by
 funext q
 unfold setG addG
 by_cases e:q=p
 ·subst e
  rw [if_pos rfl]
  rcases h with h | h
  ·rw [if_pos ⟨rfl,hk,h⟩]
  ·rw [if_neg (fun z=>by rw [h] at z;cases z.2.2),h]
 ·rw [if_neg e,if_neg (fun z=>e z.1)]
theorem GrI.put {base sz n LB:Nat} {rb:Nat→Nat} {G:Gr} {W:World} (h:GrI base sz n LB rb G W) {d k:Nat} (hd:d<n) (hk:k<128) {a b:Int} {v:Value} {j:Nat} (hv:LsI W v j):GrI base sz n LB rb (setG G ((d:Int),(k:Int)) j) (put4 W (rb d) k (.bool true) (.int .i64 a) (.int .i64 b) v):=by
 obtain ⟨⟨cs,h1,h2⟩,h3,h4,h5⟩:=h
 obtain ⟨ks,k1,k2,k3⟩:=h3 d hd
 have hg:=put4_grown W (rb d) k (.bool true) (.int .i64 a) (.int .i64 b) v
 have hne:LB≠rb d:=h1.ne k1 (by decide)
 refine ⟨⟨cs,h1.grown hg (fun e=>hne (Option.some.inj e).symm),h2⟩,fun e he=>?_,h4,h5⟩
 by_cases q:e=d
 ·subst q
  refine ⟨_,put4_blk k1 k _ _ _ _,by simp only [Array.size_setIfInBounds];exact k2,fun m hm=>?_⟩
  have hg4:=get4 (cs:=ks) (k:=k) (by omega) (.bool true) (.int .i64 a) (.int .i64 b) v
  by_cases r:m=k
  ·subst r
   have e0:setG G ((e:Int),(m:Int)) j ((e:Int),(m:Int))=some j:=if_pos rfl
   rw [e0]
   exact ⟨by rw [hg4,if_pos rfl];rfl,⟨a,by rw [hg4,if_neg (by omega),if_pos rfl]⟩,⟨b,by rw [hg4,if_neg (by omega),if_neg (by omega),if_pos rfl]⟩,v,by rw [hg4,if_neg (by omega),if_neg (by omega),if_neg (by omega),if_pos rfl],hv.keep k1 (by decide) hg⟩
  ·have e0:setG G ((e:Int),(k:Int)) j ((e:Int),(m:Int))=G ((e:Int),(m:Int)):=if_neg (fun z=>r (by have:=congrArg Prod.snd z;simp only at this;omega))
   rw [e0]
   obtain ⟨c0,⟨a',c1⟩,⟨b',c2⟩,v',c3,hv'⟩:=k3 m hm
   exact ⟨by rw [hg4,if_neg (by omega),if_neg (by omega),if_neg (by omega),if_neg (by omega)];exact c0,⟨a',by rw [hg4,if_neg (by omega),if_neg (by omega),if_neg (by omega),if_neg (by omega)];exact c1⟩,⟨b',by rw [hg4,if_neg (by omega),if_neg (by omega),if_neg (by omega),if_neg (by omega)];exact c2⟩,v',by rw [hg4,if_neg (by omega),if_neg (by omega),if_neg (by omega),if_neg (by omega)];exact c3,hv'.keep k1 (by decide) hg⟩
 ·obtain ⟨es,e1,e2,e3⟩:=h3 e he
  have hne2:rb e≠rb d:=fun z=>q (h4 e d he hd z)
  refine ⟨es,e1.grown hg (fun z=>hne2 (Option.some.inj z).symm),e2,fun m hm=>?_⟩
  have e0:setG G ((d:Int),(k:Int)) j ((e:Int),(m:Int))=G ((e:Int),(m:Int)):=if_neg (fun z=>q (by have:=congrArg Prod.fst z;simp only at this;omega))
  rw [e0]
  obtain ⟨c0,c1,c2,v',c3,hv'⟩:=e3 m hm
  exact ⟨c0,c1,c2,v',c3,hv'.keep k1 (by decide) hg⟩
end Go.Proofs.YteflhbfgpknabaaGreatDoor
