/-
  A part of the proof: AN0, AN2.
-/
import Derived.Test.YthhfmppealmblaaGreatDoorN01
import Derived.RangeFuncWrites
import Derived.RangeFuncBox
import Derived.Test.YthhfmppealmblaaGreatDoorN08
import Derived.BigQuiet
namespace Go.Proofs.YthhfmppealmblaaGreatDoor
open Go.RowKit
section
variable {F : Fence} {n : Nat} {P : Program}
def ctlB:Obj→Bool
 | .deferred _=>true
 | .loop _=>true
 | _=>false
def Turn (T:TypeId) (B:Nat) (A:World) (row:Option Nat):Prop:=∀ r,row=some r→B≤r∧∃ o:Obj,A.heap[r]?=some o∧(ctlB o=true∨∃ cs fr,o = .cells cs T fr)
def TurnC (T:TypeId) (B:Nat) (A:World) (row:Option Nat):Prop:=∀ r,row=some r→B≤r∧∃ cs fr,A.heap[r]?=some (.cells cs T fr)
theorem TurnC.turn {T:TypeId} {B B':Nat} {A:World} {row:Option Nat} (h:TurnC T B A row) (hb:B'≤B):Turn T B' A row:=fun r e=>by
 obtain ⟨h1,cs,fr,h2⟩:=h r e
 exact ⟨Nat.le_trans hb h1,_,h2,.inr ⟨cs,fr,rfl⟩⟩
def LastsT {β:Type} (T:TypeId) (B:Nat) (J:β→World→Prop):Prop:=∀ s A A' row,J s A→A.grownBy A' row→Turn T B A row→J s A'
def LastsC {β:Type} (T:TypeId) (B:Nat) (J:β→World→Prop):Prop:=∀ s A A' row,J s A→A.grownBy A' row→TurnC T B A row→J s A'
theorem LastsT.put {β:Type} {T:TypeId} {B:Nat} {J:β→World→Prop} (h:LastsT T B J) {s:β} {A:World} {l:Nat} {o:Obj} (o':Obj) (hs:J s A) (hB:B≤l) (hl:A.heap[l]?=some o) (ho:ctlB o=true):J s (A.putObj l o') :=
 h s A _ (some l) hs (grownBy_putObj' A l o') (fun r e=>by cases e;exact ⟨hB,o,hl,.inl ho⟩)
theorem LastsT.new {β:Type} {T:TypeId} {B:Nat} {J:β→World→Prop} (h:LastsT T B J) {s:β} {A:World} (o:Obj) (hs:J s A):J s (A.alloc o):=h s A _ none hs (World.grownBy_alloc A o none) (fun r e=>by cases e)
theorem turnC_keeps {T:TypeId} {B:Nat} {A A':World} {row:Option Nat} (hg:A.grownBy A' row) (ht:TurnC T B A row) {k:Nat} {o:Obj} (hk:A.heap[k]?=some o) (ho:o.isCells=false):A'.heap[k]?=some o :=
 (hg.block k (Array.getElem?_eq_some_iff.1 hk).1 (fun e=>by
  obtain ⟨_,cs,fr,h⟩:=ht k e.symm
  rw [hk] at h
  cases h
  cases ho)).trans hk
def SeqT {α:Type} (F:Fence) (n:Nat) (P:Program) (g:Nat) (lb:Array Value) (encs:α→Array Value) (Kp:World→World→Prop) (Px:List α→α→World→Prop) (T:TypeId) (S:List α→Prop) (w:World):Prop :=
 ∀ (l:Nat) (J:List α→World→Prop) (W:World),Below w.heap.size w W→LastsC T W.heap.size J →
  (∀ pre x W1,J pre W1→Px pre x W1→YieldAt F (n-1) P l (encs x) W1 fun e W'=>e = .returned (.bool true)∧J (pre++[x]) W'∧Kp W1 W') →
  J [] W→CallsIn F n P g (#[.func (.yield l) #[] #[]]++lb) W fun e W'=>(∃ v,e = .returned v)∧∃ xs,S xs∧J xs W'
def rndT {α:Type} (B:Nat) (Kp:World→World→Prop) (I:List α→World→Prop) (xs:List α) (W:World):Exit→Act→World→Prop
 | .normal,_,W'=>KeepsFrom B W W'∧Kp W W'∧I xs W'
 | _,_,_=>False
theorem wpIn_range_T {α:Type} {g:Operand} {ps:Array Tmp} {assign body:Code} {Q:Exit→Act→World→Prop} {a:Act} {w:World}
  (hro:F.round=none) (h1:1≤n) {gf:Nat} {lb:Array Value} (hg:a.eval g = .func (.func gf) #[] lb) (hFg:F.fn gf) (eg:∀ args w,(callFunc gf args).run P w = .ok (.enter gf args) w)
  {encs:α→Array Value} {Kp:World→World→Prop} {Px:List α→α→World→Prop} {T:TypeId} {S:List α→Prop} (hseq:SeqT F (n-1) P gf lb encs Kp Px T S w)
  (hKt:∀ {A B C:World},Kp A B→Kp B C→Kp A C) (hKb:∀ (W:World) (l:Nat) (o o':Obj),w.heap.size≤l→W.heap[l]?=some o→ctlB o=true→Kp W (W.putObj l o')) (hps:∀ x,(encs x).size=ps.size)
  (I:List α→World→Prop) (hI:LastsT T w.heap.size I) (h0:I [] w) (Ax:List α→α→Act→World→Prop)
  (hAx:∀ pre x a' (W:World) (l:Nat) (o o':Obj),w.heap.size≤l→W.heap[l]?=some o→ctlB o=true→Ax pre x a' W→Ax pre x a' (W.putObj l o'))
  (hassign:∀ (l:Nat) (pre:List α) (x:α) (W:World) (K:Act→World→Prop),I pre W→Px pre x W→(∀ a' W',KeepsFrom w.heap.size W W'→Kp W W'→I pre W'→Ax pre x a' W'→K a' W') →
   assign.wpIn (F.inRound l) (n-1-1) P (Exit.then K (fun _ _ _=>False)) { tmps:=(ps.zip (encs x)).foldl (fun t (p,v)=>t.setIfInBounds p v) a.tmps,defers:=[] } W)
  (hbody:∀ (l:Nat) (pre:List α) (x:α) (a':Act) (W:World),I pre W→Ax pre x a' W→body.wpIn (F.inRound l) (n-1-1) P (rndT w.heap.size Kp I (pre++[x]) W) a' W)
  (hdone:∀ (D:Nat) (xs:List α) (W:World),w.heap.size≤D→S xs→I xs W→W.heap[D]?=some (.deferred (some []))→Q .normal { a with defers:={ target:=.collected D,args:=#[] } :: a.defers } W) :
  (Code.rangeFunc g ps assign body).wpIn F n P Q a w:=by
 refine wpIn_rangeFunc ?_
 intro fn hfn
 rw [hro]
 obtain ⟨rc,hrc⟩:∃ rc:LoopState→Loop,rc=fun st=>{ state:=st,pending:=none,fn,tmps:=a.tmps,params:=ps,assign,body,defers:=w.heap.size }:=⟨_,rfl⟩
 have hsz1:((w.alloc (.deferred (some []))).alloc (.loop (rc .ready))).heap.size=w.heap.size+1+1:=by rw [World.size_alloc,World.size_alloc]
 have hL:((w.alloc (.deferred (some []))).alloc (.loop (rc .ready))).heap[w.heap.size+1]?=some (.loop (rc .ready)):=by
  have h:=World.alloc_heap_new (w.alloc (.deferred (some []))) (.loop (rc .ready))
  rwa [World.size_alloc] at h
 have hD:((w.alloc (.deferred (some []))).alloc (.loop (rc .ready))).heap[w.heap.size]?=some (.deferred (some [])):=(Below.heap_alloc _ _ _ (by simp)).trans (World.alloc_heap_new w _)
 have hE:=run_enterLoop_outer (P:=P) (w:=w) fn a.tmps ps assign body
 have hb1:Below w.heap.size w ((w.alloc (.deferred (some []))).alloc (.loop (rc .ready))):=((Below.refl _ w).alloc (Nat.le_refl _) _).alloc (by simp) _
 have hI1:I [] ((w.alloc (.deferred (some []))).alloc (.loop (rc .ready))):=hI.new _ (hI.new _ h0)
 have hE2:(Instr.enterLoop fn a.tmps ps assign body none).run P w = .ok (w.heap.size+1,[{ target:=.collected w.heap.size,args:=#[] }]) ((w.alloc (.deferred (some []))).alloc (.loop (rc .ready))):=by rw [hrc];exact hE
 clear hE
 generalize (w.alloc (.deferred (some []))).alloc (.loop (rc .ready))=W1 at *
 refine ⟨w.heap.size+1,[{ target:=.collected w.heap.size,args:=#[] }],W1,{ target:=.fn (.func gf) lb,args:=#[.func (.yield (w.heap.size+1)) #[] #[]] },W1,gf,
  #[.func (.yield (w.heap.size+1)) #[] #[]]++lb,W1,hE2,?_,?_,?_,fun _=>h1,?_⟩
 ·simp only [resolve,hg]
  simp [go_sem]
 ·intro f' hf'
  simp [Target.leads] at hf'
  subst hf'
  exact hFg
 ·simp [invoke,go_sem,eg]
 refine (hseq (w.heap.size+1) (fun pre W=>I pre W∧W.heap[w.heap.size+1]?=some (.loop (rc .ready))∧W.heap[w.heap.size]?=some (.deferred (some []))) W1 hb1 ?lasts ?round ⟨hI1,hL,hD⟩).mono ?last
 case lasts =>
  intro s A A' row hs hgr ht
  exact ⟨hI s A A' row hs.1 hgr (ht.turn (by omega)),turnC_keeps hgr ht hs.2.1 rfl,turnC_keeps hgr ht hs.2.2 rfl⟩
 case last =>
  rintro e W2 ⟨⟨v,rfl⟩,xs,hS,hi,hl,hd⟩
  have hend:=run_endLoop (P:=P) hl (by rw [hrc];simp)
  refine ⟨none,_,by rw [hrc] at hend;exact hend,hdone _ xs _ (Nat.le_refl _) hS (hI.put _ hi (by omega) hl rfl) ((World.putObj_heap_other (by omega)).trans hd)⟩
 case round =>
  rintro pre x W ⟨hi,hl,hd⟩ hpx
  have hy:=run_yield (P:=P) (args:=encs x) hl (by rw [hrc];exact hps x)
  rw [hrc] at hy
  refine ⟨fn,_,assign,body,hy,roundIn_of_wpIn hfn (hassign _ pre x W _ hi hpx ?_)⟩
  clear hy
  intro a' W' hkf hkp hi' hax
  have hl':=hkf.same _ _ (by omega) hl rfl
  have hd':=hkf.same _ _ (Nat.le_refl _) hd rfl
  have hlt:w.heap.size+1<W'.heap.size:=(Array.getElem?_eq_some_iff.1 hl').1
  refine ⟨_,run_beginRound hl' (by rw [hrc]),?_⟩
  have hl2:(W'.putObj (w.heap.size+1) (.loop { rc .ready with state:=.busy })).heap[w.heap.size+1]?=some (.loop { rc .ready with state:=.busy }):=World.putObj_heap_same hlt
  have hd2:(W'.putObj (w.heap.size+1) (.loop { rc .ready with state:=.busy })).heap[w.heap.size]?=some (.deferred (some [])):=(World.putObj_heap_other (by omega)).trans hd'
  have hw2:Kp W' (W'.putObj (w.heap.size+1) (.loop { rc .ready with state:=.busy })):=hKb _ _ _ _ (by omega) hl' rfl
  refine wpIn_mono (hbody _ pre x a' _ (hI.put _ hi' (by omega) hl' rfl) (hAx _ _ _ _ _ _ _ (by omega) hl' rfl hax)) ?_
  rintro e a3 W3 hp
  cases e with
  | normal =>
   obtain ⟨hk3,hp3,hi3⟩:=hp
   have hl3:=hk3.same _ _ (by omega) hl2 rfl
   have hd3:=hk3.same _ _ (Nat.le_refl _) hd2 rfl
   have hr:=run_endRound (P:=P) none hl3
   refine ⟨_,_,hr,rfl,⟨hI.put _ hi3 (by omega) hl3 rfl,?_,(World.putObj_heap_other (by omega)).trans hd3⟩,hKt hkp (hKt (hKt hw2 hp3) (hKb _ _ _ _ (by omega) hl3 rfl))⟩
   rw [World.putObj_heap_same (Array.getElem?_eq_some_iff.1 hl3).1,hrc]
   rfl
  | _=>exact hp.elim
end
end Go.Proofs.YthhfmppealmblaaGreatDoor
namespace Go.Proofs.YthhfmppealmblaaGreatDoor
open Go.RowKit
section
variable {m : Nat} {P : Program} {md : Region.Mode} {ops : Array Oper}
theorem operIn_still {o:Oper} {a:Act} {w:World} {K:Act→Prop} {K':Act→World→Prop} {Q:Exit→Act→World→Prop} (hk:∀ a,K a→K' a w) (h:o.still P a w K):o.wpIn Fence.wide m P a w K' Q:=by
 have h2:o.wp P a w K' Q:=Oper.wp_of_still hk h
 refine ⟨fun f _=>trivial,?_⟩
 rw [show Fence.wide.round=none from rfl,Oper.semAt_none]
 unfold Oper.wp at h2
 generalize (execOp a.eval o).run P w=r at h2
 cases r with
 | ok x w' =>
  cases x with
  | value v=>exact h2
  | skip=>exact h2
  | defer d=>exact h2
  | enter f args=>exact ⟨fun hx=>(by cases hx),callsIn_wide.2 h2⟩
  | row row args=>exact ⟨fun hx=>(by cases hx),fun c cs _=>by
    obtain ⟨v,w'',hr,hs⟩:=h2 c cs
    exact ⟨v,w'',hr,stepsIn_wide.2 hs⟩⟩
  | _=>exact h2.elim
 | halt x w' =>
  cases x with
  | panic v=>exact h2
  | _=>exact h2.elim
theorem wpOpIn_still {w:World} {i:Nat} {a:Act} {K:Act→Prop} {K':Act→World→Prop} {Q':Exit→Act→World→Prop} (h:∀ a,K a→K' a w) (hh:stOp P ops w i K a):wpOpIn Fence.wide m P ops Q' i K' a w:=by
 unfold stOp at hh
 unfold wpOpIn
 cases ho:ops[i]? with
 | none=>rw [ho] at hh;exact h _ hh
 | some o =>
  rw [ho] at hh
  simp only at hh ⊢
  by_cases hw:Region.wanted o (yielded ops a.tmps)=true
  ·rw [if_pos hw] at hh ⊢
   exact operIn_still h hh
  ·rw [if_neg hw] at hh ⊢
   exact ⟨fun f _=>trivial,h _ hh⟩
theorem anyIn_head {w:World} {n g:Nat} {L:Array Bool→Act→Prop} {Q':Exit→Act→World→Prop} (hL:∀ listed a,L listed a→wpAnyIn Fence.wide m P md ops Q' g listed a w) :
  ∀ (f:Nat) (listed:Array Bool) (a:Act),wpAnyL P md ops w n L f listed a→wpAnyIn Fence.wide m P md ops Q' (f+g) listed a w
 | 0,listed,a,h=>by rw [Nat.zero_add];exact hL _ _ h
 | f+1,listed,a,h=>by
  rw [show f+1+g=(f+g)+1 by omega]
  exact ⟨fun h0=>absurd h0 h.1,fun i hi=>wpOpIn_still (fun a' h'=>anyIn_head hL f _ a' h') (h.2 i hi).2⟩
theorem anyIn_seq {Q':Exit→Act→World→Prop}:∀ (l:List Oper) (k:Nat) (listed:Array Bool) (a:Act) (w:World),(∀ j,l[j]?=ops[k+j]?) →
  Region.seqB md ops l.length k listed=true→wpListIn Fence.wide m P ops Q' l a w→wpAnyIn Fence.wide m P md ops Q' l.length listed a w
 | [],_,_,_,_,_,hB,h=>⟨by simpa [Region.seqB] using hB,h⟩
 | o :: l,k,listed,a,w,hl,hB,h=>by
  have h0:ops[k]?=some o:=by simpa using (hl 0).symm
  simp only [List.length_cons,Region.seqB,Bool.and_eq_true,decide_eq_true_eq] at hB
  refine ⟨fun h1=>(by rw [hB.1] at h1;cases h1),fun i hi=>?_⟩
  rw [hB.1] at hi
  have hik:i=k:=by simpa using hi
  subst hik
  have hw:wpOpIn Fence.wide m P ops Q' i (wpListIn Fence.wide m P ops Q' l) a w:=by unfold wpOpIn;simp only [h0];exact h
  exact wpOpIn_mono (fun a' w' h'=>anyIn_seq l (i+1) _ a' w' (fun j=>by have:=hl (j+1);simpa [Nat.add_assoc,Nat.add_comm 1 j] using this) hB.2 h') hw
theorem wpIn_region_still_tail {id:Nat} {Q:Exit→Act→World→Prop} {a:Act} {w:World} {l:List Oper} (n:Nat) (hm:P.follows .mixedOrders=true) (hB:Region.lexTailB .any l.toArray n=true)
  (h:wpStill P l.toArray { w with drawn:=w.drawn+1 } (fun a'=>wpListIn Fence.wide m P l.toArray Q (l.drop n) a' { w with drawn:=w.drawn+1 }) (l.take n) a):(Code.region id l.toArray true).wpIn Fence.wide m P Q a w:=by
 simp only [Region.lexTailB,Bool.and_eq_true,decide_eq_true_eq] at hB
 obtain ⟨⟨⟨⟨hsel,hn⟩,hs⟩,hc⟩,hlex⟩:=hB
 have hn':n<l.length:=by simpa using hn
 have htl:(l.take n).length=n:=by simp;omega
 have hdl:(l.drop n).length=l.toArray.size-n:=by simp
 have inv0:HeadInv .any l.toArray n (Array.replicate l.toArray.size false) :=
  ⟨by simp,fun j oj _ hl=>(by rw [getD_replicate_false] at hl;cases hl),fun t _ ht=>getD_in (by simpa using ht) (getD_replicate_false _ _)⟩
 have H:=wpAnyL_lex (md:=.any) (g:=l.toArray.size-n) hsel hs hc hn (l.take n) 0 _ a (fun j hj=>by
  have hj':j<n:=by rw [htl] at hj;exact hj
  simp [hj']) (by simpa using htl) inv0 (by rw [htl];exact hlex) h
 refine wpIn_region_any hm ?_
 have:=anyIn_head (m:=m) (Q':=Q) (g:=l.toArray.size-n) (fun listed a' hL=>by
  have:=anyIn_seq (m:=m) (md:=.any) (Q':=Q) (l.drop n) n listed a' { w with drawn:=w.drawn+1 } (fun j=>by simp [List.getElem?_drop]) (by rw [hdl];exact hL.1) hL.2
  rwa [hdl] at this) _ _ _ H
 rw [htl,show n+(l.toArray.size-n)=l.toArray.size by omega] at this
 exact this
theorem still_of_quiet {o:Oper} {a:Act} {w:World} {K:Act→Prop} (h:o.quiet P a (fun w'=>w'=w) K):o.still P a w K:=by
 obtain ⟨v,h1,h2⟩:=h
 have h3:=h1 w rfl
 unfold Oper.quietAt at h3
 unfold Oper.still
 generalize (execOp a.eval o).run P w=r at h3
 cases r with
 | ok x w' =>
  cases x with
  | value u =>
   obtain ⟨e1,e2⟩:=h3
   subst e2
   exact ⟨e1,h2⟩
  | skip =>
   obtain ⟨e1,e2⟩:=h3
   subst e2
   exact ⟨e1,h2⟩
  | enter f args=>exact ⟨h3.1,v,h3.2,h2⟩
  | _=>exact h3.elim
 | halt x w'=>exact h3.elim
theorem wpStill_of_quiet {w:World} {Q:Act→Prop}:∀ (l:List Oper) (a:Act),wpQuiet P ops (fun w'=>w'=w) Q l a→wpStill P ops w Q l a
 | [],_,h=>h
 | o :: l,a,h=>by
  unfold wpQuiet at h
  unfold wpStill
  by_cases hw:Region.wanted o (yielded ops a.tmps)=true
  ·rw [if_pos hw] at h ⊢
   exact still_of_quiet (Oper.quiet_mono (fun a' h'=>wpStill_of_quiet l a' h') h)
  ·rw [if_neg hw] at h ⊢
   exact wpStill_of_quiet l _ h
theorem wpIn_region_quiet_tail {id:Nat} {Q:Exit→Act→World→Prop} {a:Act} {w:World} {l:List Oper} (n:Nat) (hm:P.follows .mixedOrders=true) (hB:Region.lexTailB .any l.toArray n=true)
  (h:wpQuiet P l.toArray (fun w'=>w'=w.drew) (fun a'=>wpListIn Fence.wide m P l.toArray Q (l.drop n) a' w.drew) (l.take n) a):(Code.region id l.toArray true).wpIn Fence.wide m P Q a w :=
 wpIn_region_still_tail n hm hB (wpStill_of_quiet _ _ h)
end
theorem listIn_round {n l:Nat} {P:Program} {ops:Array Oper} {Q:Exit→Act→World→Prop} (hQ:¬ LetsOut Q):∀ (L:List Oper) (a:Act) (w:World),(∀ o∈L,∀ c,o.op ≠ .defer c)→wpList P ops Q L a w→wpListIn (Fence.wide.inRound l) n P ops Q L a w
 | [],_,_,_,h=>h
 | o :: L,a,w,hd,h=>by
  unfold wpList at h
  unfold wpListIn
  by_cases hw:Region.wanted o (yielded ops a.tmps)=true
  ·rw [if_pos hw] at h ⊢
   rcases h with h | h
   ·exact operIn_round (hd o (by simp)) (Oper.wp_mono (fun a w h=>listIn_round hQ L a w (fun o ho=>hd o (by simp [ho])) h) h)
   ·exact absurd h.2 hQ
  ·rw [if_neg hw] at h ⊢
   exact ⟨fun f _=>trivial,listIn_round hQ L _ w (fun o ho=>hd o (by simp [ho])) h⟩
theorem wpIn_region_plain_round {id n r:Nat} {P:Program} {Q:Exit→Act→World→Prop} {a:Act} {w:World} {l:List Oper} (hd:l.all plainOp=true) (h:wpList P l.toArray (Exit.then (fun a w=>Q .normal a w) (fun _ _ _=>False)) l a w):(Code.region id l.toArray false).wpIn (Fence.wide.inRound r) n P Q a w :=
 wpIn_normal (wpIn_region_lit (listIn_round (by rintro ⟨a,w,h⟩;exact h) l a w (fun o ho=>plainOp_is (List.all_eq_true.1 hd o ho)) h))
end Go.Proofs.YthhfmppealmblaaGreatDoor
