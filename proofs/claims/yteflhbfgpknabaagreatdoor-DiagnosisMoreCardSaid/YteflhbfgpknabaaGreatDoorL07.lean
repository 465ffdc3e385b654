/-
  A part of the proof: RowG,KRow,AB,AMp,AQ,AO.
-/
import Derived.Test.YteflhbfgpknabaaGreatDoorL01
import Derived.OwnWalk
import Derived.Deep.AppendLies
import Derived.Test.YteflhbfgpknabaaGreatDoorL04
import Derived.Test.YteflhbfgpknabaaGreatDoorL02
import Derived.Deep.CutRange
import Derived.Deep.MidRow
import Derived.Laws.Rows
import Derived.BigRegion
import Derived.Deep.QuietTactic
import Derived.BigQuiet
import Derived.Deep.RegionWith
import Derived.StillTailTactics
import Derived.Maps.RangeWalk
import Derived.Maps.OwnOps
import Derived.WalkKit
import Derived.WalkSpells
import Derived.RangeFuncBox
import Derived.WalkSmall
import Derived.Lib.Hide
import Derived.ChangeKeysEq
import Derived.Test.YteflhbfgpknabaaGreatDoorL06
import Derived.RegionTactic
import Derived.ChangeAlike
import Derived.Deep.RegionHeld3
set_option maxRecDepth 100000
set_option maxHeartbeats 3200000
namespace Go.Proofs.YteflhbfgpknabaaGreatDoor
open Go.Lib (hid)
open Go.RowKit
theorem row_ne {A:World} {row:Option Nat} {base:Nat} {t:TypeId} {size k:Nat} {v:Value} {xs:List Value} (h:A.ownsRow base t size v k xs) (hr:∀ r,row=some r→∃ o:Obj,A.heap[r]?=some o∧o.isCells=false):v.ownBlock=none∨v.ownBlock≠row:=by
 rcases h.2 with ⟨rfl,_⟩ | ⟨g,cap,cur,rfl,_,hgb,_⟩
 ·exact .inl rfl
 ·refine .inr fun e'=>?_
  obtain ⟨o,ho,hc⟩:=hr g (by simpa [Value.ownBlock] using e'.symm)
  rw [hgb] at ho;cases ho;cases hc
theorem grown_none {W W':World} (hb:Below W.heap.size W W'):W.grownBy W' none:=⟨hb.os,hb.tape,hb.output,hb.size,fun i hi _=>hb.block i hi⟩
theorem row_later {W W':World} {base:Nat} {t:TypeId} {size k:Nat} {v:Value} {xs:List Value} (h:W.ownsRow base t size v k xs) (hb:Below W.heap.size W W'):W'.ownsRow base t size v k xs :=
 h.kept (grown_none hb) (row_ne h (fun r e=>by cases e))
theorem row_ge {W:World} {base:Nat} {t:TypeId} {size k:Nat} {v:Value} {xs:List Value} (h:W.ownsRow base t size v k xs) {j:Nat} (e:v.ownBlock=some j):base≤j:=by
 rcases h.2 with ⟨rfl,_⟩ | ⟨g,cap,cur,rfl,hg,_⟩
 ·simp [Value.ownBlock] at e
 ·have:g=j:=by simpa [Value.ownBlock] using e
  omega
theorem row_base {W:World} {base base':Nat} {t:TypeId} {size k:Nat} {v:Value} {xs:List Value} (h:W.ownsRow base t size v k xs) (hb:base'≤base):W.ownsRow base' t size v k xs:=by
 obtain ⟨h1,h2 | ⟨g,cap,cur,e1,e2,e3⟩⟩:=h
 ·exact ⟨h1,.inl h2⟩
 ·exact ⟨h1,.inr ⟨g,cap,cur,e1,Nat.le_trans hb e2,e3⟩⟩
theorem flat_get {α:Type} {k:Nat}:∀ (rows:List (List α)),(∀ r∈rows,r.length=k)→∀ (i:Nat) (h:i<rows.length) (j:Nat),j<k→rows.flatten[i * k+j]?=rows[i][j]?
 | [],_,i,h,_,_=>absurd h (Nat.not_lt_zero i)
 | r :: rows,hk,0,_,j,hj=>by
  have hr:=hk r (by simp)
  rw [List.flatten_cons,List.getElem?_append_left (by omega)]
  simp
 | r :: rows,hk,i+1,h,j,hj=>by
  have hr:=hk r (by simp)
  have hm:r.length≤(i+1) * k+j:=by rw [Nat.add_mul];omega
  rw [List.flatten_cons,List.getElem?_append_right hm,show (i+1) * k+j-r.length=i * k+j by rw [Nat.add_mul];omega]
  exact flat_get rows (fun r hr=>hk r (by simp [hr])) i (by simpa using h) j hj
theorem flat_len {α:Type} {k:Nat}:∀ (rows:List (List α)),(∀ r∈rows,r.length=k)→rows.flatten.length=rows.length * k
 | [],_=>by simp
 | r :: rows,hk=>by
  rw [List.flatten_cons,List.length_append,hk r (by simp),flat_len rows (fun r hr=>hk r (by simp [hr])),List.length_cons,Nat.add_mul]
  omega
theorem ARd.empty (w:World) (k:Nat):ARd w (.slice none 0 0) k []:=⟨_,_,rfl,fun i hi=>absurd hi (Nat.not_lt_zero i)⟩
theorem ARd.of_row {W:World} {base:Nat} {t:TypeId} {k:Nat} {v:Value} {rows:List (List Value)} (hk:∀ r∈rows,r.length=k) (h:W.ownsRow base t k v rows.length rows.flatten):ARd W v k rows:=by
 obtain ⟨_,⟨rfl,h0⟩ | ⟨g,cap,cur,rfl,_,hg,_,_,_,hx⟩⟩:=h
 ·have:=List.length_eq_zero_iff.1 h0
  subst this
  exact ARd.empty W k
 ·refine ⟨_,_,rfl,fun i hi=>⟨g,0,rfl,(Array.getElem?_eq_some_iff.1 hg).1,fun j u hj=>?_⟩⟩
  have hjk:j<k:=by
   have:=(List.getElem?_eq_some_iff.1 hj).1
   rwa [hk _ (List.getElem_mem hi)] at this
  have e:=flat_get rows hk i hi j hjk
  rw [hj,← hx,List.getElem?_take] at e
  split at e
  ·simp only [World.cell?,hg,Nat.zero_add]
   simpa using e
  ·cases e
theorem cell_alloc {W:World} {p:Addr} {v:Value} (h:W.cell? p=some v):∀ o,(W.alloc o).cell? p=some v:=fun o=>(((Below.refl _ W).alloc (Nat.le_refl _) o).cell (cell_size h)).trans h
theorem push_low {W0 W W':World} {o:Obj} {t:TypeId} {k n:Nat} {v:Value} {xs:List Value} (hb:Below W0.heap.size W0 W) (hrow:W.ownsRow W0.heap.size t k v n xs) (hg:(W.alloc o).grownBy W' v.ownBlock):Below W0.heap.size W0 W' :=
 (hb.alloc hb.size o).grown hg (by simp;have:=hb.size;omega) (fun j e=>row_ge hrow e)
def iC (n:Int):List Value:=[.int .i64 n]
def iCs (l:List Int):List Value:=l.map (Value.int .i64)
theorem iCs_flat (l:List Int):iCs l=(l.map iC).flatten:=by
 induction l with
 | nil=>rfl
 | cons a l ih=>simp [iCs,iC] at *;exact ih
theorem ARd.of_ints {W:World} {base:Nat} {t:TypeId} {v:Value} {l:List Int} (h:W.ownsRow base t 1 v l.length (iCs l)):ARd W v 1 (l.map iC) :=
 ARd.of_row (by intro r hr;obtain ⟨p,_,rfl⟩:=List.mem_map.1 hr;rfl) (by rw [List.length_map,← iCs_flat];exact h)
theorem ARd.intAt {w:World} {v:Value} {l:List Int} (h:ARd w v 1 (l.map iC)) (i:Nat) (hi:i<l.length):∃ b o c,v = .slice (some ⟨b,o,none⟩) l.length c∧b<w.heap.size∧w.cell? ⟨b,o+i,none⟩=some (.int .i64 l[i]):=by
 obtain ⟨b,o,c,e,hlt,hc⟩:=h.at i (by simpa using hi)
 rw [List.getElem_map] at hc
 rw [List.length_map] at e
 exact ⟨b,o,c,e,hlt,by have:=hc 0 _ rfl;rwa [Nat.mul_one] at this⟩
theorem ARd.intForm {w:World} {v:Value} {l:List Int} (h:ARd w v 1 (l.map iC)):∃ a c,v = .slice a l.length c:=by
 obtain ⟨a,c,e⟩:=h.form
 exact ⟨a,c,by simpa using e⟩
section
variable {α : Type}
variable {W W' : World} {t : TypeId} {k g cap : Nat} {enc : α → List Value} {m : List α}
theorem enc_len (hk:∀ x,(enc x).length=k) (m:List α):((m.map enc).flatten).length=m.length * k:=by
 have:=flat_len (k:=k) (m.map enc) (by intro r hr;obtain ⟨p,_,rfl⟩:=List.mem_map.1 hr;exact hk p)
 rwa [List.length_map] at this
end
theorem Blk.ne {W:World} {B B':Nat} {t t':TypeId} {cs cs':Array Value} (h:Blk W B t cs) (h':Blk W B' t' cs') (ht:t≠t'):B≠B':=by
 intro e
 subst e
 have e1:W.heap[B]?=some (.cells cs t (0,0)):=h
 have e2:W.heap[B]?=some (.cells cs' t' (0,0)):=h'
 rw [e1] at e2
 injection e2 with e3
 injection e3 with _ e4
 exact ht e4
theorem Blk.grown {W W':World} {B:Nat} {t:TypeId} {cs:Array Value} {row:Option Nat} (h:Blk W B t cs) (hg:W.grownBy W' row) (hne:row≠some B):Blk W' B t cs:=(hg.block B h.lt (fun e=>hne e.symm)).trans h
theorem set_grown (w:World) (b i:Nat) (v:Value):w.grownBy (w.setCell ⟨b,i,none⟩ v) (some b) :=
 ⟨rfl,rfl,rfl,by simp [World.setCell],fun k _ hne=>(Below.heap_setCell w ⟨b,i,none⟩ v k (fun e=>hne (by rw [e])))⟩
theorem below_two (w:World) (a b:Obj):Below w.heap.size w ((w.alloc a).alloc b):=((Below.refl _ _).alloc (Nat.le_refl _) _).alloc (by simp) _
def NumR (n:Int) (w:World) (e:Ending) (w':World):Prop:=e = .returned (.int .i64 n)∧Below w.heap.size w w'
theorem numR {n m:Int} (h:n=m) {w w':World} (hb:Below w.heap.size w w'):NumR n w (.returned (.int .i64 m)) w':=⟨by rw [h],hb⟩
def BoolR (b:Bool) (w:World) (e:Ending) (w':World):Prop:=e = .returned (.bool b)∧Below w.heap.size w w'
theorem boolR {b c:Bool} (h:b=c) {w w':World} (hb:Below w.heap.size w w'):BoolR b w (.returned (.bool c)) w':=⟨by rw [h],hb⟩
theorem blk_put {t:TypeId} {g:Nat}:∀ (vs:List Value) (o:Nat) (W:World) (cur:Array Value),Blk W g t cur→o+vs.length≤cur.size→Blk (W.setCells g o vs) g t (cur.toList.take o++vs++cur.toList.drop (o+vs.length)).toArray
 | [],o,W,cur,h,hl=>by
  have e:(cur.toList.take o++[]++cur.toList.drop (o+([]:List Value).length)).toArray=cur:=by simp
  rw [e]
  exact h
 | v :: r,o,W,cur,h,hl=>by
  rw [List.length_cons] at hl
  have h1:=blk_put r (o+1) _ _ (h.set o v) (by simpa using by omega)
  have hlt:o<cur.toList.length:=by rw [Array.length_toList];omega
  have e:((cur.setIfInBounds o v).toList.take (o+1)++r++(cur.setIfInBounds o v).toList.drop (o+1+r.length)).toArray=(cur.toList.take o++v :: r++cur.toList.drop (o+(v :: r).length)).toArray:=by
   rw [Array.toList_setIfInBounds,List.drop_set_of_lt (by omega),List.take_succ_eq_append_getElem (by simpa using hlt),List.take_set_of_le (Nat.le_refl _),List.getElem_set_self,List.length_cons]
   simp [Nat.add_assoc,Nat.add_comm 1]
  rw [e] at h1
  exact h1
theorem grown_cells (g:Nat):∀ (vs:List Value) (o:Nat) (W:World),W.grownBy (W.setCells g o vs) (some g)
 | [],_,W=>World.grownBy.refl W _
 | v :: r,o,W=>by
  have h:W.grownBy (W.setCell ⟨g,o,none⟩ v) (some g) :=
   ⟨rfl,rfl,rfl,by simp [World.setCell],fun k _ hne=>(Below.heap_setCell W ⟨g,o,none⟩ v k (fun e=>hne (by rw [e])))⟩
  exact h.trans (grown_cells g r (o+1) _)
section
variable {κ : Type} [DecidableEq κ]
def findAt (x:κ):List κ→List MapEntry→Nat→Option (Nat × Value)
 | k :: l,e :: es,i=>if x=k then some (i,e.val) else findAt x l es (i+1)
 | _,_,_=>none
structure MapK (P:Program) (kt:TypeId) (ek:κ→Value):Prop where
 find:∀ (x:κ) (es:List MapEntry) (l:List κ) (w:World),es.map (·.key)=l.map ek→(Instr.findKey kt (ek x) es).run P w = .ok (findAt x l es 0) w
 chk:∀ (b:Bool) (x:κ) (w:World),(Instr.checkKey b 10000 kt (ek x)).run P w = .ok () w
 bits:∀ x,Instr.sameBits 10000 (ek x) (ek x)=true
def mget (x:κ):List (κ × Value)→Option Value
 | []=>none
 | (k,v) :: l=>if x=k then some v else mget x l
def mput (x:κ) (v:Value):List (κ × Value)→List (κ × Value)
 | []=>[(x,v)]
 | (k,u) :: l=>if x=k then (x,v) :: l else (k,u) :: mput x v l
theorem mget_put (x y:κ) (v:Value):∀ l:List (κ × Value),mget y (mput x v l)=if y=x then some v else mget y l
 | []=>by simp only [mput,mget]
 | (k,u) :: l=>by
  rw [mput]
  by_cases h:x=k
  ·rw [if_pos h,mget,mget,h]
   by_cases e:y=k <;> simp [e]
  ·rw [if_neg h,mget,mget,mget_put x y v l]
   by_cases e:y=k
   ·subst e
    rw [if_pos rfl,if_neg (fun e=>h e.symm),if_pos rfl]
   ·rw [if_neg e,if_neg e]
theorem mput_none {x:κ} (v:Value):∀ {l:List (κ × Value)},mget x l=none→mput x v l=l++[(x,v)]
 | [],_=>rfl
 | (k,u) :: l,h=>by
  rw [mget] at h
  by_cases e:x=k
  ·rw [if_pos e] at h;cases h
  ·rw [if_neg e] at h
   rw [mput,if_neg e,mput_none v h];rfl
theorem mget_no {x:κ}:∀ {l:List (κ × Value)},mget x l=none↔x ∉ l.map (·.1)
 | []=>by simp [mget]
 | (k,u) :: l=>by
  rw [mget]
  by_cases e:x=k
  ·simp [e]
  ·rw [if_neg e,mget_no,List.map_cons,List.mem_cons,not_or]
   exact ⟨fun h=>⟨e,h⟩,fun h=>h.2⟩
theorem mput_keys {x:κ} {v:Value}:∀ {l:List (κ × Value)},mget x l≠none→(mput x v l).map (·.1)=l.map (·.1)
 | [],h=>absurd rfl h
 | (k,u) :: l,h=>by
  rw [mput]
  rw [mget] at h
  by_cases e:x=k
  ·rw [if_pos e];simp [e]
  ·rw [if_neg e] at h
   rw [if_neg e,List.map_cons,mput_keys h,List.map_cons]
theorem mput_nodup {x:κ} {v:Value} {l:List (κ × Value)} (h:(l.map (·.1)).Nodup):((mput x v l).map (·.1)).Nodup:=by
 cases hg:mget x l with
 | none =>
  rw [mput_none v hg,List.map_append,List.nodup_append]
  refine ⟨h,by simp,fun a ha b hb=>?_⟩
  simp only [List.map_cons,List.map_nil,List.mem_singleton] at hb
  subst hb
  exact fun e=>mget_no.1 hg (e ▸ ha)
 | some u=>rw [mput_keys (by rw [hg];simp)];exact h
theorem findAt_is {ek:κ→Value} (x:κ):∀ (l:List (κ × Value)) (es:List MapEntry) (i:Nat),es.map (fun e=>(e.key,e.val))=l.map (fun p=>(ek p.1,p.2)) →
  (mget x l=none∧findAt x (l.map (·.1)) es i=none) ∨
  ∃ j v0 e,mget x l=some v0∧findAt x (l.map (·.1)) es i=some (i+j,v0)∧es[j]?=some e∧e.key=ek x ∧
   ∀ (f:MapEntry→MapEntry) v,(∀ e:MapEntry,e.key=ek x→(f e).key=ek x∧(f e).val=v)→(es.modify j f).map (fun e=>(e.key,e.val))=(mput x v l).map (fun p=>(ek p.1,p.2))
 | [],[],i,_ => .inl ⟨rfl,rfl⟩
 | [],e :: es,i,h=>by simp at h
 | p :: l,[],i,h=>by simp at h
 | (k,u) :: l,e :: es,i,h=>by
  rw [List.map_cons,List.map_cons,List.cons.injEq,Prod.mk.injEq] at h
  obtain ⟨⟨h1,h2⟩,h3⟩:=h
  by_cases hx:x=k
  ·subst hx
   refine .inr ⟨0,u,e,by rw [mget,if_pos rfl],?_,rfl,h1,fun f v hf=>?_⟩
   ·rw [List.map_cons,findAt,if_pos rfl,h2];rfl
   ·rw [mput,if_pos rfl]
    show ((f e) :: es).map _=_
    rw [List.map_cons,List.map_cons,(hf e h1).1,(hf e h1).2,h3]
  ·rcases findAt_is x l es (i+1) h3 with ⟨g1,g2⟩ | ⟨j,v0,e0,g1,g2,g3,g4,g5⟩
   ·exact .inl ⟨by rw [mget,if_neg hx,g1],by rw [List.map_cons,findAt,if_neg hx,g2]⟩
   ·refine .inr ⟨j+1,v0,e0,by rw [mget,if_neg hx,g1],?_,g3,g4,fun f v hf=>?_⟩
    ·rw [List.map_cons,findAt,if_neg hx,g2]
     congr 2
     omega
    ·rw [mput,if_neg hx]
     show (e :: es.modify j f).map _=_
     rw [List.map_cons,List.map_cons,g5 f v hf,h1,h2]
end
section
variable {κ : Type} {ek : κ → Value} {W W' : World} {b : Nat} {l : List (κ × Value)}
def Mp (ek:κ→Value) (W:World) (b:Nat) (l:List (κ × Value)):Prop:=∃ es clock,W.heap[b]?=some (.map es clock)∧es.toList.map (fun e=>(e.key,e.val))=l.map (fun p=>(ek p.1,p.2))∧(l.map (·.1)).Nodup∧(es.toList.map (·.born)).Nodup∧∀ e∈es.toList,e.born<clock
theorem Mp.lt (h:Mp ek W b l):b<W.heap.size:=by
 obtain ⟨es,clock,hb,_⟩:=h
 exact (Array.getElem?_eq_some_iff.1 hb).1
theorem Mp.nodup (h:Mp ek W b l):(l.map (·.1)).Nodup:=by obtain ⟨_,_,_,_,h,_⟩:=h;exact h
theorem Mp.made (W:World):Mp ek (W.alloc (.map #[] 0)) W.heap.size []:=⟨#[],0,heap_alloc_new _ _,rfl,List.nodup_nil,List.nodup_nil,fun e h=>by simp at h⟩
theorem Mp.kept {row:Option Nat} (h:Mp ek W b l) (hg:W.grownBy W' row) (hne:some b≠row):Mp ek W' b l:=by
 have hlt:=h.lt
 obtain ⟨es,clock,hb,h2⟩:=h
 exact ⟨es,clock,(hg.block b hlt hne).trans hb,h2⟩
theorem Mp.below (h:Mp ek W b l) (hb:Below W.heap.size W W'):Mp ek W' b l :=
 h.kept (row:=none) ⟨hb.os,hb.tape,hb.output,hb.size,fun i hi _=>hb.block i hi⟩ (by simp)
end
section
variable {κ : Type} [DecidableEq κ] {P : Program} {kt : TypeId} {ek : κ → Value} {W : World} {b : Nat} {l : List (κ × Value)}
theorem Mp.lookup (K:MapK P kt ek) (h:Mp ek W b l) {t vt:TypeId} {z:Value} (ht:P.underlying t=some (.map kt vt)) (hz:(zeroValue vt).run P W = .ok z W) (x:κ) :
  (Instr.lookup t (.map (some b)) (ek x) false).run P W = .ok ((mget x l).getD z) W∧(Instr.lookup t (.map (some b)) (ek x) true).run P W = .ok (.tuple #[(mget x l).getD z,.bool (mget x l).isSome]) W:=by
 obtain ⟨es,clock,hb,hm,_⟩:=h
 have hk:es.toList.map (·.key)=(l.map (·.1)).map ek:=by
  have:=congrArg (List.map Prod.fst) hm
  simpa [List.map_map,Function.comp_def] using this
 have hf:=K.find x es.toList (l.map (·.1)) W hk
 rcases findAt_is x l es.toList 0 hm with ⟨g1,g2⟩ | ⟨j,v0,e0,g1,g2,_⟩
 ·rw [g2] at hf
  constructor <;> simp [Instr.lookup,run_underlying ht,MapKept.run_getObj_map hb,K.chk,hf,hz,g1,Result.andThen]
 ·rw [g2] at hf
  constructor <;> simp [Instr.lookup,run_underlying ht,MapKept.run_getObj_map hb,K.chk,hf,g1,Result.andThen]
theorem Mp.update (K:MapK P kt ek) (h:Mp ek W b l) {t vt:TypeId} (ht:P.underlying t=some (.map kt vt)) (x:κ) (v:Value) :
  ∃ W',(Instr.mapUpdate t (.map (some b)) (ek x) v).run P W = .ok () W'∧Mp ek W' b (mput x v l)∧W.grownBy W' (some b)∧W'.heap.size=W.heap.size:=by
 have hlt:=h.lt
 have hnd:=mput_nodup (x:=x) (v:=v) h.nodup
 obtain ⟨es,clock,hb,hm,hn,hbn,hbc⟩:=h
 have hk:es.toList.map (·.key)=(l.map (·.1)).map ek:=by
  have:=congrArg (List.map Prod.fst) hm
  simpa [List.map_map,Function.comp_def] using this
 have hf:=K.find x es.toList (l.map (·.1)) W hk
 have hgr:∀ o:Obj,W.grownBy { W with heap:=W.heap.setIfInBounds b o } (some b):=fun o=>⟨rfl,rfl,rfl,by simp,fun k _ hne=>by
  show (W.heap.setIfInBounds b o)[k]?=_
  rw [Array.getElem?_setIfInBounds,if_neg (fun e=>hne (by rw [e]))]⟩
 have hat:∀ o:Obj,({ W with heap:=W.heap.setIfInBounds b o }:World).heap[b]?=some o:=fun o=>by
  show (W.heap.setIfInBounds b o)[b]?=_
  rw [Array.getElem?_setIfInBounds,if_pos rfl,if_pos hlt]
 rcases findAt_is x l es.toList 0 hm with ⟨g1,g2⟩ | ⟨j,v0,e0,g1,g2,g3,g4,g5⟩
 ·rw [g2] at hf
  refine ⟨{ W with heap:=W.heap.setIfInBounds b (.map (es.push ⟨ek x,v,clock⟩) (clock+1)) },?_,⟨_,_,hat _,?_,hnd,?_,?_⟩,hgr _,by simp⟩
  ·simp [Instr.mapUpdate,run_underlying ht,MapKept.run_getObj_map hb,K.chk,hf,MapKept.run_setObj_map _ hb,Result.andThen]
  ·rw [mput_none v g1,Array.toList_push,List.map_append,List.map_append,hm];rfl
  ·rw [Array.toList_push,List.map_append,List.nodup_append]
   refine ⟨hbn,by simp,fun a ha c hc=>?_⟩
   simp only [List.map_cons,List.map_nil,List.mem_singleton] at hc
   subst hc
   obtain ⟨e,he,rfl⟩:=List.mem_map.1 ha
   exact Nat.ne_of_lt (hbc e he)
  ·intro e he
   rw [Array.toList_push,List.mem_append,List.mem_singleton] at he
   rcases he with he | rfl
   ·have:=hbc e he;omega
   ·exact Nat.lt_succ_self _
 ·rw [g2,Nat.zero_add] at hf
  have hej:es[j]?=some e0:=by rw [← Array.getElem?_toList];exact g3
  refine ⟨{ W with heap:=W.heap.setIfInBounds b (.map (es.modify j fun e=>{ e with key:=ek x,val:=v }) clock) },?_,⟨_,_,hat _,?_,hnd,?_,?_⟩,hgr _,by simp⟩
  ·simp [Instr.mapUpdate,run_underlying ht,MapKept.run_getObj_map hb,K.chk,hf,MapKept.run_setObj_map _ hb,Result.andThen,hej,Instr.keyThatStays,g4,K.bits]
  ·rw [Array.toList_modify]
   exact g5 (fun e=>{ e with key:=ek x,val:=v }) v (fun e _=>⟨rfl,rfl⟩)
  ·rw [Array.toList_modify]
   have:(es.toList.modify j fun e=>{ e with key:=ek x,val:=v }).map (·.born)=es.toList.map (·.born):=by
    apply List.ext_getElem?
    intro q
    simp only [List.getElem?_map,List.getElem?_modify]
    cases es.toList[q]? with
    | none=>rfl
    | some e=>by_cases e':j=q <;> simp [e']
   rw [this]
   exact hbn
  ·intro e he
   rw [Array.toList_modify] at he
   obtain ⟨q,hq⟩:=List.mem_iff_getElem?.1 he
   rw [List.getElem?_modify] at hq
   cases hq2:es.toList[q]? with
   | none=>rw [hq2] at hq;cases hq
   | some e1 =>
    rw [hq2] at hq
    have h1:=hbc e1 (List.mem_iff_getElem?.2 ⟨q,hq2⟩)
    by_cases e':j=q
    ·simp [e'] at hq;rw [← hq];exact h1
    ·simp [e'] at hq;rw [← hq];exact h1
end
section
variable {κ : Type}
def Rg (ek:κ→Value) (W:World) (b r:Nat) (l left:List (κ × Value)):Prop:=∃ es clock since seen c0,W.heap[b]?=some (.map es clock)∧es.toList.map (fun e=>(e.key,e.val))=l.map (fun p=>(ek p.1,p.2)) ∧
 (l.map (·.1)).Nodup∧(es.toList.map (·.born)).Nodup∧(∀ e∈es.toList,e.born<clock)∧W.heap[r]?=some (.mapIter (some b) since seen c0)∧(∀ x∈es.toList,x.born<since)∧since≤c0∧since≤clock ∧
 (leftOf es seen).toList.map (fun e=>(e.key,e.val))=left.map (fun p=>(ek p.1,p.2))∧(left.map (·.1)).Nodup∧(∀ p∈left,p∈l)
theorem leftOf_push (es:Array MapEntry) (seen:Array Nat) (n:Nat):(leftOf es (seen.push n)).toList=(leftOf es seen).toList.filter fun y=>!(y.born==n):=by
 unfold leftOf
 rw [Array.toList_filter,Array.toList_filter,List.filter_filter]
 congr 1
 funext y
 simp only [Array.contains_push,Bool.not_or]
 rw [Bool.and_comm]
variable {P : Program} {kt : TypeId} {ek : κ → Value} {W W' : World} {b r : Nat} {l left : List (κ × Value)}
theorem Rg.mp (h:Rg ek W b r l left):Mp ek W b l:=by
 obtain ⟨es,clock,_,_,_,hb,hm,hn,hbn,hbc,_⟩:=h
 exact ⟨es,clock,hb,hm,hn,hbn,hbc⟩
theorem Rg.ltr (h:Rg ek W b r l left):r<W.heap.size:=by
 obtain ⟨es,clock,_,_,_,_,_,_,_,_,hr,_⟩:=h
 exact (Array.getElem?_eq_some_iff.1 hr).1
theorem Mp.range (h:Mp ek W b l) {t vt:TypeId} (ht:P.underlying t=some (.map kt vt)) :
  ∃ W',(Instr.range t (.map (some b))).run P W = .ok (.pointer (some ⟨W.heap.size,0,none⟩)) W'∧Rg ek W' b W.heap.size l l∧W.grownBy W' none∧W'.heap.size=W.heap.size+1:=by
 have hlt:=h.lt
 obtain ⟨es,clock,hb,hm,hn,hbn,hbc⟩:=h
 exact ⟨_,run_range_map W t kt vt b es clock ht hb,⟨es,clock,clock,#[],clock,((MapKept.heap_alloc W _).2 b hlt).trans hb,hm,hn,hbn,hbc,(MapKept.heap_alloc W _).1,hbc,Nat.le_refl _,Nat.le_refl _,by rw [show leftOf es #[]=es by unfold leftOf;rw [Array.filter_eq_self];simp];exact hm,hn,fun _ hp=>hp⟩,World.grownBy_alloc W _ none,by simp⟩
theorem setBlock_heap (w:World) (r:Nat) (o:Obj) (h:r<w.heap.size):(ChangeMaps.setBlock w r o).heap[r]?=some o:=by
 simp [ChangeMaps.setBlock,h]
theorem setBlock_other (w:World) (r k:Nat) (o:Obj) (h:k≠r):(ChangeMaps.setBlock w r o).heap[k]?=w.heap[k]?:=by
 simp [ChangeMaps.setBlock,Ne.symm h]
end
section
variable {κ : Type} [DecidableEq κ]
theorem strike {ek:κ→Value}:∀ (A:List MapEntry) (B:List (κ × Value)),A.map (fun e=>(e.key,e.val))=B.map (fun p=>(ek p.1,p.2))→(A.map (·.born)).Nodup→(B.map (·.1)).Nodup→∀ e∈A,
  ∃ x v,(x,v)∈B∧e.key=ek x∧e.val=v∧(A.filter fun y=>!(y.born==e.born)).map (fun e=>(e.key,e.val))=(B.filter fun p=>!decide (p.1=x)).map (fun p=>(ek p.1,p.2))
 | [],_,_,_,_,e,he=>by cases he
 | a :: A,[],h,_,_,_,_=>by simp at h
 | a :: A,(k,u) :: B,h,hn,hm,e,he=>by
  rw [List.map_cons,List.map_cons,List.cons.injEq,Prod.mk.injEq] at h
  obtain ⟨⟨h1,h2⟩,h3⟩:=h
  rw [List.map_cons,List.nodup_cons] at hn hm
  by_cases hae:e=a
  ·subst hae
   refine ⟨k,u,by simp,h1,h2,?_⟩
   have f1:A.filter (fun y=>!(y.born==e.born))=A:=by
    rw [List.filter_eq_self]
    intro y hy
    have:y.born≠e.born:=fun q=>hn.1 (by rw [← q];exact List.mem_map.2 ⟨y,hy,rfl⟩)
    simpa using this
   have f2:B.filter (fun p=>!decide (p.1=k))=B:=by
    rw [List.filter_eq_self]
    intro p hp
    have:p.1≠k:=fun q=>hm.1 (by rw [← q];exact List.mem_map.2 ⟨p,hp,rfl⟩)
    simpa using this
   rw [List.filter_cons_of_neg (by simp),List.filter_cons_of_neg (by simp),f1,f2,h3]
  ·have heA:e∈A:=by
    rcases List.mem_cons.1 he with q | q
    ·exact absurd q hae
    ·exact q
   obtain ⟨x,v,hxv,g1,g2,g3⟩:=strike A B h3 hn.2 hm.2 e heA
   refine ⟨x,v,by simp [hxv],g1,g2,?_⟩
   have q1:a.born≠e.born:=fun q=>hn.1 (by rw [q];exact List.mem_map.2 ⟨e,heA,rfl⟩)
   have q2:k≠x:=fun q=>hm.1 (by rw [q];exact List.mem_map.2 ⟨_,hxv,rfl⟩)
   rw [List.filter_cons_of_pos (by simpa using q1),List.filter_cons_of_pos (by simpa using q2),List.map_cons,List.map_cons,g3,h1,h2]
variable {P : Program} {kt : TypeId} {ek : κ → Value} {W W' : World} {b r : Nat} {l left : List (κ × Value)}
theorem Rg.next (h:Rg ek W b r l left) (ty:TypeId) :
  (left=[]∧(Instr.next (.pointer (some ⟨r,0,none⟩)) false ty).run P W = .ok (.tuple #[.bool false]) W) ∨
  ∃ x v W',(x,v)∈left∧(Instr.next (.pointer (some ⟨r,0,none⟩)) false ty).run P W = .ok (.tuple #[.bool true,ek x,v]) W'∧Rg ek W' b r l (left.filter fun p=>!decide (p.1=x))∧W.grownBy W' (some r)∧W'.heap.size=W.heap.size ∧
   (Instr.entry (.pointer (some ⟨r,0,none⟩))).run P W' = .ok (.tuple #[ek x,v]) W':=by
 have hltb:=h.mp.lt
 have hltr:=h.ltr
 obtain ⟨es,clock,since,seen,c0,hb,hm,hn,hbn,hbc,hr,hold,hsc,hscl,hl,hln,hsub⟩:=h
 have hne:b≠r:=fun e=>by rw [e,hr] at hb;cases hb
 rcases run_next_at (P:=P) W ty r b since c0 seen es clock hr hb hold hsc with ⟨h0,hrun⟩ | ⟨e,he,w1,hw1,hrun⟩
 ·refine .inl ⟨?_,hrun⟩
  have:=congrArg List.length hl
  simp only [List.length_map,Array.length_toList,h0] at this
  exact List.length_eq_zero_iff.1 this.symm
 ·have hsubl:(leftOf es seen).toList.Sublist es.toList:=by unfold leftOf;rw [Array.toList_filter];exact List.filter_sublist
  have hnl:((leftOf es seen).toList.map (·.born)).Nodup:=hbn.sublist (hsubl.map _)
  obtain ⟨x,v,hxv,k1,k2,k3⟩:=strike _ _ hl hnl hln e he
  rw [k1,k2] at hrun
  have hw1h:w1.heap=W.heap:=by rcases hw1 with rfl | rfl <;> rfl
  have hgr:W.grownBy (ChangeMaps.setBlock w1 r (.mapIter (some b) since (seen.push e.born) clock)) (some r):=by
   refine ⟨?_,?_,?_,?_,fun k hk hne'=>?_⟩
   ·rcases hw1 with rfl | rfl <;> rfl
   ·rcases hw1 with rfl | rfl <;> rfl
   ·rcases hw1 with rfl | rfl <;> rfl
   ·simp [ChangeMaps.setBlock,hw1h]
   ·rw [setBlock_other _ _ _ _ (fun e=>hne' (by rw [e])),hw1h]
  have hrr:(ChangeMaps.setBlock w1 r (.mapIter (some b) since (seen.push e.born) clock)).heap[r]?=some (.mapIter (some b) since (seen.push e.born) clock):=setBlock_heap _ _ _ (by rw [hw1h];exact hltr)
  have hbb:(ChangeMaps.setBlock w1 r (.mapIter (some b) since (seen.push e.born) clock)).heap[b]?=some (.map es clock):=by rw [setBlock_other _ _ _ _ hne,hw1h];exact hb
  refine .inr ⟨x,v,_,hxv,hrun,⟨es,clock,since,seen.push e.born,clock,hbb,hm,hn,hbn,hbc,hrr,hold,hscl,hscl,?_,?_,fun p hp=>hsub p (List.mem_filter.1 hp).1⟩,hgr,by simp [ChangeMaps.setBlock,hw1h],?_⟩
  ·rw [leftOf_push];exact k3
  ·exact hln.sublist (List.filter_sublist.map _)
  ·have:=run_entry_at (P:=P) _ r b since seen es clock e hrr hbb (hsubl.subset he) hbn
   rw [k1,k2] at this
   exact this
variable {ops : Array Oper} {rest : List Oper} {o : Oper} {a : Act} {Q : Exit → Act → World → Prop}
theorem wpList_update_mp (w:World) (hg:o.guard=none) (m x v:Operand) (t:TypeId) (hop:o.op=Op.mapUpdate t m x v) (vt:TypeId) (K:MapK P kt ek) (ht:P.underlying t=some (.map kt vt))
  (hm:a.eval m = .map (some b)) (hown:Mp ek w b l) (y:κ) (u:Value) (hx:a.eval x=ek y) (hv:a.eval v=u) (hK:∀ w',Mp ek w' b (mput y u l)→w.grownBy w' (some b)→w'.heap.size=w.heap.size→wpList P ops Q rest (a.put o.dst undef) w'):wpList P ops Q (o :: rest) a w:=by
 refine wpList_plain hg fun K' hK'=>?_
 obtain ⟨w',hrun,r1,r2,r3⟩:=hown.update K ht y u
 unfold Oper.wp
 simp [execOp,hop,hm,hx,hv,hrun,Result.andThen]
 exact hK' _ _ (hK w' r1 r2 r3)
theorem wpList_next_mp (w:World) (hg:o.guard=none) (it:Operand) (hop:o.op=Op.next it false) (hit:a.eval it = .pointer (some ⟨r,0,none⟩)) (h:Rg ek w b r l left)
  (hDone:left=[]→wpList P ops Q rest (a.put o.dst (.tuple #[.bool false])) w)
  (hMore:∀ x v w',(x,v)∈left→Rg ek w' b r l (left.filter fun p=>!decide (p.1=x))→w.grownBy w' (some r)→w'.heap.size=w.heap.size→(Instr.entry (.pointer (some ⟨r,0,none⟩))).run P w' = .ok (.tuple #[ek x,v]) w'→wpList P ops Q rest (a.put o.dst (.tuple #[.bool true,ek x,v])) w'):wpList P ops Q (o :: rest) a w:=by
 refine wpList_plain hg fun K' hK'=>?_
 unfold Oper.wp
 rcases h.next (P:=P) o.type with ⟨h0,hrun⟩ | ⟨x,v,w',h1,hrun,h2,h3,h4,h5⟩
 ·simp [execOp,hop,hit,hrun,Result.andThen]
  exact hK' _ _ (hDone h0)
 ·simp [execOp,hop,hit,hrun,Result.andThen]
  exact hK' _ _ (hMore x v w' h1 h2 h3 h4 h5)
end
section
variable {κ : Type} {P : Program} {ek : κ → Value} {W : World} {b : Nat} {l : List (κ × Value)}
variable {ops : Array Oper} {rest : List Oper} {o : Oper} {a : Act} {Q : Exit → Act → World → Prop}
theorem wpList_range_mp (w:World) (hg:o.guard=none) (m:Operand) (t:TypeId) (hop:o.op=Op.range t m) (kt vt:TypeId) (ht:P.underlying t=some (.map kt vt)) (hm:a.eval m = .map (some b)) (hown:Mp ek w b l)
  (hK:∀ w',Rg ek w' b w.heap.size l l→w.grownBy w' none→w'.heap.size=w.heap.size+1→wpList P ops Q rest (a.put o.dst (.pointer (some ⟨w.heap.size,0,none⟩))) w'):wpList P ops Q (o :: rest) a w:=by
 refine wpList_plain hg fun K' hK'=>?_
 obtain ⟨w',hrun,r1,r2,r3⟩:=hown.range (P:=P) ht
 unfold Oper.wp
 simp [execOp,hop,hm,hrun,Result.andThen]
 exact hK' _ _ (hK w' r1 r2 r3)
end
section
variable {κ : Type} [DecidableEq κ]
def mdel (x:κ):List (κ × Value)→List (κ × Value)
 | []=>[]
 | (k,u) :: l=>if x=k then l else (k,u) :: mdel x l
theorem mdel_sub (x:κ):∀ l:List (κ × Value),(mdel x l).Sublist l
 | []=>List.Sublist.refl _
 | (k,u) :: l=>by
  rw [mdel]
  split
  ·exact List.sublist_cons_self _ _
  ·exact (mdel_sub x l).cons_cons _
theorem findAt_del {ek:κ→Value} (x:κ):∀ (l:List (κ × Value)) (es:List MapEntry) (i:Nat),es.map (fun e=>(e.key,e.val))=l.map (fun p=>(ek p.1,p.2)) →
  (findAt x (l.map (·.1)) es i=none∧mdel x l=l) ∨
  ∃ j v0,findAt x (l.map (·.1)) es i=some (i+j,v0)∧(es.eraseIdx j).map (fun e=>(e.key,e.val))=(mdel x l).map (fun p=>(ek p.1,p.2))
 | [],[],i,_ => .inl ⟨rfl,rfl⟩
 | [],e :: es,i,h=>by simp at h
 | p :: l,[],i,h=>by simp at h
 | (k,u) :: l,e :: es,i,h=>by
  rw [List.map_cons,List.map_cons,List.cons.injEq,Prod.mk.injEq] at h
  obtain ⟨⟨h1,h2⟩,h3⟩:=h
  by_cases hx:x=k
  ·subst hx
   refine .inr ⟨0,e.val,?_,?_⟩
   ·rw [List.map_cons,findAt,if_pos rfl];rfl
   ·rw [mdel,if_pos rfl,List.eraseIdx_cons_zero,h3]
  ·rcases findAt_del x l es (i+1) h3 with ⟨g1,g2⟩ | ⟨j,v0,g1,g2⟩
   ·exact .inl ⟨by rw [List.map_cons,findAt,if_neg hx,g1],by rw [mdel,if_neg hx,g2]⟩
   ·refine .inr ⟨j+1,v0,?_,?_⟩
    ·rw [List.map_cons,findAt,if_neg hx,g1]
     congr 2
     omega
    ·rw [mdel,if_neg hx,List.eraseIdx_cons_succ,List.map_cons,List.map_cons,g2,h1,h2]
variable {P : Program} {kt : TypeId} {ek : κ → Value} {W : World} {b : Nat} {l : List (κ × Value)}
theorem Mp.delete (K:MapK P kt ek) (h:Mp ek W b l) {t vt:TypeId} (ht:P.underlying t=some (.map kt vt)) (k2 ty:TypeId) (x:κ) :
  ∃ W',(Builtin.delete_ #[t,k2] ty #[.map (some b),ek x]).run P W = .ok (.tuple #[]) W'∧Mp ek W' b (mdel x l)∧W.grownBy W' (some b)∧W'.heap.size=W.heap.size:=by
 have hlt:=h.lt
 have hnd:((mdel x l).map (·.1)).Nodup:=h.nodup.sublist ((mdel_sub x l).map _)
 obtain ⟨es,clock,hb,hm,hn,hbn,hbc⟩:=h
 have hk:es.toList.map (·.key)=(l.map (·.1)).map ek:=by
  have:=congrArg (List.map Prod.fst) hm
  simpa [List.map_map,Function.comp_def] using this
 have hf:=K.find x es.toList (l.map (·.1)) W hk
 have hgr:∀ o:Obj,W.grownBy { W with heap:=W.heap.setIfInBounds b o } (some b):=fun o=>⟨rfl,rfl,rfl,by simp,fun k _ hne=>by
  show (W.heap.setIfInBounds b o)[k]?=_
  rw [Array.getElem?_setIfInBounds,if_neg (fun e=>hne (by rw [e]))]⟩
 have hat:∀ o:Obj,({ W with heap:=W.heap.setIfInBounds b o }:World).heap[b]?=some o:=fun o=>by
  show (W.heap.setIfInBounds b o)[b]?=_
  rw [Array.getElem?_setIfInBounds,if_pos rfl,if_pos hlt]
 rcases findAt_del x l es.toList 0 hm with ⟨g1,g2⟩ | ⟨j,v0,g1,g2⟩
 ·rw [g1] at hf
  rw [g2]
  refine ⟨{ W with heap:=W.heap.setIfInBounds b (.map es clock) },?_,⟨_,_,hat _,hm,hn,hbn,hbc⟩,hgr _,by simp⟩
  simp [Builtin.delete_,run_underlying ht,MapKept.run_getObj_map hb,K.chk,hf,MapKept.run_setObj_map _ hb,Result.andThen]
 ·rw [g1,Nat.zero_add] at hf
  have he:(es.eraseIdxIfInBounds j).toList=es.toList.eraseIdx j:=Array.toList_eraseIdxIfInBounds
  have hs:(es.toList.eraseIdx j).Sublist es.toList:=List.eraseIdx_sublist _ _
  refine ⟨{ W with heap:=W.heap.setIfInBounds b (.map (es.eraseIdxIfInBounds j) clock) },?_,⟨_,_,hat _,by rw [he];exact g2,hnd,by rw [he];exact hbn.sublist (hs.map _),by rw [he];exact fun e h=>hbc e (hs.subset h)⟩,hgr _,by simp⟩
  simp [Builtin.delete_,run_underlying ht,MapKept.run_getObj_map hb,K.chk,hf,MapKept.run_setObj_map _ hb,Result.andThen]
variable {ops : Array Oper} {rest : List Oper} {o : Oper} {a : Act} {Q : Exit → Act → World → Prop}
end
section
variable {κ : Type} [DecidableEq κ] {P : Program} {kt : TypeId} {ek : κ → Value}
theorem run_asking (heq:∀ x y w,(Op.equal kt (ek x) (ek y)).run P w = .ok (decide (x=y)) w) (x:κ) (w:World):∀ (es:List MapEntry) (l:List κ) (i:Nat),es.map (·.key)=l.map ek→(Instr.findAsking kt (ek x) es i).run P w = .ok (findAt x l es i) w
 | [],[],i,_=>by simp [Instr.findAsking,findAt]
 | [],k :: l,i,h=>by simp at h
 | e :: es,[],i,h=>by simp at h
 | e :: es,k :: l,i,h=>by
  rw [List.map_cons,List.map_cons,List.cons.injEq] at h
  have ih:=run_asking heq x w es l (i+1) h.2
  have hq:=heq x k w
  rw [← h.1] at hq
  by_cases hx:x=k
  ·subst hx
   rw [decide_eq_true rfl] at hq
   simp [Instr.findAsking,hq,Result.andThen,findAt]
  ·rw [decide_eq_false hx] at hq
   simp [Instr.findAsking,hq,Result.andThen,findAt,hx,ih]
theorem mapK_agg {d:TypeDesc} (hd:P.underlying kt=some d) (hnow:∀ x y,Instr.sameNow d (ek x) (ek y)=none) (heq:∀ x y w,(Op.equal kt (ek x) (ek y)).run P w = .ok (decide (x=y)) w)
  (hchk:∀ b x w,(Instr.checkKey b 10000 kt (ek x)).run P w = .ok () w) (hbits:∀ x,Instr.sameBits 10000 (ek x) (ek x)=true):MapK P kt ek where
 chk:=hchk
 bits:=hbits
 find x es l w h:=by
  have ha:=run_asking heq x w es l 0 h
  cases es with
  | nil =>
   cases l with
   | nil=>simp [Instr.findKey,run_underlying hd,Instr.findNow,findAt,Result.andThen]
   | cons k l=>simp at h
  | cons e es =>
   cases l with
   | nil=>simp at h
   | cons k l =>
    have h1:e.key=ek k:=(List.cons.inj h).1
    have h2:Instr.findNow d (ek x) (e :: es) 0=none:=by rw [Instr.findNow,h1,hnow x k]
    simp [Instr.findKey,run_underlying hd,h2,Result.andThen,ha]
end
def ekP (p:Pp):Value:=.agg #[.int .i64 p.1,.int .i64 p.2]
theorem pp_eq (p q:Pp):(p.1==q.1&&p.2==q.2)=decide (p=q):=by
 obtain ⟨a,b⟩:=p
 obtain ⟨c,d⟩:=q
 rw [Bool.eq_iff_iff]
 simp [Prod.mk.injEq]
theorem run_eqP (x y:Pp) (w:World):(Op.equalIn 10000 78 (ekP x) (ekP y)).run Tryz.prog w = .ok (decide (x=y)) w:=by
 unfold ekP
 rw [← pp_eq]
 rw [run_equalIn_agg w 9999 78 _ _ (by kernel_rfl) (by kernel_rfl)]
 simp only [Program.fieldsOf,Tryz.underlying78]
 simp [go_sem,Tryz.underlying3,part]
 by_cases h1:x.1=y.1 <;> by_cases h2:x.2=y.2 <;> simp [h1,h2]
theorem chk_pp (b:Bool) (x:Pp) (w:World) (n:Nat):(Instr.checkKey b (n+1+1) 78 (ekP x)).run Tryz.prog w = .ok () w:=by
 unfold ekP
 simp [Instr.checkKey,run_underlying Tryz.underlying78,run_underlying Tryz.underlying3,go_sem,part,Result.andThen]
theorem pp_keys:MapK Tryz.prog 78 ekP :=
 mapK_agg Tryz.underlying78 (fun _ _=>rfl) (fun x y w=>run_eqP x y w) (fun b x w=>chk_pp b x w 9998) (fun x=>by unfold ekP;simp [Instr.sameBits])
theorem pl_eq (p q:Pl):(p.1==q.1&&p.2==q.2)=decide (p=q):=by
 obtain ⟨a,b⟩:=p
 obtain ⟨c,d⟩:=q
 rw [Bool.eq_iff_iff]
 simp [Prod.mk.injEq]
theorem checkP_zero {S:Sp} (h:(checkP S).2=0):checkP S=((0,0,0),0)∧S.ds.length≤6∧S.rs.length≤40∧S.ss.length≤80∧S.cs.length≤24∧fst0 (errD S) S.ds.length=none∧fst0 (errR S) S.rs.length=none∧(∀ j,j<S.ss.length→(stopE S j).2=0)∧fst0 (errC S) S.cs.length=none:=by
 have hl:¬ (6<S.ds.length∨40<S.rs.length∨80<S.ss.length∨24<S.cs.length):=by
  intro hl
  rw [check_toolong hl] at h
  cases h
 cases hD:fst0 (errD S) S.ds.length with
 | some i=>rw [checkP_d hl hD] at h;exact absurd h (fst0_is hD).2.1
 | none =>
  cases hR:fst0 (errR S) S.rs.length with
  | some i=>rw [checkP_r hl hD hR] at h;exact absurd h (fst0_is hR).2.1
  | none =>
   cases hS:fst0 (fun i=>(stopE S i).2) S.ss.length with
   | some i =>
    obtain ⟨h1,h2,h3⟩:=fst0_is hS
    rw [checkP_s hl hD hR h1 h2 h3] at h
    exact absurd h h2
   | none =>
    have hS':=fst0_none.1 hS
    cases hC:fst0 (errC S) S.cs.length with
    | some i=>rw [checkP_c hl hD hR hS' hC] at h;exact absurd h (fst0_is hC).2.1
    | none=>exact ⟨checkP_ok hl hD hR hS' hC,by omega,by omega,by omega,by omega,rfl,rfl,hS',rfl⟩
def plB (y:Pt) (key:Int) (p:Pp):Bool:=decide (y.rank=p.1∧y.lo≤key∧key≤y.hi∧key+y.shift=p.2)
structure PlSt (w:World) (cx cp:Array Value) (W:World):Prop where
 st:Blk W w.heap.size 66 cx
 pp:Blk W (w.heap.size+1) 78 cp
 low:Below w.heap.size w W
theorem PlSt.below {w W W':World} {cx cp:Array Value} (h:PlSt w cx cp W) (hb:Below W.heap.size W W'):PlSt w cx cp W':=⟨h.st.below hb,h.pp.below hb,below_step h.low hb⟩
theorem PlSt.new (w:World) (cx cp:Array Value):PlSt w cx cp ((w.alloc (.cells cx 66)).alloc (.cells cp 78)) where
 st:=(Blk.new w _ _).alloc _
 pp:=by
  have:=Blk.new (w.alloc (.cells cx 66)) 78 cp
  rwa [World.size_alloc] at this
 low:=((Below.refl _ w).alloc (Nat.le_refl _) _).alloc (by simp) _
theorem rplays_any (x:St) (v:Value) (key:Int) (p:Pp) (w:World) (hv:ARd w v 4 (x.parts.map ptC)) (hl:x.parts.length≤1000) (hr:∀ y∈x.parts,-96≤y.shift∧y.shift≤96) (hk : -1000≤key∧key≤1000) :
  Calls Tryz.prog 156 #[.agg #[.string x.name,.int .i64 x.div,.int .i64 x.num,.int .i64 x.den,v],.int .i64 key,.agg #[.int .i64 p.1,.int .i64 p.2]] w fun e w'=>e = .returned (.bool (playsB x key p))∧Below w.heap.size w w':=by
 obtain ⟨a,c,ev⟩:=hv.form
 rw [List.length_map] at ev
 subst ev
 have HV:=hid hv
 have HST:=hid (PlSt.new w #[.string x.name,.int .i64 x.div,.int .i64 x.num,.int .i64 x.den,.slice a x.parts.length c] #[.int .i64 p.1,.int .i64 p.2])
 go_enter Tryz.func156,Tryz.ntmps156
 go_wp2
 go_loopw [7] (fun n wr=>∃ k:Nat,k≤x.parts.length∧n = .int .i64 k∧Hid (∀ j (h:j<x.parts.length),j<k→plB x.parts[j] key p=false)∧Hid (PlSt w #[.string x.name,.int .i64 x.div,.int .i64 x.num,.int .i64 x.den,.slice a x.parts.length c] #[.int .i64 p.1,.int .i64 p.2] wr)) (fun n _=>x.parts.length-(intOf n).toNat)
 case atStart=>exact ⟨0,by omega,rfl,hid (fun j _ hj=>by omega),HST⟩
 obtain ⟨k,hk',rfl,hE,hS⟩:=hrel
 have t3:=hS.out.st.cell 4
 by_cases hlt:k<x.parts.length
 ·obtain ⟨b,o,c',ev',hbl,hc⟩:=(HV.out.later hS.out.low).at k (by simpa using hlt)
  rw [List.getElem_map] at hc
  have q0:wr.cell? ⟨b,o+k * 4,none⟩=some (.int .i64 x.parts[k].rank):=hc 0 _ rfl
  have q1:wr.cell? ⟨b,o+k * 4+1,none⟩=some (.int .i64 x.parts[k].shift):=hc 1 _ rfl
  have q2:wr.cell? ⟨b,o+k * 4+2,none⟩=some (.int .i64 x.parts[k].lo):=hc 2 _ rfl
  have q3:wr.cell? ⟨b,o+k * 4+3,none⟩=some (.int .i64 x.parts[k].hi):=hc 3 _ rfl
  rw [List.length_map] at ev'
  cases ev'
  have hk2:(k:Int)<(x.parts.length:Int):=by omega
  have hsh:=hr x.parts[k] (List.getElem_mem hlt)
  have u0:∀ cs,(wr.alloc (.cells cs 105)).cell? ⟨w.heap.size+1,0,none⟩=some (.int .i64 p.1):=fun cs=>(hS.out.pp.alloc (.cells cs 105)).cell 0
  have u1:∀ cs,(wr.alloc (.cells cs 105)).cell? ⟨w.heap.size+1,1,none⟩=some (.int .i64 p.2):=fun cs=>(hS.out.pp.alloc (.cells cs 105)).cell 1
  go_wp2
  all_goals first
   | (have HT:=hid (show playsB x key p=true from List.any_eq_true.2 ⟨x.parts[k],List.getElem_mem hlt,decide_eq_true ⟨by assumption,by assumption,by assumption,beq_iff_eq.1 (by assumption)⟩⟩);go_ret;exact ⟨by rw [HT.out];rfl,hS.out.low.alloc hS.out.low.size _⟩)
   | (refine ⟨⟨k+1,by omega,by go_num,hid (fun j h hj=>by rcases Nat.lt_succ_iff_lt_or_eq.1 hj with h' | h';exact hE.out j h h';subst h';unfold plB;rw [decide_eq_false_iff_not];rintro ⟨g1,g2,g3,g4⟩;first | omega | simp_all),hid (hS.out.below ((Below.refl _ _).alloc (Nat.le_refl _) _))⟩,by simp [intOf];omega⟩)
 ·have hk2:¬ ((k:Int)<(x.parts.length:Int)):=by omega
  have HF:=hid (show playsB x key p=false from List.any_eq_false.2 (fun y hy=>by
   obtain ⟨j,hj,rfl⟩:=List.mem_iff_getElem.1 hy
   have:=hE.out j hj (by omega)
   unfold plB at this
   simpa using this))
  have HL:=hid hS.out.low
  go_wp2
  go_ret
  exact ⟨by rw [HF.out];rfl,HL.out⟩
def ppC (p:Pp):List Value:=[.int .i64 p.1,.int .i64 p.2]
def ppCs (l:List Pp):List Value:=(l.map ppC).flatten
theorem ppCs_snoc (l:List Pp) (p:Pp):ppCs (l++[p])=ppCs l++[.int .i64 p.1,.int .i64 p.2]:=by simp [ppCs,ppC]
theorem ARd.of_pps {W:World} {base:Nat} {t:TypeId} {v:Value} {l:List Pp} (h:W.ownsRow base t 2 v l.length (ppCs l)):ARd W v 2 (l.map ppC) :=
 ARd.of_row (by intro r hr;obtain ⟨p,_,rfl⟩:=List.mem_map.1 hr;rfl) (by rw [List.length_map];exact h)
theorem pp_info:(Tryz.prog.info? 78).map (fun i=>(i.zero,i.size,i.bytes))=some (some (.agg #[.int .i64 0,.int .i64 0]),2,16):=by kernel_rfl
theorem allFrom_append:∀ (n:Int) (a b:List Rk),allFrom n (a++b)=allFrom n a++allFrom (n+a.length) b
 | n,[],b=>by simp [allFrom]
 | n,r :: a,b=>by
  rw [List.cons_append,allFrom,allFrom_append (n+1) a b,allFrom,List.append_assoc,List.length_cons]
  congr 3
  push_cast
  omega
theorem allFrom_take {l:List Rk} {k:Nat} (h:k<l.length):allFrom 0 (l.take (k+1))=allFrom 0 (l.take k)++ofRank k l[k].low l[k].cnt.toNat:=by
 rw [List.take_succ_eq_append_getElem h,allFrom_append,List.length_take,Nat.min_eq_left (Nat.le_of_lt h)]
 simp [allFrom]
theorem ofRank_len (i lo:Int) (n:Nat):(ofRank i lo n).length=n:=by
 induction n with
 | zero=>rfl
 | succ n ih=>rw [ofRank,List.length_append,ih];rfl
theorem allFrom_len {l:List Rk} (h:∀ r∈l,rkE r=0):∀ (n:Int),(allFrom n l).length≤97 * l.length:=by
 induction l with
 | nil=>intro n;simp [allFrom]
 | cons r l ih =>
  intro n
  have hr:=h r (by simp)
  have h2:=ih (fun x hx=>h x (by simp [hx])) (n+1)
  have:1≤r.cnt∧r.cnt≤97:=by
   unfold rkE at hr
   split at hr
   ·split at hr
    ·omega
    ·omega
   ·omega
  rw [allFrom,List.length_append,ofRank_len,List.length_cons]
  omega
theorem rk_ok {r:Rk} (hr:rkE r=0):1≤r.cnt∧r.cnt≤97∧0≤r.low∧r.low+r.cnt≤128:=by
 unfold rkE at hr
 split at hr
 ·split at hr
  ·omega
  ·omega
 ·omega
theorem pps_step {W:World} {base:Nat} {t:TypeId} {v:Value} {l:List Pp} {n:Nat} {p:Pp} (h:W.ownsRow base t 2 v n (ppCs l++[.int .i64 p.1,.int .i64 p.2])) (hn:n=l.length+1):W.ownsRow base t 2 v (l++[p]).length (ppCs (l++[p])):=by
 rw [ppCs_snoc,List.length_append,List.length_singleton,← hn]
 exact h
theorem rall_any (v1 v2 v3 v4:Value) (S:Sp) (w:World) (f:Nat→Value) (hsp:SpRd w v1 v2 v3 v4 f S) (hn:S.rs.length≤40) (hr:∀ r∈S.rs,rkE r=0) :
  Calls Tryz.prog 155 #[.agg #[v1,v2,v3,v4]] w fun e w'=>∃ v,e = .returned v∧w'.ownsRow w.heap.size 78 2 v (allFrom 0 S.rs).length (ppCs (allFrom 0 S.rs))∧Below w.heap.size w w':=by
 have HSP:=hid hsp
 have HR:=hid hr
 obtain ⟨a2,c2,ev2⟩:=hsp.forms.2.1
 subst ev2
 obtain ⟨i0,hi,hz0,hz1,hz2⟩:=info_parts pp_info
 obtain ⟨W0,hW0⟩:∃ W0,W0=w.alloc (.cells #[v1,.slice a2 S.rs.length c2,v3,v4] 27):=⟨_,rfl⟩
 have hb0:Below w.heap.size w W0:=by rw [hW0];exact (Below.refl _ w).alloc (Nat.le_refl _) _
 have k0:Blk W0 w.heap.size 27 #[v1,.slice a2 S.rs.length c2,v3,v4]:=by rw [hW0];exact Blk.new w _ _
 have HB0:=hid hb0
 have HK0:=hid k0
 have hlt0:=k0.lt
 have hsz0:=hb0.size
 have hst:Hid (W0.ownsRow W0.heap.size 78 2 (.slice none 0 0) (allFrom 0 (S.rs.take 0)).length (ppCs (allFrom 0 (S.rs.take 0)))):=hid (World.ownsRow_nil _ _ _ _)
 have hrefl:Hid (Below W0.heap.size W0 W0):=hid (Below.refl _ _)
 clear hsp hr hb0 k0
 go_enter Tryz.func155,Tryz.ntmps155
 go_wp2
 rw [← hW0]
 clear hW0
 go_loopw [3,4] (fun v x wr=>∃ k:Nat,k≤S.rs.length∧x = .int .i64 k∧Hid (wr.ownsRow W0.heap.size 78 2 v (allFrom 0 (S.rs.take k)).length (ppCs (allFrom 0 (S.rs.take k))))∧Hid (Below W0.heap.size W0 wr)) (fun _ x _=>S.rs.length-(intOf x).toNat)
 case atStart=>exact ⟨0,by omega,rfl,hst,hrefl⟩
 obtain ⟨k,hk,rfl,hrow,hW⟩:=hrel
 have s1:=((HK0.out.below hW.out).cell 1)
 by_cases hlt:k<S.rs.length
 ·have hk2:(k:Int)<(S.rs.length:Int):=by omega
  have hrk:=rk_ok (HR.out S.rs[k] (List.getElem_mem hlt))
  obtain ⟨c1,c2',c3,c4⟩:=hrk
  have HL:=hid (allFrom_len (l:=S.rs.take k) (fun r h=>HR.out r (List.mem_of_mem_take h)) 0)
  have hst2:Hid (wr.ownsRow W0.heap.size 78 2 u3 (allFrom 0 (S.rs.take k)++ofRank k S.rs[k].low 0).length (ppCs (allFrom 0 (S.rs.take k)++ofRank k S.rs[k].low 0))):=by
   rw [ofRank,List.append_nil];exact hrow
  have HTK:=hid (allFrom_take hlt)
  obtain ⟨m,hm⟩:∃ m:Nat,S.rs[k].cnt=m:=⟨S.rs[k].cnt.toNat,by omega⟩
  have hmt:S.rs[k].cnt.toNat=m:=by omega
  have HMT:=hid hmt
  have HM:=hid hm
  have hm97:m≤97:=by omega
  clear hrow hm hmt
  go_wp2
  go_loopw [3,5] (fun v x wi=>∃ j:Nat,j≤m∧x = .int .i64 j∧Hid (wi.ownsRow W0.heap.size 78 2 v (allFrom 0 (S.rs.take k)++ofRank k S.rs[k].low j).length (ppCs (allFrom 0 (S.rs.take k)++ofRank k S.rs[k].low j)))∧Hid (Below W0.heap.size W0 wi)) (fun _ x _=>m-(intOf x).toNat)
  case atStart=>exact ⟨0,by omega,rfl,hst2,hW⟩
  clear hst2 hW s1
  obtain ⟨j,hj,rfl,hrow,hW⟩:=hrel
  have s1:=((HK0.out.below hW.out).cell 1)
  obtain ⟨b,o,c,ev,hbl,r0,r1,r2,r3,r4,r5⟩:=(HSP.out.later (HB0.out.trans (hW.out.mono HB0.out.size))).rAt k hlt
  cases ev
  rw [HM.out] at r5
  by_cases hjm:j<m
  ·have hj2:(j:Int)<(m:Int):=by omega
   have hlen:(allFrom 0 (S.rs.take k)++ofRank k S.rs[k].low j).length≤97 * 40:=by
    have h1:=HL.out
    rw [List.length_append,ofRank_len]
    rw [List.length_take] at h1
    omega
   have hsz:=hW.out.size
   have e1:IntKind.i64.wrap (S.rs[k].low+(j:Int))=S.rs[k].low+(j:Int):=IntWalk.i64_in _ (by omega)
   go_wp2_with (at_builtin;refine wpList_append_lies _ rfl _ _ 50 rfl W0.heap.size 78 i0 _ 2 16 Tryz.underlying50 hi hz0 hz1 hz2 rfl (by omega) _ _ _ rfl (hrow.out.alloc _) ⟨wr.heap.size,0,none⟩ 1 1 [.int .i64 k,.int .i64 (S.rs[k].low+j)] rfl rfl (World.news_of_block (cs:=#[.int .i64 k,.int .i64 (S.rs[k].low+j)]) (t:=78) (fr:=(0,0)) (heap_alloc_new wr _)) (by simp [Value.oneCell']) (by omega) (by unfold maxLen;omega) (by omega) (by simp;omega) (wr.heap.size+1) (by simp) ?_;intro gg cap w3 hown3 hgrow hat3 hlt3)
   have HP:=hid (pps_step (l:=allFrom 0 (S.rs.take k)++ofRank k S.rs[k].low j) (p:=((k:Int),S.rs[k].low+j)) hown3 rfl)
   rw [List.append_assoc,show ofRank (k:Int) S.rs[k].low j++[((k:Int),S.rs[k].low+(j:Int))]=ofRank k S.rs[k].low (j+1) from rfl] at HP
   have HB:=hid (push_low hW.out hrow.out hgrow)
   rw [List.length_append] at HP
   refine ⟨⟨j+1,by omega,by go_num,?_,HB⟩,by simp [intOf];omega⟩
   simpa only [List.length_append] using HP
  ·have hje:j=m:=by omega
   have hj2:¬ ((j:Int)<(m:Int)):=by omega
   have HE:Hid (wr.ownsRow W0.heap.size 78 2 u3 (allFrom 0 (S.rs.take (k+1))).length (ppCs (allFrom 0 (S.rs.take (k+1))))):=by
    have:=hrow.out
    rw [hje,← HMT.out,← HTK.out] at this
    exact hid this
   clear hrow hje
   go_wp2
   go_roundw
   case rel=>exact ⟨k+1,by omega,by go_num,HE,hW⟩
   case measure=>simp [intOf];omega
 ·have hke:k=S.rs.length:=by omega
  have hk2:¬ ((k:Int)<(S.rs.length:Int)):=by omega
  have HE:=hrow.out
  rw [hke,List.take_length] at HE
  have HB:=hid (HB0.out.trans (hW.out.mono HB0.out.size))
  have HO:=hid (row_base HE HB0.out.size)
  clear HE hrow hke
  go_wp2
  go_ret
  exact ⟨_,rfl,HO.out,HB.out⟩
theorem filter_take_yes {α:Type} {l:List α} {q:α→Bool} {k:Nat} (h:k<l.length) (hq:q l[k]=true):(l.take (k+1)).filter q=(l.take k).filter q++[l[k]]:=by
 rw [List.take_succ_eq_append_getElem h,List.filter_append]
 simp [hq]
theorem filter_take_no {α:Type} {l:List α} {q:α→Bool} {k:Nat} (h:k<l.length) (hq:q l[k]=false):(l.take (k+1)).filter q=(l.take k).filter q:=by
 rw [List.take_succ_eq_append_getElem h,List.filter_append]
 simp [hq]
structure SpGood (S:Sp):Prop where
 ds:S.ds.length≤6
 rs:S.rs.length≤40
 ss:S.ss.length≤80
 cs:S.cs.length≤24
 d:∀ d∈S.ds,dvE d=0
 r:∀ r∈S.rs,rkE r=0
 s:∀ x∈S.ss,0≤x.div∧x.div<S.ds.length∧0<x.parts.length∧x.parts.length≤12
 p:∀ x∈S.ss,∀ y∈x.parts,ptE S x y=0
theorem spGood {S:Sp} (h:(checkP S).2=0):SpGood S:=by
 obtain ⟨h1,h2,h3,h4,h5,h6,h7,h8,h9⟩:=checkP_zero h
 have hS:∀ j (hj:j<S.ss.length),errS S j=0∧∀ y∈S.ss[j].parts,ptE S S.ss[j] y=0:=by
  intro j hj
  have h:=h8 j hj
  unfold stopE at h
  rw [List.getElem?_eq_getElem hj] at h
  by_cases hz:errS S j=0
  ·refine ⟨hz,?_⟩
   simp only [hz,ne_eq,not_true_eq_false,if_false] at h
   cases hf:fst0 (errP S S.ss[j]) S.ss[j].parts.length with
   | none =>
    intro y hy
    obtain ⟨k,hk,rfl⟩:=List.mem_iff_getElem.1 hy
    have:=fst0_none.1 hf k hk
    unfold errP at this
    rw [List.getElem?_eq_getElem hk] at this
    exact this
   | some k =>
    rw [hf] at h
    exact absurd h (fst0_is hf).2.1
  ·simp only [hz,ne_eq,not_false_eq_true,if_true] at h
 refine ⟨h2,h3,h4,h5,all_dvE h6,all_rkE h7,fun x hx=>?_,fun x hx=>?_⟩
 ·obtain ⟨j,hj,rfl⟩:=List.mem_iff_getElem.1 hx
  have hz:=(hS j hj).1
  unfold errS at hz
  rw [List.getElem?_eq_getElem hj] at hz
  simp only at hz
  split at hz
  ·cases hz
  ·split at hz
   ·have hz:=nmE_zero hz
    unfold stE at hz
    split at hz
    ·split at hz
     ·exact ⟨by omega,by omega,by omega,by omega⟩
     ·cases hz
    ·cases hz
   ·cases hz
 ·obtain ⟨j,hj,rfl⟩:=List.mem_iff_getElem.1 hx
  exact (hS j hj).2
theorem dv_ok {d:Dv} (h:dvE d=0):0≤d.lo∧d.lo≤d.hi∧d.hi≤127∧d.hi-d.lo≤60:=by
 unfold dvE at h
 split at h
 ·omega
 ·cases h
theorem SpGood.part {S:Sp} (g:SpGood S) {x:St} (hx:x∈S.ss) {y:Pt} (hy:y∈x.parts):∃ (k:Nat) (hk:k<S.rs.length),y.rank=k∧-96≤y.shift∧y.shift≤96∧0≤y.lo∧y.lo≤y.hi∧y.hi≤127∧S.rs[k].low≤y.lo+y.shift∧y.hi+y.shift<S.rs[k].low+S.rs[k].cnt:=by
 have h:=g.p x hx y hy
 obtain ⟨d1,d2,_⟩:=g.s x hx
 unfold ptE at h
 split at h
 ·next hr =>
  refine ⟨y.rank.toNat,by omega,by omega,?_⟩
  rw [List.getElem?_eq_getElem (show x.div.toNat<S.ds.length by omega),List.getElem?_eq_getElem (show y.rank.toNat<S.rs.length by omega)] at h
  simp only at h
  have hd:=dv_ok (g.d _ (List.getElem_mem (show x.div.toNat<S.ds.length by omega)))
  split at h
  ·split at h
   ·omega
   ·cases h
  ·cases h
 ·cases h
theorem SpGood.plays {S:Sp} (g:SpGood S) {x:St} (hx:x∈S.ss) {key:Int}:∀ p∈playsL x key,p∈allFrom 0 S.rs:=by
 intro p hp
 unfold playsL at hp
 rw [List.mem_map] at hp
 obtain ⟨y,hy,rfl⟩:=hp
 rw [List.mem_filter] at hy
 obtain ⟨hy,hk⟩:=hy
 simp only [decide_eq_true_eq] at hk
 obtain ⟨k,hk',h1,h2⟩:=g.part hx hy
 rw [mem_allFrom]
 exact ⟨k,hk',by simpa using h1,by simp only;omega,by simp only;omega⟩
theorem run_eqPp (a b c d:Int) (w:World):(binOp .eql 78 (.agg #[.int .i64 a,.int .i64 b]) (.agg #[.int .i64 c,.int .i64 d])).run Tryz.prog w = .ok (.bool (a==c&&b==d)) w:=by
 rw [run_eql_struct]
 rw [run_equalIn_agg w 9999 78 _ _ (by kernel_rfl) (by kernel_rfl)]
 simp only [Program.fieldsOf,Tryz.underlying78]
 simp [go_sem,Tryz.underlying3,part]
 by_cases h1:a=c <;> by_cases h2:b=d <;> simp [h1,h2]
theorem run_nePp (a b c d:Int) (w:World):(binOp .neq 78 (.agg #[.int .i64 a,.int .i64 b]) (.agg #[.int .i64 c,.int .i64 d])).run Tryz.prog w = .ok (.bool (!(a==c&&b==d))) w:=by
 rw [run_neq_struct]
 rw [run_equalIn_agg w 9999 78 _ _ (by kernel_rfl) (by kernel_rfl)]
 simp only [Program.fieldsOf,Tryz.underlying78]
 simp [go_sem,Tryz.underlying3,part]
 by_cases h1:a=c <;> by_cases h2:b=d <;> simp [h1,h2]
theorem nePp {p q:Pp} {b:Bool} (h:decide (p=q)=b) (w:World):(binOp .neq 78 (.agg #[.int .i64 p.1,.int .i64 p.2]) (.agg #[.int .i64 q.1,.int .i64 q.2])).run Tryz.prog w = .ok (.bool (!b)) w:=by rw [run_nePp,pp_eq,h]
end Go.Proofs.YteflhbfgpknabaaGreatDoor
namespace Go.Proofs.YteflhbfgpknabaaGreatDoor
open Go.Lib (hid)
theorem sp_lens {S:Sp} (h:(checkP S).2=0):S.ds.length≤6∧S.rs.length≤40∧S.ss.length≤80∧S.cs.length≤24:=by
 unfold checkP at h
 split at h
 ·cases h
 ·omega
open Go.RowKit
end Go.Proofs.YteflhbfgpknabaaGreatDoor
