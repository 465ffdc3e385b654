/-
  A part of the proof: PpP, RowG, KRow, H, A0, AB, A1, AMp, AQ.
-/
import Derived.Test.YthhfmppealmblaaGreatDoorN01
import Derived.OwnWalk
import Derived.Deep.AppendLies
import Derived.WalkKit
import Derived.Test.YthhfmppealmblaaGreatDoorN03
import Derived.Deep.CutRange
import Derived.Deep.MidRow
import Derived.Laws.Rows
import Derived.BigRegion
import Derived.Deep.QuietTactic
import Derived.BigQuiet
import Derived.Deep.RegionWith
import Derived.StillTailTactics
import Derived.Maps.RangeWalk
import Derived.Maps.OwnOps
import Derived.WalkSpells
import Derived.RangeFuncBox
import Derived.WalkSmall
import Derived.Lib.Hide
import Derived.ChangeKeysEq
import Derived.Test.YthhfmppealmblaaGreatDoorN05
import Derived.RegionTactic
import Derived.ChangeAlike
import Derived.Deep.RegionHeld3
namespace Go.Proofs.YthhfmppealmblaaGreatDoor
abbrev Pp:=Int × Int
def ppLt (a b:Pp):Prop:=a.1<b.1∨a.1=b.1∧a.2<b.2
theorem ppLt_irrefl (a:Pp):¬ ppLt a a:=by unfold ppLt;omega
theorem ppLt_trans {a b c:Pp} (h:ppLt a b) (k:ppLt b c):ppLt a c:=by unfold ppLt at *;omega
def ofRank (i:Int) (lo:Int):Nat→List Pp
 | 0=>[]
 | n+1=>ofRank i lo n++[(i,lo+n)]
theorem mem_ofRank {i lo:Int} {n:Nat} {p:Pp}:p∈ofRank i lo n ↔ p.1=i∧lo≤p.2∧p.2<lo+n:=by
 obtain ⟨a,b⟩:=p
 induction n with
 | zero=>simp [ofRank]
 | succ n ih=>simp only [ofRank,List.mem_append,ih,List.mem_singleton,Prod.mk.injEq];omega
theorem asc_ofRank (i lo:Int) (n:Nat):(ofRank i lo n).Pairwise ppLt:=by
 induction n with
 | zero=>simp [ofRank]
 | succ n ih =>
  rw [ofRank,List.pairwise_append]
  refine ⟨ih,by simp,fun x hx y hy=>?_⟩
  rw [mem_ofRank] at hx
  simp only [List.mem_singleton] at hy
  subst hy
  unfold ppLt
  simp only
  omega
def allFrom:Int→List Rk→List Pp
 | _,[]=>[]
 | i,r :: l=>ofRank i r.low r.cnt.toNat++allFrom (i+1) l
theorem allFrom_ge:∀ {i:Int} {l:List Rk} {p:Pp},p∈allFrom i l→i≤p.1
 | _,[],_,h=>by simp [allFrom] at h
 | i,r :: l,p,h=>by
  rw [allFrom,List.mem_append] at h
  rcases h with h | h
  ·rw [mem_ofRank] at h;omega
  ·have:=allFrom_ge h;omega
theorem asc_allFrom:∀ (i:Int) (l:List Rk),(allFrom i l).Pairwise ppLt
 | _,[]=>by simp [allFrom]
 | i,r :: l=>by
  rw [allFrom,List.pairwise_append]
  refine ⟨asc_ofRank _ _ _,asc_allFrom _ _,fun x hx y hy=>?_⟩
  have h1:=mem_ofRank.1 hx
  have h2:=allFrom_ge hy
  unfold ppLt
  omega
theorem mem_allFrom:∀ {i:Int} {l:List Rk} {p:Pp},p∈allFrom i l ↔ ∃ k,∃ h:k<l.length,p.1=i+k∧l[k].low≤p.2∧p.2<l[k].low+l[k].cnt.toNat
 | i,[],p=>by simp [allFrom]
 | i,r :: l,p=>by
  rw [allFrom,List.mem_append,mem_ofRank,mem_allFrom]
  constructor
  ·rintro (h | ⟨k,hk,h1,h2,h3⟩)
   ·exact ⟨0,by simp,by simpa using h⟩
   ·exact ⟨k+1,by simpa using hk,by push_cast;omega,by simpa using h2,by simpa using h3⟩
  ·rintro ⟨k,hk,h1,h2,h3⟩
   cases k with
   | zero=>left;exact ⟨by simpa using h1,h2,h3⟩
   | succ k=>right;exact ⟨k,by simpa using hk,by push_cast at h1;omega,by simpa using h2,by simpa using h3⟩
def playsL (x:St) (key:Int):List Pp:=(x.parts.filter fun y=>decide (y.lo≤key∧key≤y.hi)).map fun y=>(y.rank,key+y.shift)
def playsB (x:St) (key:Int) (p:Pp):Bool:=x.parts.any fun y=>decide (y.rank=p.1∧y.lo≤key∧key≤y.hi∧key+y.shift=p.2)
theorem mem_playsL {x:St} {key:Int} {p:Pp}:p∈playsL x key ↔ playsB x key p=true:=by
 unfold playsL playsB
 rw [List.mem_map,List.any_eq_true]
 constructor
 ·rintro ⟨y,hy,rfl⟩
  rw [List.mem_filter] at hy
  exact ⟨y,hy.1,by have:=hy.2;simp only [decide_eq_true_eq] at this ⊢;exact ⟨trivial,this.1,this.2,trivial⟩⟩
 ·rintro ⟨y,hy,h⟩
  simp only [decide_eq_true_eq] at h
  exact ⟨y,List.mem_filter.2 ⟨hy,by simpa using ⟨h.2.1,h.2.2.1⟩⟩,Prod.ext h.1 h.2.2.2⟩
end Go.Proofs.YthhfmppealmblaaGreatDoor
namespace Go.Proofs.YthhfmppealmblaaGreatDoor
open Go.RowKit
theorem row_ne {A:World} {row:Option Nat} {base:Nat} {t:TypeId} {size k:Nat} {v:Value} {xs:List Value} (h:A.ownsRow base t size v k xs) (hr:∀ r,row=some r→∃ o:Obj,A.heap[r]?=some o∧o.isCells=false):v.ownBlock=none∨v.ownBlock≠row:=by
 rcases h.2 with ⟨rfl,_⟩ | ⟨g,cap,cur,rfl,_,hgb,_⟩
 ·exact .inl rfl
 ·refine .inr fun e'=>?_
  obtain ⟨o,ho,hc⟩:=hr g (by simpa [Value.ownBlock] using e'.symm)
  rw [hgb] at ho;cases ho;cases hc
theorem grown_none {W W':World} (hb:Below W.heap.size W W'):W.grownBy W' none:=⟨hb.os,hb.tape,hb.output,hb.size,fun i hi _=>hb.block i hi⟩
theorem row_later {W W':World} {base:Nat} {t:TypeId} {size k:Nat} {v:Value} {xs:List Value} (h:W.ownsRow base t size v k xs) (hb:Below W.heap.size W W'):W'.ownsRow base t size v k xs :=
 h.kept (grown_none hb) (row_ne h (fun r e=>by cases e))
theorem row_ge {W:World} {base:Nat} {t:TypeId} {size k:Nat} {v:Value} {xs:List Value} (h:W.ownsRow base t size v k xs) {j:Nat} (e:v.ownBlock=some j):base≤j:=by
 rcases h.2 with ⟨rfl,_⟩ | ⟨g,cap,cur,rfl,hg,_⟩
 ·simp [Value.ownBlock] at e
 ·have:g=j:=by simpa [Value.ownBlock] using e
  omega
theorem row_base {W:World} {base base':Nat} {t:TypeId} {size k:Nat} {v:Value} {xs:List Value} (h:W.ownsRow base t size v k xs) (hb:base'≤base):W.ownsRow base' t size v k xs:=by
 obtain ⟨h1,h2 | ⟨g,cap,cur,e1,e2,e3⟩⟩:=h
 ·exact ⟨h1,.inl h2⟩
 ·exact ⟨h1,.inr ⟨g,cap,cur,e1,Nat.le_trans hb e2,e3⟩⟩
theorem flat_get {α:Type} {k:Nat}:∀ (rows:List (List α)),(∀ r∈rows,r.length=k)→∀ (i:Nat) (h:i<rows.length) (j:Nat),j<k→rows.flatten[i * k+j]?=rows[i][j]?
 | [],_,i,h,_,_=>absurd h (Nat.not_lt_zero i)
 | r :: rows,hk,0,_,j,hj=>by
  have hr:=hk r (by simp)
  rw [List.flatten_cons,List.getElem?_append_left (by omega)]
  simp
 | r :: rows,hk,i+1,h,j,hj=>by
  have hr:=hk r (by simp)
  have hm:r.length≤(i+1) * k+j:=by rw [Nat.add_mul];omega
  rw [List.flatten_cons,List.getElem?_append_right hm,show (i+1) * k+j-r.length=i * k+j by rw [Nat.add_mul];omega]
  exact flat_get rows (fun r hr=>hk r (by simp [hr])) i (by simpa using h) j hj
theorem flat_len {α:Type} {k:Nat}:∀ (rows:List (List α)),(∀ r∈rows,r.length=k)→rows.flatten.length=rows.length * k
 | [],_=>by simp
 | r :: rows,hk=>by
  rw [List.flatten_cons,List.length_append,hk r (by simp),flat_len rows (fun r hr=>hk r (by simp [hr])),List.length_cons,Nat.add_mul]
  omega
theorem ARd.empty (w:World) (k:Nat):ARd w (.slice none 0 0) k []:=⟨_,_,rfl,fun i hi=>absurd hi (Nat.not_lt_zero i)⟩
theorem ARd.of_row {W:World} {base:Nat} {t:TypeId} {k:Nat} {v:Value} {rows:List (List Value)} (hk:∀ r∈rows,r.length=k) (h:W.ownsRow base t k v rows.length rows.flatten):ARd W v k rows:=by
 obtain ⟨_,⟨rfl,h0⟩ | ⟨g,cap,cur,rfl,_,hg,_,_,_,hx⟩⟩:=h
 ·have:=List.length_eq_zero_iff.1 h0
  subst this
  exact ARd.empty W k
 ·refine ⟨_,_,rfl,fun i hi=>⟨g,0,rfl,(Array.getElem?_eq_some_iff.1 hg).1,fun j u hj=>?_⟩⟩
  have hjk:j<k:=by
   have:=(List.getElem?_eq_some_iff.1 hj).1
   rwa [hk _ (List.getElem_mem hi)] at this
  have e:=flat_get rows hk i hi j hjk
  rw [hj,← hx,List.getElem?_take] at e
  split at e
  ·simp only [World.cell?,hg,Nat.zero_add]
   simpa using e
  ·cases e
theorem cell_alloc {W:World} {p:Addr} {v:Value} (h:W.cell? p=some v):∀ o,(W.alloc o).cell? p=some v:=fun o=>(((Below.refl _ W).alloc (Nat.le_refl _) o).cell (cell_size h)).trans h
theorem push_low {W0 W W':World} {o:Obj} {t:TypeId} {k n:Nat} {v:Value} {xs:List Value} (hb:Below W0.heap.size W0 W) (hrow:W.ownsRow W0.heap.size t k v n xs) (hg:(W.alloc o).grownBy W' v.ownBlock):Below W0.heap.size W0 W' :=
 (hb.alloc hb.size o).grown hg (by simp;have:=hb.size;omega) (fun j e=>row_ge hrow e)
end Go.Proofs.YthhfmppealmblaaGreatDoor
namespace Go.Proofs.YthhfmppealmblaaGreatDoor
open Go.RowKit
def iC (n:Int):List Value:=[.int .i64 n]
def iCs (l:List Int):List Value:=l.map (Value.int .i64)
theorem iCs_flat (l:List Int):iCs l=(l.map iC).flatten:=by
 induction l with
 | nil=>rfl
 | cons a l ih=>simp [iCs,iC] at *;exact ih
theorem iCs_snoc (l:List Int) (n:Int):iCs (l++[n])=iCs l++[.int .i64 n]:=by simp [iCs]
theorem ARd.of_ints {W:World} {base:Nat} {t:TypeId} {v:Value} {l:List Int} (h:W.ownsRow base t 1 v l.length (iCs l)):ARd W v 1 (l.map iC) :=
 ARd.of_row (by intro r hr;obtain ⟨p,_,rfl⟩:=List.mem_map.1 hr;rfl) (by rw [List.length_map,← iCs_flat];exact h)
theorem ARd.intAt {w:World} {v:Value} {l:List Int} (h:ARd w v 1 (l.map iC)) (i:Nat) (hi:i<l.length):∃ b o c,v = .slice (some ⟨b,o,none⟩) l.length c∧b<w.heap.size∧w.cell? ⟨b,o+i,none⟩=some (.int .i64 l[i]):=by
 obtain ⟨b,o,c,e,hlt,hc⟩:=h.at i (by simpa using hi)
 rw [List.getElem_map] at hc
 rw [List.length_map] at e
 exact ⟨b,o,c,e,hlt,by have:=hc 0 _ rfl;rwa [Nat.mul_one] at this⟩
theorem ARd.intForm {w:World} {v:Value} {l:List Int} (h:ARd w v 1 (l.map iC)):∃ a c,v = .slice a l.length c:=by
 obtain ⟨a,c,e⟩:=h.form
 exact ⟨a,c,by simpa using e⟩
section
variable {α : Type}
structure EnB (W:World) (t:TypeId) (k:Nat) (enc:α→List Value) (g cap:Nat) (m:List α):Prop where
 cur:∃ cur,Blk W g t cur∧cur.size=cap * k∧cur.toList.take (m.length * k)=(m.map enc).flatten
 le:m.length≤cap
variable {W W' : World} {t : TypeId} {k g cap : Nat} {enc : α → List Value} {m : List α}
theorem enc_len (hk:∀ x,(enc x).length=k) (m:List α):((m.map enc).flatten).length=m.length * k:=by
 have:=flat_len (k:=k) (m.map enc) (by intro r hr;obtain ⟨p,_,rfl⟩:=List.mem_map.1 hr;exact hk p)
 rwa [List.length_map] at this
theorem EnB.cell (hk:∀ x,(enc x).length=k) (h:EnB W t k enc g cap m) {i:Nat} (hi:i<m.length) {j:Nat} {u:Value} (hj:(enc m[i])[j]?=some u):W.cell? ⟨g,i * k+j,none⟩=some u∧W.frozen? ⟨g,i * k+j,none⟩=false:=by
 obtain ⟨⟨cur,hg,hz,hx⟩,hn⟩:=h
 have hjk:j<k:=by
  have:=(List.getElem?_eq_some_iff.1 hj).1
  rwa [hk] at this
 have e:=flat_get (m.map enc) (by intro r hr;obtain ⟨p,_,rfl⟩:=List.mem_map.1 hr;exact hk p) i (by simpa using hi) j hjk
 rw [List.getElem_map,hj,← hx,List.getElem?_take] at e
 split at e
 ·exact ⟨(hg.cell _).trans (by simpa using e),hg.frozen _⟩
 ·cases e
theorem EnB.of_row {base n:Nat} (h:W.ownsRow base t k (.slice (some ⟨g,0,none⟩) n cap) m.length (m.map enc).flatten):EnB W t k enc g cap m∧base≤g∧cap≤maxLen∧n=m.length:=by
 obtain ⟨hl,⟨e,_⟩ | ⟨g',cap',cur,e,hb,hg,hn,hc,hz,hx⟩⟩:=h
 ·cases e
 ·cases e
  exact ⟨⟨⟨cur,hg,hz,hx⟩,hn⟩,hb,hc,rfl⟩
theorem EnB.row {base:Nat} (hk:∀ x,(enc x).length=k) (h:EnB W t k enc g cap m) (hb:base≤g) (hc:cap≤maxLen):W.ownsRow base t k (.slice (some ⟨g,0,none⟩) m.length cap) m.length (m.map enc).flatten:=by
 obtain ⟨⟨cur,hg,hz,hx⟩,hn⟩:=h
 exact ⟨enc_len hk m,.inr ⟨g,cap,cur,rfl,hb,hg,hn,hc,hz,hx⟩⟩
theorem flat_set (hk:∀ x,(enc x).length=k):∀ (m:List α) (i:Nat) (x:α) (L:List Value),i<m.length→L.length=m.length * k→(∀ q,q<m.length * k→L[q]?=if i * k≤q∧q<i * k+k then (enc x)[q-i * k]? else ((m.map enc).flatten)[q]?)→L=((m.set i x).map enc).flatten:=by
 intro m i x L hi hL hq
 apply List.ext_getElem?
 intro q
 have hlen:(((m.set i x).map enc).flatten).length=m.length * k:=by rw [enc_len hk,List.length_set]
 by_cases hlt:q<m.length * k
 ·rw [hq q hlt]
  have k0:0<k:=by
   rcases Nat.eq_zero_or_pos k with h0 | h0
   ·subst h0;simp at hlt
   ·exact h0
  have hd:=Nat.div_add_mod q k
  have hm:=Nat.mod_lt q k0
  have hql:q / k<m.length:=(Nat.div_lt_iff_lt_mul k0).2 hlt
  have e1:=flat_get ((m.set i x).map enc) (by intro r hr;obtain ⟨p,_,rfl⟩:=List.mem_map.1 hr;exact hk p) (q / k) (by simpa using hql) (q % k) hm
  have e2:=flat_get (m.map enc) (by intro r hr;obtain ⟨p,_,rfl⟩:=List.mem_map.1 hr;exact hk p) (q / k) (by simpa using hql) (q % k) hm
  rw [Nat.mul_comm (q / k) k,hd] at e1 e2
  rw [e1,List.getElem_map,List.getElem_set]
  by_cases c:i=q / k
  ·have c1:i * k≤q∧q<i * k+k:=by rw [c,Nat.mul_comm];omega
   rw [if_pos c1,if_pos c]
   congr 1
   rw [c,Nat.mul_comm]
   omega
  ·have c1:¬ (i * k≤q∧q<i * k+k):=by
    rintro ⟨a,b⟩
    apply c
    have b':q<(i+1) * k:=by rw [Nat.add_mul];omega
    have:=(Nat.le_div_iff_mul_le k0).2 a
    have:=(Nat.div_lt_iff_lt_mul k0).2 b'
    omega
   rw [if_neg c1,if_neg c,e2,List.getElem_map]
 ·rw [List.getElem?_eq_none (by omega),List.getElem?_eq_none (by omega)]
end
end Go.Proofs.YthhfmppealmblaaGreatDoor
namespace Go.Proofs.YthhfmppealmblaaGreatDoor
theorem getD_at {α:Type} {l:List α} {k:Nat} (h:k<l.length) (d:α):l.getD k d=l[k]:=by
 rw [List.getD_eq_getElem?_getD,List.getElem?_eq_getElem h]
 rfl
abbrev Th:=Int × Int × Int
abbrev Ev:=Int × Int × Int × Int × Int
def there (S:Sp) (what div n:Int):Bool :=
 if what=1 then decide (0≤div∧div<S.ds.length) else if what=2 then decide (0≤n∧n<S.ss.length) else if what=3 then decide (0≤n∧n<S.cs.length) else true
def keyIn (S:Sp) (div n:Int):Bool:=match S.ds[div.toNat]? with
 | some d=>decide (d.lo≤n∧n≤d.hi)
 | none=>true
def thing (x:Ev):Th:=(x.2.1,x.2.2.1,x.2.2.2.1)
def evE (S:Sp) (x:Ev):Int :=
 if x.2.1<1∨5<x.2.1∨(x.2.1≠1∧x.2.2.1≠0)∨(x.2.1=5∧x.2.2.2.2≠0) then 2
 else if there S x.2.1 x.2.2.1 x.2.2.2.1=false then 4
 else if (x.2.1=1∧keyIn S x.2.2.1 x.2.2.2.1=false)∨(x.2.1=4∧¬ (0≤x.2.2.2.1∧x.2.2.2.1≤3))∨(x.2.1=5∧¬ (0≤x.2.2.2.1∧x.2.2.2.1≤9999))∨¬ (0≤x.2.2.2.2∧x.2.2.2.2≤if x.2.1=4 then 127 else 1) then 7
 else 0
def ev0:Ev:=(0,0,0,0,0)
def onS (f:Th→Int) (x:Ev):Th→Int:=fun t=>if x.2.1≠5∧thing x=t then x.2.2.2.2 else f t
def onV (l:List Ev):Th→Int:=l.foldl onS fun _=>0
theorem onV_snoc (l:List Ev) (x:Ev):onV (l++[x])=onS (onV l) x:=by unfold onV;rw [List.foldl_append];rfl
theorem onV_take {l:List Ev} {i:Nat} (h:i<l.length):onV (l.take (i+1))=onS (onV (l.take i)) l[i]:=by rw [List.take_succ_eq_append_getElem h,onV_snoc]
def tickB (l:List Ev) (i:Nat):Int:=if i=0 then 0 else (l.getD (i-1) ev0).1
def recF (S:Sp) (l:List Ev) (i:Nat):Int :=
 if (l.getD i ev0).1<tickB l i∨100000000<(l.getD i ev0).1 then 7 else if evE S (l.getD i ev0)=0 then (if (l.getD i ev0).2.1≠5∧onV (l.take i) (thing (l.getD i ev0))=(l.getD i ev0).2.2.2.2 then 8 else 0) else evE S (l.getD i ev0)
def recE (S:Sp) (l:List Ev):Int × Int :=
 if (checkP S).2=0 then (if 20000<l.length then (0,3) else match fst0 (recF S l) l.length with
  | some i=>((i:Int),recF S l i)
  | none=>(0,0)) else (0,(checkP S).2)
def upN (l:List Ev) (t:Int):Nat:=(l.takeWhile fun x=>decide (x.1≤t)).length
theorem upN_is {l:List Ev} {t:Int} {n:Nat} (hn:n≤l.length) (h1:∀ j (hj:j<l.length),j<n→l[j].1≤t) (h2:∀ hn':n<l.length,¬ l[n].1≤t):upN l t=n:=by
 unfold upN
 have e:l.takeWhile (fun x=>decide (x.1≤t))=l.take n:=by
  rw [← List.take_append_drop n l,List.takeWhile_append_of_pos]
  ·have:(l.drop n).takeWhile (fun x=>decide (x.1≤t))=[]:=by
    by_cases hl:n<l.length
    ·rw [List.drop_eq_getElem_cons hl,List.takeWhile_cons_of_neg (by simpa using h2 hl)]
    ·rw [List.drop_of_length_le (by omega)];rfl
   rw [this,List.append_nil,List.take_append_drop]
  ·intro x hx
   obtain ⟨j,hj,rfl⟩:=List.getElem_of_mem hx
   rw [List.length_take] at hj
   rw [List.getElem_take]
   exact decide_eq_true (h1 j (by omega) (by omega))
 rw [e,List.length_take]
 omega
theorem dv_small {S:Sp} (h:(checkP S).2=0) {d:Dv} (hd:d∈S.ds):0≤d.lo∧d.hi≤127:=by
 unfold checkP at h
 split at h
 ·cases h
 ·cases e:fst0 (errD S) S.ds.length with
  | some i =>
   rw [e] at h
   simp only at h
   exact absurd h (fst0_is e).2.1
  | none =>
   obtain ⟨k,hk,rfl⟩:=List.getElem_of_mem hd
   have h1:=fst0_none.1 e k hk
   unfold errD at h1
   rw [List.getElem?_eq_getElem hk] at h1
   simp only at h1
   unfold nmE at h1
   split at h1
   ·cases h1
   ·split at h1
    ·cases h1
    ·unfold dvE at h1
     split at h1
     ·omega
     ·cases h1
variable (sl : Nat → List (Nat × Nat)) (m w : Nat)
end Go.Proofs.YthhfmppealmblaaGreatDoor
namespace Go.Proofs.YthhfmppealmblaaGreatDoor
theorem tickB_next {l:List Ev} {i:Nat} (h:i<l.length):tickB l (i+1)=l[i].1:=by
 unfold tickB
 rw [if_neg (by omega),show i+1-1=i by omega,getD_at h]
theorem recE_long {S:Sp} {l:List Ev} (h:(checkP S).2=0) (hl:20000<l.length):recE S l=(0,3):=by unfold recE;rw [if_pos h,if_pos hl]
theorem recE_at {S:Sp} {l:List Ev} (h:(checkP S).2=0) (hl:¬ 20000<l.length) {i:Nat} (hi:i<l.length) (hp:∀ j,j<i→recF S l j=0) {e:Int} (he:recF S l i=e) (h0:e≠0):recE S l=((i:Int),e):=by
 unfold recE
 rw [if_pos h,if_neg hl,fst0_some hi (by rw [he];exact h0) hp]
 simp only [he]
theorem recE_good {S:Sp} {l:List Ev} (h:(checkP S).2=0) (hl:¬ 20000<l.length) (hp:∀ j,j<l.length→recF S l j=0):recE S l=(0,0):=by
 unfold recE
 rw [if_pos h,if_neg hl,fst0_none.2 hp]
structure RecOk (S:Sp) (l:List Ev):Prop where
 sp:(checkP S).2=0
 len:l.length≤20000
 at':∀ i (hi:i<l.length),¬ (l[i].1<tickB l i∨100000000<l[i].1)∧evE S l[i]=0
theorem recE_ok {S:Sp} {l:List Ev} (h:(recE S l).2=0):RecOk S l:=by
 unfold recE at h
 by_cases e0:(checkP S).2=0
 ·rw [if_pos e0] at h
  by_cases e1:20000<l.length
  ·rw [if_pos e1] at h;cases h
  ·rw [if_neg e1] at h
   cases hf:fst0 (recF S l) l.length with
   | some i =>
    rw [hf] at h
    exact absurd h (fst0_is hf).2.1
   | none =>
    have hn:=fst0_none.1 hf
    refine ⟨e0,by omega,fun i hi=>?_⟩
    have:=hn i hi
    unfold recF at this
    rw [getD_at hi] at this
    by_cases a:l[i].1<tickB l i∨100000000<l[i].1
    ·rw [if_pos a] at this;cases this
    ·rw [if_neg a] at this
     by_cases b:evE S l[i]=0
     ·exact ⟨a,b⟩
     ·rw [if_neg b] at this
      exact absurd this b
 ·rw [if_neg e0] at h
  exact absurd h e0
theorem RecOk.tick {S:Sp} {l:List Ev} (h:RecOk S l):∀ i (hi:i<l.length),0≤l[i].1∧l[i].1≤100000000∧tickB l i≤l[i].1
 | 0,hi=>by
  have:=(h.at' 0 hi).1
  have e:tickB l 0=0:=rfl
  rw [e] at this ⊢
  omega
 | i+1,hi=>by
  have:=(h.at' (i+1) hi).1
  have ih:=h.tick i (by omega)
  have e:=tickB_next (l:=l) (i:=i) (by omega)
  rw [e] at this ⊢
  omega
end Go.Proofs.YthhfmppealmblaaGreatDoor
namespace Go.Proofs.YthhfmppealmblaaGreatDoor
open Go.RowKit
theorem Blk.ne {W:World} {B B':Nat} {t t':TypeId} {cs cs':Array Value} (h:Blk W B t cs) (h':Blk W B' t' cs') (ht:t≠t'):B≠B':=by
 intro e
 subst e
 have e1:W.heap[B]?=some (.cells cs t (0,0)):=h
 have e2:W.heap[B]?=some (.cells cs' t' (0,0)):=h'
 rw [e1] at e2
 injection e2 with e3
 injection e3 with _ e4
 exact ht e4
theorem Blk.grown {W W':World} {B:Nat} {t:TypeId} {cs:Array Value} {row:Option Nat} (h:Blk W B t cs) (hg:W.grownBy W' row) (hne:row≠some B):Blk W' B t cs:=(hg.block B h.lt (fun e=>hne e.symm)).trans h
theorem set_grown (w:World) (b i:Nat) (v:Value):w.grownBy (w.setCell ⟨b,i,none⟩ v) (some b) :=
 ⟨rfl,rfl,rfl,by simp [World.setCell],fun k _ hne=>(Below.heap_setCell w ⟨b,i,none⟩ v k (fun e=>hne (by rw [e])))⟩
theorem below_two (w:World) (a b:Obj):Below w.heap.size w ((w.alloc a).alloc b):=((Below.refl _ _).alloc (Nat.le_refl _) _).alloc (by simp) _
def NumR (n:Int) (w:World) (e:Ending) (w':World):Prop:=e = .returned (.int .i64 n)∧Below w.heap.size w w'
theorem numR {n m:Int} (h:n=m) {w w':World} (hb:Below w.heap.size w w'):NumR n w (.returned (.int .i64 m)) w':=⟨by rw [h],hb⟩
theorem below_drew {n:Nat} {a w:World} (h:Below n a w):Below n a w.drew:=⟨h.os,h.tape,h.output,h.size,h.block⟩
theorem blk_put {t:TypeId} {g:Nat}:∀ (vs:List Value) (o:Nat) (W:World) (cur:Array Value),Blk W g t cur→o+vs.length≤cur.size→Blk (W.setCells g o vs) g t (cur.toList.take o++vs++cur.toList.drop (o+vs.length)).toArray
 | [],o,W,cur,h,hl=>by
  have e:(cur.toList.take o++[]++cur.toList.drop (o+([]:List Value).length)).toArray=cur:=by simp
  rw [e]
  exact h
 | v :: r,o,W,cur,h,hl=>by
  rw [List.length_cons] at hl
  have h1:=blk_put r (o+1) _ _ (h.set o v) (by simpa using by omega)
  have hlt:o<cur.toList.length:=by rw [Array.length_toList];omega
  have e:((cur.setIfInBounds o v).toList.take (o+1)++r++(cur.setIfInBounds o v).toList.drop (o+1+r.length)).toArray=(cur.toList.take o++v :: r++cur.toList.drop (o+(v :: r).length)).toArray:=by
   rw [Array.toList_setIfInBounds,List.drop_set_of_lt (by omega),List.take_succ_eq_append_getElem (by simpa using hlt),List.take_set_of_le (Nat.le_refl _),List.getElem_set_self,List.length_cons]
   simp [Nat.add_assoc,Nat.add_comm 1]
  rw [e] at h1
  exact h1
theorem grown_cells (g:Nat):∀ (vs:List Value) (o:Nat) (W:World),W.grownBy (W.setCells g o vs) (some g)
 | [],_,W=>World.grownBy.refl W _
 | v :: r,o,W=>by
  have h:W.grownBy (W.setCell ⟨g,o,none⟩ v) (some g) :=
   ⟨rfl,rfl,rfl,by simp [World.setCell],fun k _ hne=>(Below.heap_setCell W ⟨g,o,none⟩ v k (fun e=>hne (by rw [e])))⟩
  exact h.trans (grown_cells g r (o+1) _)
def evC (x:Ev):List Value:=[.int .i64 x.1,.int .i64 x.2.1,.int .i64 x.2.2.1,.int .i64 x.2.2.2.1,.int .i64 x.2.2.2.2]
theorem ARd.evAt {w:World} {v:Value} {l:List Ev} (h:ARd w v 5 (l.map evC)) (i:Nat) (hi:i<l.length):∃ b o c,v = .slice (some ⟨b,o,none⟩) l.length c∧b<w.heap.size∧w.cell? ⟨b,o+i * 5,none⟩=some (.int .i64 l[i].1)∧w.cell? ⟨b,o+i * 5+1,none⟩=some (.int .i64 l[i].2.1)∧w.cell? ⟨b,o+i * 5+2,none⟩=some (.int .i64 l[i].2.2.1)∧w.cell? ⟨b,o+i * 5+3,none⟩=some (.int .i64 l[i].2.2.2.1)∧w.cell? ⟨b,o+i * 5+4,none⟩=some (.int .i64 l[i].2.2.2.2):=by
 obtain ⟨b,o,c,e,hlt,hc⟩:=h.at i (by simpa using hi)
 rw [List.getElem_map] at hc
 rw [List.length_map] at e
 exact ⟨b,o,c,e,hlt,hc 0 _ rfl,hc 1 _ rfl,hc 2 _ rfl,hc 3 _ rfl,hc 4 _ rfl⟩
theorem ARd.evForm {w:World} {v:Value} {l:List Ev} (h:ARd w v 5 (l.map evC)):∃ a c,v = .slice a l.length c:=by
 obtain ⟨a,c,e⟩:=h.form
 exact ⟨a,c,by simpa using e⟩
theorem ev_info:(Tryz.prog.info? 42).map (fun i=>(i.zero,i.size,i.bytes))=some (some (.agg #[.int .i64 0,.int .i64 0,.int .i64 0,.int .i64 0,.int .i64 0]),5,40):=by kernel_rfl
end Go.Proofs.YthhfmppealmblaaGreatDoor
namespace Go.Proofs.YthhfmppealmblaaGreatDoor
abbrev Pl:=Int × Int
def keyOk (S:Sp) (p:Pl):Bool:=decide (0≤p.1) && keyIn S p.1 p.2 && decide (p.1<S.ds.length)
def playedL (f:Th→Int) (d:Int):List Int:=((List.range 128).map fun (k:Nat)=>(k:Int)).filter fun k=>decide (f (1,d,k)=1)
theorem mem_playedL {f:Th→Int} {d k:Int}:k∈playedL f d ↔ 0≤k∧k<128∧f (1,d,k)=1:=by
 unfold playedL
 rw [List.mem_filter,List.mem_map,decide_eq_true_iff]
 constructor
 ·rintro ⟨⟨a,ha,rfl⟩,h⟩
  have:=List.mem_range.1 ha
  exact ⟨by omega,by omega,h⟩
 ·rintro ⟨h1,h2,h3⟩
  exact ⟨⟨k.toNat,List.mem_range.2 (by omega),by omega⟩,h3⟩
def takes (only:Int) (l:List Int):List Int:=if only=1 then l.take 1 else if only=2 then l.drop (l.length-1) else l
inductive Acts (S:Sp) (f:Th→Int):Pl→Prop
 | key (d k:Int) (hd:0≤d∧d<S.ds.length) (h:k∈playedL f d):Acts S f (d,k)
 | cou (i:Nat) (hi:i<S.cs.length) (hon:f (3,0,(i:Int))=1) (k:Int) (hk:k∈takes S.cs[i].only (playedL f S.cs[i].frm)) (ok:keyOk S (S.cs[i].to,k+S.cs[i].shift)=true):Acts S f (S.cs[i].to,k+S.cs[i].shift)
 | thr (i:Nat) (hi:i<S.cs.length) (hon:f (3,0,(i:Int))=1) (ht:S.cs[i].thr=true) (k:Int) (hk:Acts S f (S.cs[i].frm,k)) (ok:keyOk S (S.cs[i].to,k+S.cs[i].shift)=true):Acts S f (S.cs[i].to,k+S.cs[i].shift)
theorem act_in {S:Sp} {f:Th→Int} {Q:Pl→Prop} (h1:∀ d k,0≤d∧d<(S.ds.length:Int)→k∈playedL f d→Q (d,k))
  (h2:∀ i (hi:i<S.cs.length),f (3,0,(i:Int))=1→∀ k∈takes S.cs[i].only (playedL f S.cs[i].frm),keyOk S (S.cs[i].to,k+S.cs[i].shift)=true→Q (S.cs[i].to,k+S.cs[i].shift))
  (h3:∀ i (hi:i<S.cs.length),f (3,0,(i:Int))=1→S.cs[i].thr=true→∀ k,Q (S.cs[i].frm,k)→keyOk S (S.cs[i].to,k+S.cs[i].shift)=true→Q (S.cs[i].to,k+S.cs[i].shift)):∀ p,Acts S f p→Q p:=by
 intro p h
 induction h with
 | key d k hd h=>exact h1 d k hd h
 | cou i hi hon k hk ok=>exact h2 i hi hon k hk ok
 | thr i hi hon ht k _ ok ih=>exact h3 i hi hon ht k ih ok
def Snd (S:Sp) (f:Th→Int) (p:Pp):Prop:=∃ i,∃ hi:i<S.ss.length,f (2,0,(i:Int))=1∧∃ key,Acts S f (S.ss[i].div,key)∧keyOk S (S.ss[i].div,key)=true∧playsB S.ss[i] key p=true
end Go.Proofs.YthhfmppealmblaaGreatDoor
namespace Go.Proofs.YthhfmppealmblaaGreatDoor
open Go.RowKit
section
variable {κ : Type} [DecidableEq κ]
def findAt (x:κ):List κ→List MapEntry→Nat→Option (Nat × Value)
 | k :: l,e :: es,i=>if x=k then some (i,e.val) else findAt x l es (i+1)
 | _,_,_=>none
structure MapK (P:Program) (kt:TypeId) (ek:κ→Value):Prop where
 find:∀ (x:κ) (es:List MapEntry) (l:List κ) (w:World),es.map (·.key)=l.map ek→(Instr.findKey kt (ek x) es).run P w = .ok (findAt x l es 0) w
 chk:∀ (b:Bool) (x:κ) (w:World),(Instr.checkKey b 10000 kt (ek x)).run P w = .ok () w
 bits:∀ x,Instr.sameBits 10000 (ek x) (ek x)=true
def mget (x:κ):List (κ × Value)→Option Value
 | []=>none
 | (k,v) :: l=>if x=k then some v else mget x l
def mput (x:κ) (v:Value):List (κ × Value)→List (κ × Value)
 | []=>[(x,v)]
 | (k,u) :: l=>if x=k then (x,v) :: l else (k,u) :: mput x v l
theorem mget_put (x y:κ) (v:Value):∀ l:List (κ × Value),mget y (mput x v l)=if y=x then some v else mget y l
 | []=>by simp only [mput,mget]
 | (k,u) :: l=>by
  rw [mput]
  by_cases h:x=k
  ·rw [if_pos h,mget,mget,h]
   by_cases e:y=k <;> simp [e]
  ·rw [if_neg h,mget,mget,mget_put x y v l]
   by_cases e:y=k
   ·subst e
    rw [if_pos rfl,if_neg (fun e=>h e.symm),if_pos rfl]
   ·rw [if_neg e,if_neg e]
theorem mput_none {x:κ} (v:Value):∀ {l:List (κ × Value)},mget x l=none→mput x v l=l++[(x,v)]
 | [],_=>rfl
 | (k,u) :: l,h=>by
  rw [mget] at h
  by_cases e:x=k
  ·rw [if_pos e] at h;cases h
  ·rw [if_neg e] at h
   rw [mput,if_neg e,mput_none v h];rfl
theorem mget_mem {x:κ} {v:Value}:∀ {l:List (κ × Value)},mget x l=some v→(x,v)∈l
 | [],h=>by cases h
 | (k,u) :: l,h=>by
  rw [mget] at h
  by_cases e:x=k
  ·rw [if_pos e] at h;cases h;rw [e];simp
  ·rw [if_neg e] at h
   exact List.mem_cons_of_mem _ (mget_mem h)
theorem mget_no {x:κ}:∀ {l:List (κ × Value)},mget x l=none ↔ x ∉ l.map (·.1)
 | []=>by simp [mget]
 | (k,u) :: l=>by
  rw [mget]
  by_cases e:x=k
  ·simp [e]
  ·rw [if_neg e,mget_no,List.map_cons,List.mem_cons,not_or]
   exact ⟨fun h=>⟨e,h⟩,fun h=>h.2⟩
theorem mget_of_mem {x:κ} {v:Value}:∀ {l:List (κ × Value)},(l.map (·.1)).Nodup→(x,v)∈l→mget x l=some v
 | [],_,h=>by cases h
 | (k,u) :: l,hn,h=>by
  rw [List.map_cons,List.nodup_cons] at hn
  rw [mget]
  rcases List.mem_cons.1 h with e | h
  ·cases e;rw [if_pos rfl]
  ·rw [if_neg (fun (e:x=k)=>hn.1 (by rw [← e];exact List.mem_map.2 ⟨_,h,rfl⟩)),mget_of_mem hn.2 h]
theorem mput_keys {x:κ} {v:Value}:∀ {l:List (κ × Value)},mget x l≠none→(mput x v l).map (·.1)=l.map (·.1)
 | [],h=>absurd rfl h
 | (k,u) :: l,h=>by
  rw [mput]
  rw [mget] at h
  by_cases e:x=k
  ·rw [if_pos e];simp [e]
  ·rw [if_neg e] at h
   rw [if_neg e,List.map_cons,mput_keys h,List.map_cons]
theorem mput_nodup {x:κ} {v:Value} {l:List (κ × Value)} (h:(l.map (·.1)).Nodup):((mput x v l).map (·.1)).Nodup:=by
 cases hg:mget x l with
 | none =>
  rw [mput_none v hg,List.map_append,List.nodup_append]
  refine ⟨h,by simp,fun a ha b hb=>?_⟩
  simp only [List.map_cons,List.map_nil,List.mem_singleton] at hb
  subst hb
  exact fun e=>mget_no.1 hg (e ▸ ha)
 | some u=>rw [mput_keys (by rw [hg];simp)];exact h
theorem findAt_is {ek:κ→Value} (x:κ):∀ (l:List (κ × Value)) (es:List MapEntry) (i:Nat),es.map (fun e=>(e.key,e.val))=l.map (fun p=>(ek p.1,p.2)) →
  (mget x l=none∧findAt x (l.map (·.1)) es i=none) ∨
  ∃ j v0 e,mget x l=some v0∧findAt x (l.map (·.1)) es i=some (i+j,v0)∧es[j]?=some e∧e.key=ek x ∧
   ∀ (f:MapEntry→MapEntry) v,(∀ e:MapEntry,e.key=ek x→(f e).key=ek x∧(f e).val=v)→(es.modify j f).map (fun e=>(e.key,e.val))=(mput x v l).map (fun p=>(ek p.1,p.2))
 | [],[],i,_ => .inl ⟨rfl,rfl⟩
 | [],e :: es,i,h=>by simp at h
 | p :: l,[],i,h=>by simp at h
 | (k,u) :: l,e :: es,i,h=>by
  rw [List.map_cons,List.map_cons,List.cons.injEq,Prod.mk.injEq] at h
  obtain ⟨⟨h1,h2⟩,h3⟩:=h
  by_cases hx:x=k
  ·subst hx
   refine .inr ⟨0,u,e,by rw [mget,if_pos rfl],?_,rfl,h1,fun f v hf=>?_⟩
   ·rw [List.map_cons,findAt,if_pos rfl,h2];rfl
   ·rw [mput,if_pos rfl]
    show ((f e) :: es).map _=_
    rw [List.map_cons,List.map_cons,(hf e h1).1,(hf e h1).2,h3]
  ·rcases findAt_is x l es (i+1) h3 with ⟨g1,g2⟩ | ⟨j,v0,e0,g1,g2,g3,g4,g5⟩
   ·exact .inl ⟨by rw [mget,if_neg hx,g1],by rw [List.map_cons,findAt,if_neg hx,g2]⟩
   ·refine .inr ⟨j+1,v0,e0,by rw [mget,if_neg hx,g1],?_,g3,g4,fun f v hf=>?_⟩
    ·rw [List.map_cons,findAt,if_neg hx,g2]
     congr 2
     omega
    ·rw [mput,if_neg hx]
     show (e :: es.modify j f).map _=_
     rw [List.map_cons,List.map_cons,g5 f v hf,h1,h2]
end
section
variable {κ : Type} {ek : κ → Value} {W W' : World} {b : Nat} {l : List (κ × Value)}
def Mp (ek:κ→Value) (W:World) (b:Nat) (l:List (κ × Value)):Prop:=∃ es clock,W.heap[b]?=some (.map es clock)∧es.toList.map (fun e=>(e.key,e.val))=l.map (fun p=>(ek p.1,p.2))∧(l.map (·.1)).Nodup∧(es.toList.map (·.born)).Nodup∧∀ e∈es.toList,e.born<clock
theorem Mp.lt (h:Mp ek W b l):b<W.heap.size:=by
 obtain ⟨es,clock,hb,_⟩:=h
 exact (Array.getElem?_eq_some_iff.1 hb).1
theorem Mp.nodup (h:Mp ek W b l):(l.map (·.1)).Nodup:=by obtain ⟨_,_,_,_,h,_⟩:=h;exact h
theorem Mp.made (W:World):Mp ek (W.alloc (.map #[] 0)) W.heap.size []:=⟨#[],0,heap_alloc_new _ _,rfl,List.nodup_nil,List.nodup_nil,fun e h=>by simp at h⟩
theorem Mp.kept {row:Option Nat} (h:Mp ek W b l) (hg:W.grownBy W' row) (hne:some b≠row):Mp ek W' b l:=by
 have hlt:=h.lt
 obtain ⟨es,clock,hb,h2⟩:=h
 exact ⟨es,clock,(hg.block b hlt hne).trans hb,h2⟩
theorem Mp.below (h:Mp ek W b l) (hb:Below W.heap.size W W'):Mp ek W' b l :=
 h.kept (row:=none) ⟨hb.os,hb.tape,hb.output,hb.size,fun i hi _=>hb.block i hi⟩ (by simp)
end
section
variable {κ : Type} [DecidableEq κ] {P : Program} {kt : TypeId} {ek : κ → Value} {W : World} {b : Nat} {l : List (κ × Value)}
theorem Mp.lookup (K:MapK P kt ek) (h:Mp ek W b l) {t vt:TypeId} {z:Value} (ht:P.underlying t=some (.map kt vt)) (hz:(zeroValue vt).run P W = .ok z W) (x:κ) :
  (Instr.lookup t (.map (some b)) (ek x) false).run P W = .ok ((mget x l).getD z) W∧(Instr.lookup t (.map (some b)) (ek x) true).run P W = .ok (.tuple #[(mget x l).getD z,.bool (mget x l).isSome]) W:=by
 obtain ⟨es,clock,hb,hm,_⟩:=h
 have hk:es.toList.map (·.key)=(l.map (·.1)).map ek:=by
  have:=congrArg (List.map Prod.fst) hm
  simpa [List.map_map,Function.comp_def] using this
 have hf:=K.find x es.toList (l.map (·.1)) W hk
 rcases findAt_is x l es.toList 0 hm with ⟨g1,g2⟩ | ⟨j,v0,e0,g1,g2,_⟩
 ·rw [g2] at hf
  constructor <;> simp [Instr.lookup,run_underlying ht,MapKept.run_getObj_map hb,K.chk,hf,hz,g1,Result.andThen]
 ·rw [g2] at hf
  constructor <;> simp [Instr.lookup,run_underlying ht,MapKept.run_getObj_map hb,K.chk,hf,g1,Result.andThen]
theorem Mp.update (K:MapK P kt ek) (h:Mp ek W b l) {t vt:TypeId} (ht:P.underlying t=some (.map kt vt)) (x:κ) (v:Value) :
  ∃ W',(Instr.mapUpdate t (.map (some b)) (ek x) v).run P W = .ok () W'∧Mp ek W' b (mput x v l)∧W.grownBy W' (some b)∧W'.heap.size=W.heap.size:=by
 have hlt:=h.lt
 have hnd:=mput_nodup (x:=x) (v:=v) h.nodup
 obtain ⟨es,clock,hb,hm,hn,hbn,hbc⟩:=h
 have hk:es.toList.map (·.key)=(l.map (·.1)).map ek:=by
  have:=congrArg (List.map Prod.fst) hm
  simpa [List.map_map,Function.comp_def] using this
 have hf:=K.find x es.toList (l.map (·.1)) W hk
 have hgr:∀ o:Obj,W.grownBy { W with heap:=W.heap.setIfInBounds b o } (some b):=fun o=>⟨rfl,rfl,rfl,by simp,fun k _ hne=>by
  show (W.heap.setIfInBounds b o)[k]?=_
  rw [Array.getElem?_setIfInBounds,if_neg (fun e=>hne (by rw [e]))]⟩
 have hat:∀ o:Obj,({ W with heap:=W.heap.setIfInBounds b o }:World).heap[b]?=some o:=fun o=>by
  show (W.heap.setIfInBounds b o)[b]?=_
  rw [Array.getElem?_setIfInBounds,if_pos rfl,if_pos hlt]
 rcases findAt_is x l es.toList 0 hm with ⟨g1,g2⟩ | ⟨j,v0,e0,g1,g2,g3,g4,g5⟩
 ·rw [g2] at hf
  refine ⟨{ W with heap:=W.heap.setIfInBounds b (.map (es.push ⟨ek x,v,clock⟩) (clock+1)) },?_,⟨_,_,hat _,?_,hnd,?_,?_⟩,hgr _,by simp⟩
  ·simp [Instr.mapUpdate,run_underlying ht,MapKept.run_getObj_map hb,K.chk,hf,MapKept.run_setObj_map _ hb,Result.andThen]
  ·rw [mput_none v g1,Array.toList_push,List.map_append,List.map_append,hm];rfl
  ·rw [Array.toList_push,List.map_append,List.nodup_append]
   refine ⟨hbn,by simp,fun a ha c hc=>?_⟩
   simp only [List.map_cons,List.map_nil,List.mem_singleton] at hc
   subst hc
   obtain ⟨e,he,rfl⟩:=List.mem_map.1 ha
   exact Nat.ne_of_lt (hbc e he)
  ·intro e he
   rw [Array.toList_push,List.mem_append,List.mem_singleton] at he
   rcases he with he | rfl
   ·have:=hbc e he;omega
   ·exact Nat.lt_succ_self _
 ·rw [g2,Nat.zero_add] at hf
  have hej:es[j]?=some e0:=by rw [← Array.getElem?_toList];exact g3
  refine ⟨{ W with heap:=W.heap.setIfInBounds b (.map (es.modify j fun e=>{ e with key:=ek x,val:=v }) clock) },?_,⟨_,_,hat _,?_,hnd,?_,?_⟩,hgr _,by simp⟩
  ·simp [Instr.mapUpdate,run_underlying ht,MapKept.run_getObj_map hb,K.chk,hf,MapKept.run_setObj_map _ hb,Result.andThen,hej,Instr.keyThatStays,g4,K.bits]
  ·rw [Array.toList_modify]
   exact g5 (fun e=>{ e with key:=ek x,val:=v }) v (fun e _=>⟨rfl,rfl⟩)
  ·rw [Array.toList_modify]
   have:(es.toList.modify j fun e=>{ e with key:=ek x,val:=v }).map (·.born)=es.toList.map (·.born):=by
    apply List.ext_getElem?
    intro q
    simp only [List.getElem?_map,List.getElem?_modify]
    cases es.toList[q]? with
    | none=>rfl
    | some e=>by_cases e':j=q <;> simp [e']
   rw [this]
   exact hbn
  ·intro e he
   rw [Array.toList_modify] at he
   obtain ⟨q,hq⟩:=List.mem_iff_getElem?.1 he
   rw [List.getElem?_modify] at hq
   cases hq2:es.toList[q]? with
   | none=>rw [hq2] at hq;cases hq
   | some e1 =>
    rw [hq2] at hq
    have h1:=hbc e1 (List.mem_iff_getElem?.2 ⟨q,hq2⟩)
    by_cases e':j=q
    ·simp [e'] at hq;rw [← hq];exact h1
    ·simp [e'] at hq;rw [← hq];exact h1
end
section
variable {κ : Type}
def Rg (ek:κ→Value) (W:World) (b r:Nat) (l left:List (κ × Value)):Prop:=∃ es clock since seen c0,W.heap[b]?=some (.map es clock)∧es.toList.map (fun e=>(e.key,e.val))=l.map (fun p=>(ek p.1,p.2)) ∧
 (l.map (·.1)).Nodup∧(es.toList.map (·.born)).Nodup∧(∀ e∈es.toList,e.born<clock)∧W.heap[r]?=some (.mapIter (some b) since seen c0)∧(∀ x∈es.toList,x.born<since)∧since≤c0∧since≤clock ∧
 (leftOf es seen).toList.map (fun e=>(e.key,e.val))=left.map (fun p=>(ek p.1,p.2))∧(left.map (·.1)).Nodup∧(∀ p∈left,p∈l)
theorem leftOf_push (es:Array MapEntry) (seen:Array Nat) (n:Nat):(leftOf es (seen.push n)).toList=(leftOf es seen).toList.filter fun y=>!(y.born==n):=by
 unfold leftOf
 rw [Array.toList_filter,Array.toList_filter,List.filter_filter]
 congr 1
 funext y
 simp only [Array.contains_push,Bool.not_or]
 rw [Bool.and_comm]
variable {P : Program} {kt : TypeId} {ek : κ → Value} {W W' : World} {b r : Nat} {l left : List (κ × Value)}
theorem Rg.mp (h:Rg ek W b r l left):Mp ek W b l:=by
 obtain ⟨es,clock,_,_,_,hb,hm,hn,hbn,hbc,_⟩:=h
 exact ⟨es,clock,hb,hm,hn,hbn,hbc⟩
theorem Rg.ltr (h:Rg ek W b r l left):r<W.heap.size:=by
 obtain ⟨es,clock,_,_,_,_,_,_,_,_,hr,_⟩:=h
 exact (Array.getElem?_eq_some_iff.1 hr).1
theorem Rg.nodup (h:Rg ek W b r l left):(left.map (·.1)).Nodup:=by obtain ⟨_,_,_,_,_,_,_,_,_,_,_,_,_,_,_,h,_⟩:=h;exact h
theorem Rg.sub (h:Rg ek W b r l left):∀ p∈left,p∈l:=by obtain ⟨_,_,_,_,_,_,_,_,_,_,_,_,_,_,_,_,h⟩:=h;exact h
theorem Rg.kept {row:Option Nat} (h:Rg ek W b r l left) (hg:W.grownBy W' row) (hne:some b≠row) (hne2:some r≠row):Rg ek W' b r l left:=by
 have hlt:=h.mp.lt
 have hltr:=h.ltr
 obtain ⟨es,clock,since,seen,c0,hb,h2,h3,h4,h5,hr,h6⟩:=h
 exact ⟨es,clock,since,seen,c0,(hg.block b hlt hne).trans hb,h2,h3,h4,h5,(hg.block r hltr hne2).trans hr,h6⟩
theorem Rg.below (h:Rg ek W b r l left) (hb:Below W.heap.size W W'):Rg ek W' b r l left :=
 h.kept (row:=none) ⟨hb.os,hb.tape,hb.output,hb.size,fun i hi _=>hb.block i hi⟩ (by simp) (by simp)
theorem Rg.left_eq (h:Rg ek W b r l left):W.rangeLeft b r=left.length:=by
 obtain ⟨es,clock,since,seen,c0,hb,_,_,_,_,hr,_,_,_,hl,_⟩:=h
 simp only [World.rangeLeft,hb,hr]
 have:=congrArg List.length hl
 simpa using this
theorem Mp.range (h:Mp ek W b l) {t vt:TypeId} (ht:P.underlying t=some (.map kt vt)) :
  ∃ W',(Instr.range t (.map (some b))).run P W = .ok (.pointer (some ⟨W.heap.size,0,none⟩)) W'∧Rg ek W' b W.heap.size l l∧W.grownBy W' none∧W'.heap.size=W.heap.size+1:=by
 have hlt:=h.lt
 obtain ⟨es,clock,hb,hm,hn,hbn,hbc⟩:=h
 exact ⟨_,run_range_map W t kt vt b es clock ht hb,⟨es,clock,clock,#[],clock,((MapKept.heap_alloc W _).2 b hlt).trans hb,hm,hn,hbn,hbc,(MapKept.heap_alloc W _).1,hbc,Nat.le_refl _,Nat.le_refl _,by rw [show leftOf es #[]=es by unfold leftOf;rw [Array.filter_eq_self];simp];exact hm,hn,fun _ hp=>hp⟩,World.grownBy_alloc W _ none,by simp⟩
theorem setBlock_heap (w:World) (r:Nat) (o:Obj) (h:r<w.heap.size):(ChangeMaps.setBlock w r o).heap[r]?=some o:=by
 simp [ChangeMaps.setBlock,h]
theorem setBlock_other (w:World) (r k:Nat) (o:Obj) (h:k≠r):(ChangeMaps.setBlock w r o).heap[k]?=w.heap[k]?:=by
 simp [ChangeMaps.setBlock,Ne.symm h]
end
section
variable {κ : Type} [DecidableEq κ]
theorem strike {ek:κ→Value}:∀ (A:List MapEntry) (B:List (κ × Value)),A.map (fun e=>(e.key,e.val))=B.map (fun p=>(ek p.1,p.2))→(A.map (·.born)).Nodup→(B.map (·.1)).Nodup→∀ e∈A,
  ∃ x v,(x,v)∈B∧e.key=ek x∧e.val=v∧(A.filter fun y=>!(y.born==e.born)).map (fun e=>(e.key,e.val))=(B.filter fun p=>!decide (p.1=x)).map (fun p=>(ek p.1,p.2))
 | [],_,_,_,_,e,he=>by cases he
 | a :: A,[],h,_,_,_,_=>by simp at h
 | a :: A,(k,u) :: B,h,hn,hm,e,he=>by
  rw [List.map_cons,List.map_cons,List.cons.injEq,Prod.mk.injEq] at h
  obtain ⟨⟨h1,h2⟩,h3⟩:=h
  rw [List.map_cons,List.nodup_cons] at hn hm
  by_cases hae:e=a
  ·subst hae
   refine ⟨k,u,by simp,h1,h2,?_⟩
   have f1:A.filter (fun y=>!(y.born==e.born))=A:=by
    rw [List.filter_eq_self]
    intro y hy
    have:y.born≠e.born:=fun q=>hn.1 (by rw [← q];exact List.mem_map.2 ⟨y,hy,rfl⟩)
    simpa using this
   have f2:B.filter (fun p=>!decide (p.1=k))=B:=by
    rw [List.filter_eq_self]
    intro p hp
    have:p.1≠k:=fun q=>hm.1 (by rw [← q];exact List.mem_map.2 ⟨p,hp,rfl⟩)
    simpa using this
   rw [List.filter_cons_of_neg (by simp),List.filter_cons_of_neg (by simp),f1,f2,h3]
  ·have heA:e∈A:=by
    rcases List.mem_cons.1 he with q | q
    ·exact absurd q hae
    ·exact q
   obtain ⟨x,v,hxv,g1,g2,g3⟩:=strike A B h3 hn.2 hm.2 e heA
   refine ⟨x,v,by simp [hxv],g1,g2,?_⟩
   have q1:a.born≠e.born:=fun q=>hn.1 (by rw [q];exact List.mem_map.2 ⟨e,heA,rfl⟩)
   have q2:k≠x:=fun q=>hm.1 (by rw [q];exact List.mem_map.2 ⟨_,hxv,rfl⟩)
   rw [List.filter_cons_of_pos (by simpa using q1),List.filter_cons_of_pos (by simpa using q2),List.map_cons,List.map_cons,g3,h1,h2]
variable {P : Program} {kt : TypeId} {ek : κ → Value} {W W' : World} {b r : Nat} {l left : List (κ × Value)}
theorem Rg.next (h:Rg ek W b r l left) (ty:TypeId) :
  (left=[]∧(Instr.next (.pointer (some ⟨r,0,none⟩)) false ty).run P W = .ok (.tuple #[.bool false]) W) ∨
  ∃ x v W',(x,v)∈left∧(Instr.next (.pointer (some ⟨r,0,none⟩)) false ty).run P W = .ok (.tuple #[.bool true,ek x,v]) W'∧Rg ek W' b r l (left.filter fun p=>!decide (p.1=x))∧W.grownBy W' (some r)∧W'.heap.size=W.heap.size ∧
   (Instr.entry (.pointer (some ⟨r,0,none⟩))).run P W' = .ok (.tuple #[ek x,v]) W':=by
 have hltb:=h.mp.lt
 have hltr:=h.ltr
 obtain ⟨es,clock,since,seen,c0,hb,hm,hn,hbn,hbc,hr,hold,hsc,hscl,hl,hln,hsub⟩:=h
 have hne:b≠r:=fun e=>by rw [e,hr] at hb;cases hb
 rcases run_next_at (P:=P) W ty r b since c0 seen es clock hr hb hold hsc with ⟨h0,hrun⟩ | ⟨e,he,w1,hw1,hrun⟩
 ·refine .inl ⟨?_,hrun⟩
  have:=congrArg List.length hl
  simp only [List.length_map,Array.length_toList,h0] at this
  exact List.length_eq_zero_iff.1 this.symm
 ·have hsubl:(leftOf es seen).toList.Sublist es.toList:=by unfold leftOf;rw [Array.toList_filter];exact List.filter_sublist
  have hnl:((leftOf es seen).toList.map (·.born)).Nodup:=hbn.sublist (hsubl.map _)
  obtain ⟨x,v,hxv,k1,k2,k3⟩:=strike _ _ hl hnl hln e he
  rw [k1,k2] at hrun
  have hw1h:w1.heap=W.heap:=by rcases hw1 with rfl | rfl <;> rfl
  have hgr:W.grownBy (ChangeMaps.setBlock w1 r (.mapIter (some b) since (seen.push e.born) clock)) (some r):=by
   refine ⟨?_,?_,?_,?_,fun k hk hne'=>?_⟩
   ·rcases hw1 with rfl | rfl <;> rfl
   ·rcases hw1 with rfl | rfl <;> rfl
   ·rcases hw1 with rfl | rfl <;> rfl
   ·simp [ChangeMaps.setBlock,hw1h]
   ·rw [setBlock_other _ _ _ _ (fun e=>hne' (by rw [e])),hw1h]
  have hrr:(ChangeMaps.setBlock w1 r (.mapIter (some b) since (seen.push e.born) clock)).heap[r]?=some (.mapIter (some b) since (seen.push e.born) clock):=setBlock_heap _ _ _ (by rw [hw1h];exact hltr)
  have hbb:(ChangeMaps.setBlock w1 r (.mapIter (some b) since (seen.push e.born) clock)).heap[b]?=some (.map es clock):=by rw [setBlock_other _ _ _ _ hne,hw1h];exact hb
  refine .inr ⟨x,v,_,hxv,hrun,⟨es,clock,since,seen.push e.born,clock,hbb,hm,hn,hbn,hbc,hrr,hold,hscl,hscl,?_,?_,fun p hp=>hsub p (List.mem_filter.1 hp).1⟩,hgr,by simp [ChangeMaps.setBlock,hw1h],?_⟩
  ·rw [leftOf_push];exact k3
  ·exact hln.sublist (List.filter_sublist.map _)
  ·have:=run_entry_at (P:=P) _ r b since seen es clock e hrr hbb (hsubl.subset he) hbn
   rw [k1,k2] at this
   exact this
variable {ops : Array Oper} {rest : List Oper} {o : Oper} {a : Act} {Q : Exit → Act → World → Prop}
theorem wpList_lookup_mp (w:World) (hg:o.guard=none) (m x:Operand) (t:TypeId) (hop:o.op=Op.lookup t m x false) (vt:TypeId) (K:MapK P kt ek) (ht:P.underlying t=some (.map kt vt)) {z:Value} (hz:(zeroValue vt).run P w = .ok z w)
  (hm:a.eval m = .map (some b)) (hown:Mp ek w b l) (y:κ) (hx:a.eval x=ek y) (hK:wpList P ops Q rest (a.put o.dst ((mget y l).getD z)) w):wpList P ops Q (o :: rest) a w:=by
 refine wpList_plain hg fun K' hK'=>?_
 have hrun:=(hown.lookup K ht hz y).1
 unfold Oper.wp
 simp [execOp,hop,hm,hx,hrun,Result.andThen]
 exact hK' _ _ hK
theorem wpList_update_mp (w:World) (hg:o.guard=none) (m x v:Operand) (t:TypeId) (hop:o.op=Op.mapUpdate t m x v) (vt:TypeId) (K:MapK P kt ek) (ht:P.underlying t=some (.map kt vt))
  (hm:a.eval m = .map (some b)) (hown:Mp ek w b l) (y:κ) (u:Value) (hx:a.eval x=ek y) (hv:a.eval v=u) (hK:∀ w',Mp ek w' b (mput y u l)→w.grownBy w' (some b)→w'.heap.size=w.heap.size→wpList P ops Q rest (a.put o.dst undef) w'):wpList P ops Q (o :: rest) a w:=by
 refine wpList_plain hg fun K' hK'=>?_
 obtain ⟨w',hrun,r1,r2,r3⟩:=hown.update K ht y u
 unfold Oper.wp
 simp [execOp,hop,hm,hx,hv,hrun,Result.andThen]
 exact hK' _ _ (hK w' r1 r2 r3)
theorem wpList_next_mp (w:World) (hg:o.guard=none) (it:Operand) (hop:o.op=Op.next it false) (hit:a.eval it = .pointer (some ⟨r,0,none⟩)) (h:Rg ek w b r l left)
  (hDone:left=[]→wpList P ops Q rest (a.put o.dst (.tuple #[.bool false])) w)
  (hMore:∀ x v w',(x,v)∈left→Rg ek w' b r l (left.filter fun p=>!decide (p.1=x))→w.grownBy w' (some r)→w'.heap.size=w.heap.size→(Instr.entry (.pointer (some ⟨r,0,none⟩))).run P w' = .ok (.tuple #[ek x,v]) w'→wpList P ops Q rest (a.put o.dst (.tuple #[.bool true,ek x,v])) w'):wpList P ops Q (o :: rest) a w:=by
 refine wpList_plain hg fun K' hK'=>?_
 unfold Oper.wp
 rcases h.next (P:=P) o.type with ⟨h0,hrun⟩ | ⟨x,v,w',h1,hrun,h2,h3,h4,h5⟩
 ·simp [execOp,hop,hit,hrun,Result.andThen]
  exact hK' _ _ (hDone h0)
 ·simp [execOp,hop,hit,hrun,Result.andThen]
  exact hK' _ _ (hMore x v w' h1 h2 h3 h4 h5)
end
section
variable {κ : Type} {P : Program} {ek : κ → Value} {W : World} {b : Nat} {l : List (κ × Value)}
variable {ops : Array Oper} {rest : List Oper} {o : Oper} {a : Act} {Q : Exit → Act → World → Prop}
theorem wpList_range_mp (w:World) (hg:o.guard=none) (m:Operand) (t:TypeId) (hop:o.op=Op.range t m) (kt vt:TypeId) (ht:P.underlying t=some (.map kt vt)) (hm:a.eval m = .map (some b)) (hown:Mp ek w b l)
  (hK:∀ w',Rg ek w' b w.heap.size l l→w.grownBy w' none→w'.heap.size=w.heap.size+1→wpList P ops Q rest (a.put o.dst (.pointer (some ⟨w.heap.size,0,none⟩))) w'):wpList P ops Q (o :: rest) a w:=by
 refine wpList_plain hg fun K' hK'=>?_
 obtain ⟨w',hrun,r1,r2,r3⟩:=hown.range (P:=P) ht
 unfold Oper.wp
 simp [execOp,hop,hm,hrun,Result.andThen]
 exact hK' _ _ (hK w' r1 r2 r3)
theorem run_len_mp (h:Mp ek W b l) (t ty kt vt:TypeId) (ht:P.underlying t=some (.map kt vt)):(Builtin.len_ #[t] ty #[.map (some b)]).run P W = .ok (.int .i64 l.length) W:=by
 obtain ⟨es,clock,hb,hm,_⟩:=h
 have:=congrArg List.length hm
 simp only [List.length_map,Array.length_toList] at this
 simp [Builtin.len_,run_underlying ht,MapKept.run_getObj_map hb,Result.andThen,this]
 rfl
end
section
variable {κ : Type} [DecidableEq κ]
def mdel (x:κ):List (κ × Value)→List (κ × Value)
 | []=>[]
 | (k,u) :: l=>if x=k then l else (k,u) :: mdel x l
theorem mdel_sub (x:κ):∀ l:List (κ × Value),(mdel x l).Sublist l
 | []=>List.Sublist.refl _
 | (k,u) :: l=>by
  rw [mdel]
  split
  ·exact List.sublist_cons_self _ _
  ·exact (mdel_sub x l).cons_cons _
theorem findAt_del {ek:κ→Value} (x:κ):∀ (l:List (κ × Value)) (es:List MapEntry) (i:Nat),es.map (fun e=>(e.key,e.val))=l.map (fun p=>(ek p.1,p.2)) →
  (findAt x (l.map (·.1)) es i=none∧mdel x l=l) ∨
  ∃ j v0,findAt x (l.map (·.1)) es i=some (i+j,v0)∧(es.eraseIdx j).map (fun e=>(e.key,e.val))=(mdel x l).map (fun p=>(ek p.1,p.2))
 | [],[],i,_ => .inl ⟨rfl,rfl⟩
 | [],e :: es,i,h=>by simp at h
 | p :: l,[],i,h=>by simp at h
 | (k,u) :: l,e :: es,i,h=>by
  rw [List.map_cons,List.map_cons,List.cons.injEq,Prod.mk.injEq] at h
  obtain ⟨⟨h1,h2⟩,h3⟩:=h
  by_cases hx:x=k
  ·subst hx
   refine .inr ⟨0,e.val,?_,?_⟩
   ·rw [List.map_cons,findAt,if_pos rfl];rfl
   ·rw [mdel,if_pos rfl,List.eraseIdx_cons_zero,h3]
  ·rcases findAt_del x l es (i+1) h3 with ⟨g1,g2⟩ | ⟨j,v0,g1,g2⟩
   ·exact .inl ⟨by rw [List.map_cons,findAt,if_neg hx,g1],by rw [mdel,if_neg hx,g2]⟩
   ·refine .inr ⟨j+1,v0,?_,?_⟩
    ·rw [List.map_cons,findAt,if_neg hx,g1]
     congr 2
     omega
    ·rw [mdel,if_neg hx,List.eraseIdx_cons_succ,List.map_cons,List.map_cons,g2,h1,h2]
variable {P : Program} {kt : TypeId} {ek : κ → Value} {W : World} {b : Nat} {l : List (κ × Value)}
theorem Mp.delete (K:MapK P kt ek) (h:Mp ek W b l) {t vt:TypeId} (ht:P.underlying t=some (.map kt vt)) (k2 ty:TypeId) (x:κ) :
  ∃ W',(Builtin.delete_ #[t,k2] ty #[.map (some b),ek x]).run P W = .ok (.tuple #[]) W'∧Mp ek W' b (mdel x l)∧W.grownBy W' (some b)∧W'.heap.size=W.heap.size:=by
 have hlt:=h.lt
 have hnd:((mdel x l).map (·.1)).Nodup:=h.nodup.sublist ((mdel_sub x l).map _)
 obtain ⟨es,clock,hb,hm,hn,hbn,hbc⟩:=h
 have hk:es.toList.map (·.key)=(l.map (·.1)).map ek:=by
  have:=congrArg (List.map Prod.fst) hm
  simpa [List.map_map,Function.comp_def] using this
 have hf:=K.find x es.toList (l.map (·.1)) W hk
 have hgr:∀ o:Obj,W.grownBy { W with heap:=W.heap.setIfInBounds b o } (some b):=fun o=>⟨rfl,rfl,rfl,by simp,fun k _ hne=>by
  show (W.heap.setIfInBounds b o)[k]?=_
  rw [Array.getElem?_setIfInBounds,if_neg (fun e=>hne (by rw [e]))]⟩
 have hat:∀ o:Obj,({ W with heap:=W.heap.setIfInBounds b o }:World).heap[b]?=some o:=fun o=>by
  show (W.heap.setIfInBounds b o)[b]?=_
  rw [Array.getElem?_setIfInBounds,if_pos rfl,if_pos hlt]
 rcases findAt_del x l es.toList 0 hm with ⟨g1,g2⟩ | ⟨j,v0,g1,g2⟩
 ·rw [g1] at hf
  rw [g2]
  refine ⟨{ W with heap:=W.heap.setIfInBounds b (.map es clock) },?_,⟨_,_,hat _,hm,hn,hbn,hbc⟩,hgr _,by simp⟩
  simp [Builtin.delete_,run_underlying ht,MapKept.run_getObj_map hb,K.chk,hf,MapKept.run_setObj_map _ hb,Result.andThen]
 ·rw [g1,Nat.zero_add] at hf
  have he:(es.eraseIdxIfInBounds j).toList=es.toList.eraseIdx j:=Array.toList_eraseIdxIfInBounds
  have hs:(es.toList.eraseIdx j).Sublist es.toList:=List.eraseIdx_sublist _ _
  refine ⟨{ W with heap:=W.heap.setIfInBounds b (.map (es.eraseIdxIfInBounds j) clock) },?_,⟨_,_,hat _,by rw [he];exact g2,hnd,by rw [he];exact hbn.sublist (hs.map _),by rw [he];exact fun e h=>hbc e (hs.subset h)⟩,hgr _,by simp⟩
  simp [Builtin.delete_,run_underlying ht,MapKept.run_getObj_map hb,K.chk,hf,MapKept.run_setObj_map _ hb,Result.andThen]
variable {ops : Array Oper} {rest : List Oper} {o : Oper} {a : Act} {Q : Exit → Act → World → Prop}
end
section
variable {κ : Type} [DecidableEq κ] {P : Program} {kt : TypeId} {ek : κ → Value}
theorem run_asking (heq:∀ x y w,(Op.equal kt (ek x) (ek y)).run P w = .ok (decide (x=y)) w) (x:κ) (w:World):∀ (es:List MapEntry) (l:List κ) (i:Nat),es.map (·.key)=l.map ek→(Instr.findAsking kt (ek x) es i).run P w = .ok (findAt x l es i) w
 | [],[],i,_=>by simp [Instr.findAsking,findAt]
 | [],k :: l,i,h=>by simp at h
 | e :: es,[],i,h=>by simp at h
 | e :: es,k :: l,i,h=>by
  rw [List.map_cons,List.map_cons,List.cons.injEq] at h
  have ih:=run_asking heq x w es l (i+1) h.2
  have hq:=heq x k w
  rw [← h.1] at hq
  by_cases hx:x=k
  ·subst hx
   rw [decide_eq_true rfl] at hq
   simp [Instr.findAsking,hq,Result.andThen,findAt]
  ·rw [decide_eq_false hx] at hq
   simp [Instr.findAsking,hq,Result.andThen,findAt,hx,ih]
theorem mapK_agg {d:TypeDesc} (hd:P.underlying kt=some d) (hnow:∀ x y,Instr.sameNow d (ek x) (ek y)=none) (heq:∀ x y w,(Op.equal kt (ek x) (ek y)).run P w = .ok (decide (x=y)) w)
  (hchk:∀ b x w,(Instr.checkKey b 10000 kt (ek x)).run P w = .ok () w) (hbits:∀ x,Instr.sameBits 10000 (ek x) (ek x)=true):MapK P kt ek where
 chk:=hchk
 bits:=hbits
 find x es l w h:=by
  have ha:=run_asking heq x w es l 0 h
  cases es with
  | nil =>
   cases l with
   | nil=>simp [Instr.findKey,run_underlying hd,Instr.findNow,findAt,Result.andThen]
   | cons k l=>simp at h
  | cons e es =>
   cases l with
   | nil=>simp at h
   | cons k l =>
    have h1:e.key=ek k:=(List.cons.inj h).1
    have h2:Instr.findNow d (ek x) (e :: es) 0=none:=by rw [Instr.findNow,h1,hnow x k]
    simp [Instr.findKey,run_underlying hd,h2,Result.andThen,ha]
end
def ekP (p:Pp):Value:=.agg #[.int .i64 p.1,.int .i64 p.2]
theorem pp_eq (p q:Pp):(p.1==q.1 && p.2==q.2)=decide (p=q):=by
 obtain ⟨a,b⟩:=p
 obtain ⟨c,d⟩:=q
 rw [Bool.eq_iff_iff]
 simp [Prod.mk.injEq]
theorem run_eqP (x y:Pp) (w:World):(Op.equalIn 10000 45 (ekP x) (ekP y)).run Tryz.prog w = .ok (decide (x=y)) w:=by
 unfold ekP
 rw [← pp_eq]
 rw [run_equalIn_agg w 9999 45 _ _ (by kernel_rfl) (by kernel_rfl)]
 simp only [Program.fieldsOf,Tryz.underlying45]
 simp [go_sem,Tryz.underlying3,part]
 by_cases h1:x.1=y.1 <;> by_cases h2:x.2=y.2 <;> simp [h1,h2]
theorem chk_pp (b:Bool) (x:Pp) (w:World) (n:Nat):(Instr.checkKey b (n+1+1) 45 (ekP x)).run Tryz.prog w = .ok () w:=by
 unfold ekP
 simp [Instr.checkKey,run_underlying Tryz.underlying45,run_underlying Tryz.underlying3,go_sem,part,Result.andThen]
theorem pp_keys:MapK Tryz.prog 45 ekP :=
 mapK_agg Tryz.underlying45 (fun _ _=>rfl) (fun x y w=>run_eqP x y w) (fun b x w=>chk_pp b x w 9998) (fun x=>by unfold ekP;simp [Instr.sameBits])
def ekL (p:Pl):Value:=.agg #[.int .i64 p.1,.int .i64 p.2]
theorem pl_eq (p q:Pl):(p.1==q.1 && p.2==q.2)=decide (p=q):=by
 obtain ⟨a,b⟩:=p
 obtain ⟨c,d⟩:=q
 rw [Bool.eq_iff_iff]
 simp [Prod.mk.injEq]
theorem run_eqL (x y:Pl) (w:World):(Op.equalIn 10000 181 (ekL x) (ekL y)).run Tryz.prog w = .ok (decide (x=y)) w:=by
 unfold ekL
 rw [← pl_eq]
 rw [run_equalIn_agg w 9999 181 _ _ (by kernel_rfl) (by kernel_rfl)]
 simp only [Program.fieldsOf,Tryz.underlying181]
 simp [go_sem,Tryz.underlying3,part]
 by_cases h1:x.1=y.1 <;> by_cases h2:x.2=y.2 <;> simp [h1,h2]
theorem chk_pl (b:Bool) (x:Pl) (w:World) (n:Nat):(Instr.checkKey b (n+1+1) 181 (ekL x)).run Tryz.prog w = .ok () w:=by
 unfold ekL
 simp [Instr.checkKey,run_underlying Tryz.underlying181,run_underlying Tryz.underlying3,go_sem,part,Result.andThen]
theorem pl_keys:MapK Tryz.prog 181 ekL :=
 mapK_agg Tryz.underlying181 (fun _ _=>rfl) (fun x y w=>run_eqL x y w) (fun b x w=>chk_pl b x w 9998) (fun x=>by unfold ekL;simp [Instr.sameBits])
end Go.Proofs.YthhfmppealmblaaGreatDoor
namespace Go.Proofs.YthhfmppealmblaaGreatDoor
open Go.RowKit
theorem checkP_zero {S:Sp} (h:(checkP S).2=0):checkP S=((0,0,0),0)∧S.ds.length≤6∧S.rs.length≤40∧S.ss.length≤80∧S.cs.length≤24∧fst0 (errD S) S.ds.length=none∧fst0 (errR S) S.rs.length=none∧(∀ j,j<S.ss.length→(stopE S j).2=0)∧fst0 (errC S) S.cs.length=none:=by
 have hl:¬ (6<S.ds.length∨40<S.rs.length∨80<S.ss.length∨24<S.cs.length):=by
  intro hl
  rw [check_toolong hl] at h
  cases h
 cases hD:fst0 (errD S) S.ds.length with
 | some i=>rw [checkP_d hl hD] at h;exact absurd h (fst0_is hD).2.1
 | none =>
  cases hR:fst0 (errR S) S.rs.length with
  | some i=>rw [checkP_r hl hD hR] at h;exact absurd h (fst0_is hR).2.1
  | none =>
   cases hS:fst0 (fun i=>(stopE S i).2) S.ss.length with
   | some i =>
    obtain ⟨h1,h2,h3⟩:=fst0_is hS
    rw [checkP_s hl hD hR h1 h2 h3] at h
    exact absurd h h2
   | none =>
    have hS':=fst0_none.1 hS
    cases hC:fst0 (errC S) S.cs.length with
    | some i=>rw [checkP_c hl hD hR hS' hC] at h;exact absurd h (fst0_is hC).2.1
    | none=>exact ⟨checkP_ok hl hD hR hS' hC,by omega,by omega,by omega,by omega,rfl,rfl,hS',rfl⟩
theorem ofRank_len (i lo:Int) (n:Nat):(ofRank i lo n).length=n:=by
 induction n with
 | zero=>rfl
 | succ n ih=>rw [ofRank,List.length_append,ih];rfl
theorem allFrom_len {l:List Rk} (h:∀ r∈l,rkE r=0):∀ (n:Int),(allFrom n l).length≤97 * l.length:=by
 induction l with
 | nil=>intro n;simp [allFrom]
 | cons r l ih =>
  intro n
  have hr:=h r (by simp)
  have h2:=ih (fun x hx=>h x (by simp [hx])) (n+1)
  have:1≤r.cnt∧r.cnt≤97:=by
   unfold rkE at hr
   split at hr
   ·split at hr
    ·omega
    ·omega
   ·omega
  rw [allFrom,List.length_append,ofRank_len,List.length_cons]
  omega
theorem rk_ok {r:Rk} (hr:rkE r=0):1≤r.cnt∧r.cnt≤97∧0≤r.low∧r.low+r.cnt≤128:=by
 unfold rkE at hr
 split at hr
 ·split at hr
  ·omega
  ·omega
 ·omega
structure SpGood (S:Sp):Prop where
 ds:S.ds.length≤6
 rs:S.rs.length≤40
 ss:S.ss.length≤80
 cs:S.cs.length≤24
 d:∀ d∈S.ds,dvE d=0
 r:∀ r∈S.rs,rkE r=0
 s:∀ x∈S.ss,0≤x.div∧x.div<S.ds.length∧0<x.parts.length∧x.parts.length≤12
 p:∀ x∈S.ss,∀ y∈x.parts,ptE S x y=0
theorem spGood {S:Sp} (h:(checkP S).2=0):SpGood S:=by
 obtain ⟨h1,h2,h3,h4,h5,h6,h7,h8,h9⟩:=checkP_zero h
 have hS:∀ j (hj:j<S.ss.length),errS S j=0∧∀ y∈S.ss[j].parts,ptE S S.ss[j] y=0:=by
  intro j hj
  have h:=h8 j hj
  unfold stopE at h
  rw [List.getElem?_eq_getElem hj] at h
  by_cases hz:errS S j=0
  ·refine ⟨hz,?_⟩
   simp only [hz,ne_eq,not_true_eq_false,if_false] at h
   cases hf:fst0 (errP S S.ss[j]) S.ss[j].parts.length with
   | none =>
    intro y hy
    obtain ⟨k,hk,rfl⟩:=List.mem_iff_getElem.1 hy
    have:=fst0_none.1 hf k hk
    unfold errP at this
    rw [List.getElem?_eq_getElem hk] at this
    exact this
   | some k =>
    rw [hf] at h
    exact absurd h (fst0_is hf).2.1
  ·simp only [hz,ne_eq,not_false_eq_true,if_true] at h
 refine ⟨h2,h3,h4,h5,all_dvE h6,all_rkE h7,fun x hx=>?_,fun x hx=>?_⟩
 ·obtain ⟨j,hj,rfl⟩:=List.mem_iff_getElem.1 hx
  have hz:=(hS j hj).1
  unfold errS at hz
  rw [List.getElem?_eq_getElem hj] at hz
  simp only at hz
  split at hz
  ·cases hz
  ·split at hz
   ·have hz:=nmE_zero hz
    unfold stE at hz
    split at hz
    ·split at hz
     ·exact ⟨by omega,by omega,by omega,by omega⟩
     ·cases hz
    ·cases hz
   ·cases hz
 ·obtain ⟨j,hj,rfl⟩:=List.mem_iff_getElem.1 hx
  exact (hS j hj).2
theorem dv_ok {d:Dv} (h:dvE d=0):0≤d.lo∧d.lo≤d.hi∧d.hi≤127∧d.hi-d.lo≤60:=by
 unfold dvE at h
 split at h
 ·omega
 ·cases h
theorem SpGood.part {S:Sp} (g:SpGood S) {x:St} (hx:x∈S.ss) {y:Pt} (hy:y∈x.parts):∃ (k:Nat) (hk:k<S.rs.length),y.rank=k∧-96≤y.shift∧y.shift≤96∧0≤y.lo∧y.lo≤y.hi∧y.hi≤127∧S.rs[k].low≤y.lo+y.shift∧y.hi+y.shift<S.rs[k].low+S.rs[k].cnt:=by
 have h:=g.p x hx y hy
 obtain ⟨d1,d2,_⟩:=g.s x hx
 unfold ptE at h
 split at h
 ·next hr =>
  refine ⟨y.rank.toNat,by omega,by omega,?_⟩
  rw [List.getElem?_eq_getElem (show x.div.toNat<S.ds.length by omega),List.getElem?_eq_getElem (show y.rank.toNat<S.rs.length by omega)] at h
  simp only at h
  have hd:=dv_ok (g.d _ (List.getElem_mem (show x.div.toNat<S.ds.length by omega)))
  split at h
  ·split at h
   ·omega
   ·cases h
  ·cases h
 ·cases h
theorem SpGood.plays {S:Sp} (g:SpGood S) {x:St} (hx:x∈S.ss) {key:Int}:∀ p∈playsL x key,p∈allFrom 0 S.rs:=by
 intro p hp
 unfold playsL at hp
 rw [List.mem_map] at hp
 obtain ⟨y,hy,rfl⟩:=hp
 rw [List.mem_filter] at hy
 obtain ⟨hy,hk⟩:=hy
 simp only [decide_eq_true_eq] at hk
 obtain ⟨k,hk',h1,h2⟩:=g.part hx hy
 rw [mem_allFrom]
 exact ⟨k,hk',by simpa using h1,by simp only;omega,by simp only;omega⟩
theorem run_eqPp (a b c d:Int) (w:World):(binOp .eql 45 (.agg #[.int .i64 a,.int .i64 b]) (.agg #[.int .i64 c,.int .i64 d])).run Tryz.prog w = .ok (.bool (a==c && b==d)) w:=by
 rw [run_eql_struct]
 rw [run_equalIn_agg w 9999 45 _ _ (by kernel_rfl) (by kernel_rfl)]
 simp only [Program.fieldsOf,Tryz.underlying45]
 simp [go_sem,Tryz.underlying3,part]
 by_cases h1:a=c <;> by_cases h2:b=d <;> simp [h1,h2]
theorem run_nePp (a b c d:Int) (w:World):(binOp .neq 45 (.agg #[.int .i64 a,.int .i64 b]) (.agg #[.int .i64 c,.int .i64 d])).run Tryz.prog w = .ok (.bool (!(a==c && b==d))) w:=by
 rw [run_neq_struct]
 rw [run_equalIn_agg w 9999 45 _ _ (by kernel_rfl) (by kernel_rfl)]
 simp only [Program.fieldsOf,Tryz.underlying45]
 simp [go_sem,Tryz.underlying3,part]
 by_cases h1:a=c <;> by_cases h2:b=d <;> simp [h1,h2]
theorem eqPp {p q:Pp} {b:Bool} (h:decide (p=q)=b) (w:World):(binOp .eql 45 (.agg #[.int .i64 p.1,.int .i64 p.2]) (.agg #[.int .i64 q.1,.int .i64 q.2])).run Tryz.prog w = .ok (.bool b) w:=by rw [run_eqPp,pp_eq,h]
theorem nePp {p q:Pp} {b:Bool} (h:decide (p=q)=b) (w:World):(binOp .neq 45 (.agg #[.int .i64 p.1,.int .i64 p.2]) (.agg #[.int .i64 q.1,.int .i64 q.2])).run Tryz.prog w = .ok (.bool (!b)) w:=by rw [run_nePp,pp_eq,h]
end Go.Proofs.YthhfmppealmblaaGreatDoor
