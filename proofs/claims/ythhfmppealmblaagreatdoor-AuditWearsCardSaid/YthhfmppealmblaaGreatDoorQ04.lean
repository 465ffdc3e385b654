/-
  A part of the proof: RowG, KRow, H, A0, AB.
-/
import Derived.Test.YthhfmppealmblaaGreatDoorQ02
import Derived.OwnWalk
import Derived.Deep.AppendLies
import Derived.WalkKit
import Derived.Test.YthhfmppealmblaaGreatDoorQ03
import Derived.Deep.CutRange
import Derived.Deep.MidRow
import Derived.Laws.Rows
import Derived.BigRegion
import Derived.Deep.QuietTactic
import Derived.BigQuiet
import Derived.Deep.RegionWith
import Derived.StillTailTactics
namespace Go.Proofs.YthhfmppealmblaaGreatDoor
open Go.RowKit
theorem row_ne {A : World} {row : Option Nat} {base : Nat} {t : TypeId} {size k : Nat} {v : Value} {xs : List Value} (h : A.ownsRow base t size v k xs) (hr : ∀ r,row = some r→∃ o : Obj,A.heap[r]? = some o∧o.isCells = false) : v.ownBlock = none ∨ v.ownBlock ≠ row:=by
 rcases h.2 with ⟨rfl,_⟩ | ⟨g,cap,cur,rfl,_,hgb,_⟩
 ·exact .inl rfl
 ·refine .inr fun e' => ?_
  obtain ⟨o,ho,hc⟩:=hr g (by simpa [Value.ownBlock] using e'.symm)
  rw [hgb] at ho; cases ho; cases hc
theorem row_far {A : World} {base B : Nat} {t : TypeId} {size k : Nat} {v : Value} {xs : List Value} (h : A.ownsRow base t size v k xs) (hB : B < base) : v.ownBlock = none ∨ v.ownBlock ≠ some B:=by
 rcases h.2 with ⟨rfl,_⟩ | ⟨g,cap,cur,rfl,hg,_⟩
 ·exact .inl rfl
 ·refine .inr fun e' => ?_
  have : g = B:=by simpa [Value.ownBlock] using e'
  omega
theorem grown_none {W W' : World} (hb : Below W.heap.size W W') : W.grownBy W' none:=⟨hb.os,hb.tape,hb.output,hb.size,fun i hi _ => hb.block i hi⟩
theorem row_later {W W' : World} {base : Nat} {t : TypeId} {size k : Nat} {v : Value} {xs : List Value} (h : W.ownsRow base t size v k xs) (hb : Below W.heap.size W W') : W'.ownsRow base t size v k xs :=
 h.kept (grown_none hb) (row_ne h (fun r e => by cases e))
theorem row_ge {W : World} {base : Nat} {t : TypeId} {size k : Nat} {v : Value} {xs : List Value} (h : W.ownsRow base t size v k xs) {j : Nat} (e : v.ownBlock = some j) : base ≤ j:=by
 rcases h.2 with ⟨rfl,_⟩ | ⟨g,cap,cur,rfl,hg,_⟩
 ·simp [Value.ownBlock] at e
 ·have : g = j:=by simpa [Value.ownBlock] using e
  omega
theorem row_base {W : World} {base base' : Nat} {t : TypeId} {size k : Nat} {v : Value} {xs : List Value} (h : W.ownsRow base t size v k xs) (hb : base' ≤ base) : W.ownsRow base' t size v k xs:=by
 obtain ⟨h1,h2 | ⟨g,cap,cur,e1,e2,e3⟩⟩:=h
 ·exact ⟨h1,.inl h2⟩
 ·exact ⟨h1,.inr ⟨g,cap,cur,e1,Nat.le_trans hb e2,e3⟩⟩
theorem flat_get {α : Type} {k : Nat} : ∀ (rows : List (List α)),(∀ r ∈ rows,r.length = k)→∀ (i : Nat) (h : i < rows.length) (j : Nat),j < k→rows.flatten[i * k + j]? = rows[i][j]?
 | [],_,i,h,_,_ => absurd h (Nat.not_lt_zero i)
 | r :: rows,hk,0,_,j,hj => by
  have hr:=hk r (by simp)
  rw [List.flatten_cons,List.getElem?_append_left (by omega)]
  simp
 | r :: rows,hk,i + 1,h,j,hj => by
  have hr:=hk r (by simp)
  have hm : r.length ≤ (i + 1) * k + j:=by rw [Nat.add_mul]; omega
  rw [List.flatten_cons,List.getElem?_append_right hm,show (i + 1) * k + j - r.length = i * k + j by rw [Nat.add_mul]; omega]
  exact flat_get rows (fun r hr => hk r (by simp [hr])) i (by simpa using h) j hj
theorem flat_len {α : Type} {k : Nat} : ∀ (rows : List (List α)),(∀ r ∈ rows,r.length = k)→rows.flatten.length = rows.length * k
 | [],_ => by simp
 | r :: rows,hk => by
  rw [List.flatten_cons,List.length_append,hk r (by simp),flat_len rows (fun r hr => hk r (by simp [hr])),List.length_cons,Nat.add_mul]
  omega
theorem ARd.empty (w : World) (k : Nat) : ARd w (.slice none 0 0) k []:=⟨_,_,rfl,fun i hi => absurd hi (Nat.not_lt_zero i)⟩
theorem ARd.of_row {W : World} {base : Nat} {t : TypeId} {k : Nat} {v : Value} {rows : List (List Value)} (hk : ∀ r ∈ rows,r.length = k) (h : W.ownsRow base t k v rows.length rows.flatten) : ARd W v k rows:=by
 obtain ⟨_,⟨rfl,h0⟩ | ⟨g,cap,cur,rfl,_,hg,_,_,_,hx⟩⟩:=h
 ·have:=List.length_eq_zero_iff.1 h0
  subst this
  exact ARd.empty W k
 ·refine ⟨_,_,rfl,fun i hi => ⟨g,0,rfl,(Array.getElem?_eq_some_iff.1 hg).1,fun j u hj => ?_⟩⟩
  have hjk : j < k:=by
   have:=(List.getElem?_eq_some_iff.1 hj).1
   rwa [hk _ (List.getElem_mem hi)] at this
  have e:=flat_get rows hk i hi j hjk
  rw [hj,← hx,List.getElem?_take] at e
  split at e
  ·simp only [World.cell?,hg,Nat.zero_add]
   simpa using e
  ·cases e
theorem cell_alloc {W : World} {p : Addr} {v : Value} (h : W.cell? p = some v) : ∀ o,(W.alloc o).cell? p = some v:=fun o => (((Below.refl _ W).alloc (Nat.le_refl _) o).cell (cell_size h)).trans h
theorem push_low {W0 W W' : World} {o : Obj} {t : TypeId} {k n : Nat} {v : Value} {xs : List Value} (hb : Below W0.heap.size W0 W) (hrow : W.ownsRow W0.heap.size t k v n xs) (hg : (W.alloc o).grownBy W' v.ownBlock) : Below W0.heap.size W0 W' :=
 (hb.alloc hb.size o).grown hg (by simp; have:=hb.size; omega) (fun j e => row_ge hrow e)
end Go.Proofs.YthhfmppealmblaaGreatDoor
namespace Go.Proofs.YthhfmppealmblaaGreatDoor
open Go.RowKit
def iC (n : Int) : List Value:=[.int .i64 n]
def iCs (l : List Int) : List Value:=l.map (Value.int .i64)
theorem iCs_flat (l : List Int) : iCs l = (l.map iC).flatten:=by
 induction l with
 | nil => rfl
 | cons a l ih => simp [iCs,iC] at *; exact ih
theorem iCs_snoc (l : List Int) (n : Int) : iCs (l ++ [n]) = iCs l ++ [.int .i64 n]:=by simp [iCs]
theorem ARd.of_ints {W : World} {base : Nat} {t : TypeId} {v : Value} {l : List Int} (h : W.ownsRow base t 1 v l.length (iCs l)) : ARd W v 1 (l.map iC) :=
 ARd.of_row (by intro r hr; obtain ⟨p,_,rfl⟩:=List.mem_map.1 hr; rfl) (by rw [List.length_map,← iCs_flat]; exact h)
theorem ARd.intAt {w : World} {v : Value} {l : List Int} (h : ARd w v 1 (l.map iC)) (i : Nat) (hi : i < l.length) : ∃ b o c,v = .slice (some ⟨b,o,none⟩) l.length c∧b < w.heap.size∧w.cell? ⟨b,o + i,none⟩ = some (.int .i64 l[i]):=by
 obtain ⟨b,o,c,e,hlt,hc⟩:=h.at i (by simpa using hi)
 rw [List.getElem_map] at hc
 rw [List.length_map] at e
 exact ⟨b,o,c,e,hlt,by have:=hc 0 _ rfl; rwa [Nat.mul_one] at this⟩
theorem ARd.intForm {w : World} {v : Value} {l : List Int} (h : ARd w v 1 (l.map iC)) : ∃ a c,v = .slice a l.length c:=by
 obtain ⟨a,c,e⟩:=h.form
 exact ⟨a,c,by simpa using e⟩
section
variable {α : Type}
structure EnB (W : World) (t : TypeId) (k : Nat) (enc : α→List Value) (g cap : Nat) (m : List α) : Prop where
 cur : ∃ cur,Blk W g t cur∧cur.size = cap * k∧cur.toList.take (m.length * k) = (m.map enc).flatten
 le : m.length ≤ cap
variable {W W' : World} {t : TypeId} {k g cap : Nat} {enc : α → List Value} {m : List α}
theorem enc_len (hk : ∀ x,(enc x).length = k) (m : List α) : ((m.map enc).flatten).length = m.length * k:=by
 have:=flat_len (k:=k) (m.map enc) (by intro r hr; obtain ⟨p,_,rfl⟩:=List.mem_map.1 hr; exact hk p)
 rwa [List.length_map] at this
theorem EnB.lt (h : EnB W t k enc g cap m) : g < W.heap.size:=by obtain ⟨⟨cur,hb,_⟩,_⟩:=h; exact hb.lt
theorem EnB.kept {row : Option Nat} (h : EnB W t k enc g cap m) (hg : W.grownBy W' row) (hne : some g ≠ row) : EnB W' t k enc g cap m:=by
 obtain ⟨⟨cur,hb,h2⟩,h3⟩:=h
 exact ⟨⟨cur,(hg.block g hb.lt hne).trans hb,h2⟩,h3⟩
theorem EnB.below (h : EnB W t k enc g cap m) (hb : Below W.heap.size W W') : EnB W' t k enc g cap m:=by
 obtain ⟨⟨cur,hc,h2⟩,h3⟩:=h
 exact ⟨⟨cur,hc.below hb,h2⟩,h3⟩
theorem EnB.drewN (h : EnB W t k enc g cap m) (n : Nat) : EnB (W.drewN n) t k enc g cap m:=⟨h.cur,h.le⟩
theorem EnB.cell (hk : ∀ x,(enc x).length = k) (h : EnB W t k enc g cap m) {i : Nat} (hi : i < m.length) {j : Nat} {u : Value} (hj : (enc m[i])[j]? = some u) : W.cell? ⟨g,i * k + j,none⟩ = some u∧W.frozen? ⟨g,i * k + j,none⟩ = false:=by
 obtain ⟨⟨cur,hg,hz,hx⟩,hn⟩:=h
 have hjk : j < k:=by
  have:=(List.getElem?_eq_some_iff.1 hj).1
  rwa [hk] at this
 have e:=flat_get (m.map enc) (by intro r hr; obtain ⟨p,_,rfl⟩:=List.mem_map.1 hr; exact hk p) i (by simpa using hi) j hjk
 rw [List.getElem_map,hj,← hx,List.getElem?_take] at e
 split at e
 ·exact ⟨(hg.cell _).trans (by simpa using e),hg.frozen _⟩
 ·cases e
theorem EnB.of_row {base n : Nat} (h : W.ownsRow base t k (.slice (some ⟨g,0,none⟩) n cap) m.length (m.map enc).flatten) : EnB W t k enc g cap m∧base ≤ g∧cap ≤ maxLen∧n = m.length:=by
 obtain ⟨hl,⟨e,_⟩ | ⟨g',cap',cur,e,hb,hg,hn,hc,hz,hx⟩⟩:=h
 ·cases e
 ·cases e
  exact ⟨⟨⟨cur,hg,hz,hx⟩,hn⟩,hb,hc,rfl⟩
theorem EnB.row {base : Nat} (hk : ∀ x,(enc x).length = k) (h : EnB W t k enc g cap m) (hb : base ≤ g) (hc : cap ≤ maxLen) : W.ownsRow base t k (.slice (some ⟨g,0,none⟩) m.length cap) m.length (m.map enc).flatten:=by
 obtain ⟨⟨cur,hg,hz,hx⟩,hn⟩:=h
 exact ⟨enc_len hk m,.inr ⟨g,cap,cur,rfl,hb,hg,hn,hc,hz,hx⟩⟩
theorem flat_set (hk : ∀ x,(enc x).length = k) : ∀ (m : List α) (i : Nat) (x : α) (L : List Value),i < m.length→L.length = m.length * k→(∀ q,q < m.length * k→L[q]? = if i * k ≤ q∧q < i * k + k then (enc x)[q - i * k]? else ((m.map enc).flatten)[q]?)→L = ((m.set i x).map enc).flatten:=by
 intro m i x L hi hL hq
 apply List.ext_getElem?
 intro q
 have hlen : (((m.set i x).map enc).flatten).length = m.length * k:=by rw [enc_len hk,List.length_set]
 by_cases hlt : q < m.length * k
 ·rw [hq q hlt]
  have k0 : 0 < k:=by
   rcases Nat.eq_zero_or_pos k with h0 | h0
   ·subst h0; simp at hlt
   ·exact h0
  have hd:=Nat.div_add_mod q k
  have hm:=Nat.mod_lt q k0
  have hql : q / k < m.length:=(Nat.div_lt_iff_lt_mul k0).2 hlt
  have e1:=flat_get ((m.set i x).map enc) (by intro r hr; obtain ⟨p,_,rfl⟩:=List.mem_map.1 hr; exact hk p) (q / k) (by simpa using hql) (q % k) hm
  have e2:=flat_get (m.map enc) (by intro r hr; obtain ⟨p,_,rfl⟩:=List.mem_map.1 hr; exact hk p) (q / k) (by simpa using hql) (q % k) hm
  rw [Nat.mul_comm (q / k) k,hd] at e1 e2
  rw [e1,List.getElem_map,List.getElem_set]
  by_cases c : i = q / k
  ·have c1 : i * k ≤ q∧q < i * k + k:=by rw [c,Nat.mul_comm]; omega
   rw [if_pos c1,if_pos c]
   congr 1
   rw [c,Nat.mul_comm]
   omega
  ·have c1 : ¬ (i * k ≤ q∧q < i * k + k):=by
    rintro ⟨a,b⟩
    apply c
    have b' : q < (i + 1) * k:=by rw [Nat.add_mul]; omega
    have:=(Nat.le_div_iff_mul_le k0).2 a
    have:=(Nat.div_lt_iff_lt_mul k0).2 b'
    omega
   rw [if_neg c1,if_neg c,e2,List.getElem_map]
 ·rw [List.getElem?_eq_none (by omega),List.getElem?_eq_none (by omega)]
end
end Go.Proofs.YthhfmppealmblaaGreatDoor
namespace Go.Proofs.YthhfmppealmblaaGreatDoor
theorem getD_at {α : Type} {l : List α} {k : Nat} (h : k < l.length) (d : α) : l.getD k d = l[k]:=by
 rw [List.getD_eq_getElem?_getD,List.getElem?_eq_getElem h]
 rfl
abbrev Th:=Int × Int × Int
abbrev Ev:=Int × Int × Int × Int × Int
def there (S : Sp) (what div n : Int) : Bool :=
 if what = 1 then decide (0 ≤ div∧div < S.ds.length) else if what = 2 then decide (0 ≤ n∧n < S.ss.length) else if what = 3 then decide (0 ≤ n∧n < S.cs.length) else true
def keyIn (S : Sp) (div n : Int) : Bool:=match S.ds[div.toNat]? with
 | some d => decide (d.lo ≤ n∧n ≤ d.hi)
 | none => true
def thing (x : Ev) : Th:=(x.2.1,x.2.2.1,x.2.2.2.1)
def evE (S : Sp) (x : Ev) : Int :=
 if x.2.1 < 1 ∨ 5 < x.2.1 ∨ (x.2.1 ≠ 1∧x.2.2.1 ≠ 0) ∨ (x.2.1 = 5∧x.2.2.2.2 ≠ 0) then 2
 else if there S x.2.1 x.2.2.1 x.2.2.2.1 = false then 4
 else if (x.2.1 = 1∧keyIn S x.2.2.1 x.2.2.2.1 = false) ∨ (x.2.1 = 4∧¬ (0 ≤ x.2.2.2.1∧x.2.2.2.1 ≤ 3)) ∨ (x.2.1 = 5∧¬ (0 ≤ x.2.2.2.1∧x.2.2.2.1 ≤ 9999)) ∨ ¬ (0 ≤ x.2.2.2.2∧x.2.2.2.2 ≤ if x.2.1 = 4 then 127 else 1) then 7
 else 0
def ev0 : Ev:=(0,0,0,0,0)
def onS (f : Th→Int) (x : Ev) : Th→Int:=fun t => if x.2.1 ≠ 5∧thing x = t then x.2.2.2.2 else f t
def onV (l : List Ev) : Th→Int:=l.foldl onS fun _ => 0
theorem onV_snoc (l : List Ev) (x : Ev) : onV (l ++ [x]) = onS (onV l) x:=by unfold onV; rw [List.foldl_append]; rfl
theorem onV_take {l : List Ev} {i : Nat} (h : i < l.length) : onV (l.take (i + 1)) = onS (onV (l.take i)) l[i]:=by rw [List.take_succ_eq_append_getElem h,onV_snoc]
def tickB (l : List Ev) (i : Nat) : Int:=if i = 0 then 0 else (l.getD (i - 1) ev0).1
def recF (S : Sp) (l : List Ev) (i : Nat) : Int :=
 if (l.getD i ev0).1 < tickB l i ∨ 100000000 < (l.getD i ev0).1 then 7 else if evE S (l.getD i ev0) = 0 then (if (l.getD i ev0).2.1 ≠ 5∧onV (l.take i) (thing (l.getD i ev0)) = (l.getD i ev0).2.2.2.2 then 8 else 0) else evE S (l.getD i ev0)
def recE (S : Sp) (l : List Ev) : Int × Int :=
 if (checkP S).2 = 0 then (if 20000 < l.length then (0,3) else match fst0 (recF S l) l.length with
  | some i => ((i : Int),recF S l i)
  | none => (0,0)) else (0,(checkP S).2)
def upN (l : List Ev) (t : Int) : Nat:=(l.takeWhile fun x => decide (x.1 ≤ t)).length
theorem upN_is {l : List Ev} {t : Int} {n : Nat} (hn : n ≤ l.length) (h1 : ∀ j (hj : j < l.length),j < n→l[j].1 ≤ t) (h2 : ∀ hn' : n < l.length,¬ l[n].1 ≤ t) : upN l t = n:=by
 unfold upN
 have e : l.takeWhile (fun x => decide (x.1 ≤ t)) = l.take n:=by
  rw [← List.take_append_drop n l,List.takeWhile_append_of_pos]
  ·have : (l.drop n).takeWhile (fun x => decide (x.1 ≤ t)) = []:=by
    by_cases hl : n < l.length
    ·rw [List.drop_eq_getElem_cons hl,List.takeWhile_cons_of_neg (by simpa using h2 hl)]
    ·rw [List.drop_of_length_le (by omega)]; rfl
   rw [this,List.append_nil,List.take_append_drop]
  ·intro x hx
   obtain ⟨j,hj,rfl⟩:=List.getElem_of_mem hx
   rw [List.length_take] at hj
   rw [List.getElem_take]
   exact decide_eq_true (h1 j (by omega) (by omega))
 rw [e,List.length_take]
 omega
theorem dv_small {S : Sp} (h : (checkP S).2 = 0) {d : Dv} (hd : d ∈ S.ds) : 0 ≤ d.lo∧d.hi ≤ 127:=by
 unfold checkP at h
 split at h
 ·cases h
 ·cases e : fst0 (errD S) S.ds.length with
  | some i =>
   rw [e] at h
   simp only at h
   exact absurd h (fst0_is e).2.1
  | none =>
   obtain ⟨k,hk,rfl⟩:=List.getElem_of_mem hd
   have h1:=fst0_none.1 e k hk
   unfold errD at h1
   rw [List.getElem?_eq_getElem hk] at h1
   simp only at h1
   unfold nmE at h1
   split at h1
   ·cases h1
   ·split at h1
    ·cases h1
    ·unfold dvE at h1
     split at h1
     ·omega
     ·cases h1
variable (sl : Nat → List (Nat × Nat)) (m w : Nat)
end Go.Proofs.YthhfmppealmblaaGreatDoor
namespace Go.Proofs.YthhfmppealmblaaGreatDoor
theorem tickB_next {l : List Ev} {i : Nat} (h : i < l.length) : tickB l (i + 1) = l[i].1:=by
 unfold tickB
 rw [if_neg (by omega),show i + 1 - 1 = i by omega,getD_at h]
theorem recE_sp {S : Sp} {l : List Ev} {e : Int} (h : (checkP S).2 = e) (h0 : e ≠ 0) : recE S l = (0,e):=by unfold recE; rw [h,if_neg h0]
theorem recE_long {S : Sp} {l : List Ev} (h : (checkP S).2 = 0) (hl : 20000 < l.length) : recE S l = (0,3):=by unfold recE; rw [if_pos h,if_pos hl]
theorem recE_at {S : Sp} {l : List Ev} (h : (checkP S).2 = 0) (hl : ¬ 20000 < l.length) {i : Nat} (hi : i < l.length) (hp : ∀ j,j < i→recF S l j = 0) {e : Int} (he : recF S l i = e) (h0 : e ≠ 0) : recE S l = ((i : Int),e):=by
 unfold recE
 rw [if_pos h,if_neg hl,fst0_some hi (by rw [he]; exact h0) hp]
 simp only [he]
theorem recE_good {S : Sp} {l : List Ev} (h : (checkP S).2 = 0) (hl : ¬ 20000 < l.length) (hp : ∀ j,j < l.length→recF S l j = 0) : recE S l = (0,0):=by
 unfold recE
 rw [if_pos h,if_neg hl,fst0_none.2 hp]
theorem upto_next {f : Nat→Int} {i : Nat} (h : ∀ j,j < i→f j = 0) (hi : f i = 0) : ∀ j,j < i + 1→f j = 0:=fun j hj => by
 by_cases e : j = i
 ·rw [e]; exact hi
 ·exact h j (by omega)
structure RecOk (S : Sp) (l : List Ev) : Prop where
 sp : (checkP S).2 = 0
 len : l.length ≤ 20000
 at' : ∀ i (hi : i < l.length),¬ (l[i].1 < tickB l i ∨ 100000000 < l[i].1)∧evE S l[i] = 0
theorem recE_ok {S : Sp} {l : List Ev} (h : (recE S l).2 = 0) : RecOk S l:=by
 unfold recE at h
 by_cases e0 : (checkP S).2 = 0
 ·rw [if_pos e0] at h
  by_cases e1 : 20000 < l.length
  ·rw [if_pos e1] at h; cases h
  ·rw [if_neg e1] at h
   cases hf : fst0 (recF S l) l.length with
   | some i =>
    rw [hf] at h
    exact absurd h (fst0_is hf).2.1
   | none =>
    have hn:=fst0_none.1 hf
    refine ⟨e0,by omega,fun i hi => ?_⟩
    have:=hn i hi
    unfold recF at this
    rw [getD_at hi] at this
    by_cases a : l[i].1 < tickB l i ∨ 100000000 < l[i].1
    ·rw [if_pos a] at this; cases this
    ·rw [if_neg a] at this
     by_cases b : evE S l[i] = 0
     ·exact ⟨a,b⟩
     ·rw [if_neg b] at this
      exact absurd this b
 ·rw [if_neg e0] at h
  exact absurd h e0
theorem RecOk.tick {S : Sp} {l : List Ev} (h : RecOk S l) : ∀ i (hi : i < l.length),0 ≤ l[i].1∧l[i].1 ≤ 100000000∧tickB l i ≤ l[i].1
 | 0,hi => by
  have:=(h.at' 0 hi).1
  have e : tickB l 0 = 0:=rfl
  rw [e] at this ⊢
  omega
 | i + 1,hi => by
  have:=(h.at' (i + 1) hi).1
  have ih:=h.tick i (by omega)
  have e:=tickB_next (l:=l) (i:=i) (by omega)
  rw [e] at this ⊢
  omega
end Go.Proofs.YthhfmppealmblaaGreatDoor
namespace Go.Proofs.YthhfmppealmblaaGreatDoor
open Go.RowKit
theorem Blk.ne {W : World} {B B' : Nat} {t t' : TypeId} {cs cs' : Array Value} (h : Blk W B t cs) (h' : Blk W B' t' cs') (ht : t ≠ t') : B ≠ B':=by
 intro e
 subst e
 have e1 : W.heap[B]? = some (.cells cs t (0,0)):=h
 have e2 : W.heap[B]? = some (.cells cs' t' (0,0)):=h'
 rw [e1] at e2
 injection e2 with e3
 injection e3 with _ e4
 exact ht e4
theorem Blk.grown {W W' : World} {B : Nat} {t : TypeId} {cs : Array Value} {row : Option Nat} (h : Blk W B t cs) (hg : W.grownBy W' row) (hne : row ≠ some B) : Blk W' B t cs:=(hg.block B h.lt (fun e => hne e.symm)).trans h
theorem set_grown (w : World) (b i : Nat) (v : Value) : w.grownBy (w.setCell ⟨b,i,none⟩ v) (some b) :=
 ⟨rfl,rfl,rfl,by simp [World.setCell],fun k _ hne => (Below.heap_setCell w ⟨b,i,none⟩ v k (fun e => hne (by rw [e])))⟩
theorem below_two (w : World) (a b : Obj) : Below w.heap.size w ((w.alloc a).alloc b):=((Below.refl _ _).alloc (Nat.le_refl _) _).alloc (by simp) _
def NumR (n : Int) (w : World) (e : Ending) (w' : World) : Prop:=e = .returned (.int .i64 n)∧Below w.heap.size w w'
theorem numR {n m : Int} (h : n = m) {w w' : World} (hb : Below w.heap.size w w') : NumR n w (.returned (.int .i64 m)) w':=⟨by rw [h],hb⟩
def BoolR (b : Bool) (w : World) (e : Ending) (w' : World) : Prop:=e = .returned (.bool b)∧Below w.heap.size w w'
theorem boolR {b c : Bool} (h : b = c) {w w' : World} (hb : Below w.heap.size w w') : BoolR b w (.returned (.bool c)) w':=⟨by rw [h],hb⟩
theorem below_drew {n : Nat} {a w : World} (h : Below n a w) : Below n a w.drew:=⟨h.os,h.tape,h.output,h.size,h.block⟩
theorem blk_put {t : TypeId} {g : Nat} : ∀ (vs : List Value) (o : Nat) (W : World) (cur : Array Value),Blk W g t cur→o + vs.length ≤ cur.size→Blk (W.setCells g o vs) g t (cur.toList.take o ++ vs ++ cur.toList.drop (o + vs.length)).toArray
 | [],o,W,cur,h,hl => by
  have e : (cur.toList.take o ++ [] ++ cur.toList.drop (o + ([] : List Value).length)).toArray = cur:=by simp
  rw [e]
  exact h
 | v :: r,o,W,cur,h,hl => by
  rw [List.length_cons] at hl
  have h1:=blk_put r (o + 1) _ _ (h.set o v) (by simpa using by omega)
  have hlt : o < cur.toList.length:=by rw [Array.length_toList]; omega
  have e : ((cur.setIfInBounds o v).toList.take (o + 1) ++ r ++ (cur.setIfInBounds o v).toList.drop (o + 1 + r.length)).toArray = (cur.toList.take o ++ v :: r ++ cur.toList.drop (o + (v :: r).length)).toArray:=by
   rw [Array.toList_setIfInBounds,List.drop_set_of_lt (by omega),List.take_succ_eq_append_getElem (by simpa using hlt),List.take_set_of_le (Nat.le_refl _),List.getElem_set_self,List.length_cons]
   simp [Nat.add_assoc,Nat.add_comm 1]
  rw [e] at h1
  exact h1
theorem grown_cells (g : Nat) : ∀ (vs : List Value) (o : Nat) (W : World),W.grownBy (W.setCells g o vs) (some g)
 | [],_,W => World.grownBy.refl W _
 | v :: r,o,W => by
  have h : W.grownBy (W.setCell ⟨g,o,none⟩ v) (some g) :=
   ⟨rfl,rfl,rfl,by simp [World.setCell],fun k _ hne => (Below.heap_setCell W ⟨g,o,none⟩ v k (fun e => hne (by rw [e])))⟩
  exact h.trans (grown_cells g r (o + 1) _)
theorem below_undrew {a w : World} (h : Below a.drew.heap.size a.drew w) : Below a.heap.size a w:=⟨h.os,h.tape,h.output,h.size,h.block⟩
def evC (x : Ev) : List Value:=[.int .i64 x.1,.int .i64 x.2.1,.int .i64 x.2.2.1,.int .i64 x.2.2.2.1,.int .i64 x.2.2.2.2]
theorem ARd.evAt {w : World} {v : Value} {l : List Ev} (h : ARd w v 5 (l.map evC)) (i : Nat) (hi : i < l.length) : ∃ b o c,v = .slice (some ⟨b,o,none⟩) l.length c∧b < w.heap.size∧w.cell? ⟨b,o + i * 5,none⟩ = some (.int .i64 l[i].1)∧w.cell? ⟨b,o + i * 5 + 1,none⟩ = some (.int .i64 l[i].2.1)∧w.cell? ⟨b,o + i * 5 + 2,none⟩ = some (.int .i64 l[i].2.2.1)∧w.cell? ⟨b,o + i * 5 + 3,none⟩ = some (.int .i64 l[i].2.2.2.1)∧w.cell? ⟨b,o + i * 5 + 4,none⟩ = some (.int .i64 l[i].2.2.2.2):=by
 obtain ⟨b,o,c,e,hlt,hc⟩:=h.at i (by simpa using hi)
 rw [List.getElem_map] at hc
 rw [List.length_map] at e
 exact ⟨b,o,c,e,hlt,hc 0 _ rfl,hc 1 _ rfl,hc 2 _ rfl,hc 3 _ rfl,hc 4 _ rfl⟩
theorem ARd.evForm {w : World} {v : Value} {l : List Ev} (h : ARd w v 5 (l.map evC)) : ∃ a c,v = .slice a l.length c:=by
 obtain ⟨a,c,e⟩:=h.form
 exact ⟨a,c,by simpa using e⟩
theorem blk_keep {W W' : World} {B : Nat} {t : TypeId} {cs : Array Value} {b : Nat} (h : Blk W B t cs) (hg : W.grownBy W' (some b)) (hne : B ≠ b) : Blk W' B t cs:=(hg.block B h.lt (fun e => hne (Option.some.inj e))).trans h
def RecR (S : Sp) (l : List Ev) (w : World) (e : Ending) (w' : World) : Prop:=e = .returned (.tuple #[.int .i64 (recE S l).1,.int .i64 (recE S l).2])∧Below w.heap.size w w'
theorem recR {S : Sp} {l : List Ev} {a b : Int} (h : recE S l = (a,b)) {w w' : World} (hb : Below w.heap.size w w') : RecR S l w (.returned (.tuple #[.int .i64 a,.int .i64 b])) w':=⟨by rw [h],hb⟩
end Go.Proofs.YthhfmppealmblaaGreatDoor
