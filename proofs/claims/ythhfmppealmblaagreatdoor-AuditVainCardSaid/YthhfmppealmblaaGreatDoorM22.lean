/-
  A part of the proof: AH1.
-/
import Derived.Test.YthhfmppealmblaaGreatDoorM21
import Derived.Deep.RegionLaw
namespace Go.Proofs.YthhfmppealmblaaGreatDoor
open Go.RowKit
structure RwsI (base n KB:Nat) (vals:Nat→Value) (G:Nat→List Int) (W:World):Prop where
 blk:∃ cs,Blk W KB 68 cs∧cs.size=n∧∀ d,d<n→cs[d]?=some (vals d)
 rows:∀ d,d<n→W.ownsRow base 3 1 (vals d) (G d).length (iCs (G d))
 apart:∀ d e,d<n→e<n→d≠e→(vals d).ownBlock=none∨(vals d).ownBlock≠(vals e).ownBlock
 kb:base≤KB
theorem RwsI.below {base n KB:Nat} {vals:Nat→Value} {G:Nat→List Int} {W W':World} (h:RwsI base n KB vals G W) (hb:Below W.heap.size W W'):RwsI base n KB vals G W':=by
 obtain ⟨⟨cs,h1,h2,h3⟩,hr,ha,hk⟩:=h
 exact ⟨⟨cs,h1.below hb,h2,h3⟩,fun d hd=>row_later (hr d hd) hb,ha,hk⟩
theorem RwsI.lt {base n KB:Nat} {vals:Nat→Value} {G:Nat→List Int} {W:World} (h:RwsI base n KB vals G W):KB<W.heap.size:=by
 obtain ⟨⟨cs,h1,_⟩,_⟩:=h
 exact h1.lt
theorem RwsI.cell {base n KB:Nat} {vals:Nat→Value} {G:Nat→List Int} {W:World} (h:RwsI base n KB vals G W) {d:Nat} (hd:d<n):W.cell? ⟨KB,d,none⟩=some (vals d):=by
 obtain ⟨⟨cs,h1,h2,h3⟩,_⟩:=h
 rw [h1.cell];exact h3 d hd
theorem row_not {W:World} {base:Nat} {t t':TypeId} {k n:Nat} {v:Value} {xs:List Value} (h:W.ownsRow base t k v n xs) {B:Nat} {cs:Array Value} (hb:Blk W B t' cs) (ht:t'≠t):v.ownBlock≠some B:=by
 intro e
 rcases h.2 with ⟨rfl,_⟩ | ⟨g,cap,cur,rfl,_,hg,_⟩
 ·cases e
 ·simp only [Value.ownBlock,Option.some.injEq] at e
  subst e
  rw [show W.heap[g]?=_ from hb] at hg
  cases hg
  exact ht rfl
theorem RwsI.start {base n KB:Nat} {W:World} {cs:Array Value} (hb:Blk W KB 68 cs) (hs:cs.size=n) (hc:∀ d,d<n→cs[d]?=some (.slice none 0 0)) (hk:base≤KB):RwsI base n KB (fun _ => .slice none 0 0) (fun _=>[]) W :=
 ⟨⟨cs,hb,hs,hc⟩,fun _ _=>World.ownsRow_nil _ _ _ _,fun _ _ _ _ _ => .inl rfl,hk⟩
theorem RwsI.push {base n KB:Nat} {vals:Nat→Value} {G:Nat→List Int} {W W1 W3:World} (h:RwsI base n KB vals G W) (hb:Below W.heap.size W W1) {d:Nat} (hd:d<n) {k:Int} {g cap m:Nat} (hown:W3.ownsRow base 3 1 (.slice (some ⟨g,0,none⟩) m cap) m (iCs (G d)++[.int .i64 k])) (hm:m=(G d).length+1)
  (hg:W1.grownBy W3 (vals d).ownBlock) (hat:(vals d).ownBlock=some g∨g=W1.heap.size) :
  RwsI base n KB (fun e=>if e=d then .slice (some ⟨g,0,none⟩) m cap else vals e) (fun e=>if e=d then G d++[k] else G e) (W3.setCell ⟨KB,d,none⟩ (.slice (some ⟨g,0,none⟩) m cap)):=by
 have h1:=h.below hb
 obtain ⟨⟨cs,hB,hsz,hc⟩,hr,ha,hk⟩:=h1
 have hKB:(vals d).ownBlock≠some KB:=row_not (hr d hd) hB (by decide)
 have hB3:Blk W3 KB 68 cs:=hB.grown hg hKB
 have hgK:g≠KB:=by
  rcases hat with e | e
  ·intro q;rw [q] at e;exact hKB e
  ·have:=hB.lt;omega
 refine ⟨⟨_,hB3.set d _,by rw [Array.size_setIfInBounds];exact hsz,fun e he=>?_⟩,fun e he=>?_,fun a b hA hBn hne=>?_,hk⟩
 ·rw [Array.getElem?_setIfInBounds]
  by_cases q:d=e
  ·subst q;rw [if_pos rfl,if_pos (by omega),if_pos rfl]
  ·rw [if_neg q,if_neg (fun z=>q z.symm)]
   exact hc e he
 ·have hgrow:W3.grownBy (W3.setCell ⟨KB,d,none⟩ (.slice (some ⟨g,0,none⟩) m cap)) (some KB):=set_grown _ _ _ _
  by_cases q:e=d
  ·subst q
   simp only [if_true]
   rw [List.length_append,List.length_singleton,← hm,show iCs (G e++[k])=iCs (G e)++[.int .i64 k] from iCs_snoc _ _]
   exact hown.kept hgrow (.inr (by simp only [Value.ownBlock,ne_eq,Option.some.injEq];exact hgK))
  ·simp only [if_neg q]
   have h3:(vals e).ownBlock=none∨(vals e).ownBlock≠(vals d).ownBlock:=ha e d he hd q
   have h4:W3.ownsRow base 3 1 (vals e) (G e).length (iCs (G e)):=(hr e he).kept hg h3
   exact h4.kept hgrow (.inr (row_not h4 hB3 (by decide)))
 ·have hlt:∀ e,e<n→∀ j,(vals e).ownBlock=some j→j<W1.heap.size:=fun e he j hj=>by
   rcases (hr e he).2 with ⟨q,_⟩ | ⟨g2,cap2,cur2,q,_,hg2,_⟩
   ·rw [q] at hj;cases hj
   ·rw [q] at hj
    cases hj
    exact (Array.getElem?_eq_some_iff.1 hg2).1
  by_cases qa:a=d
  ·subst qa
   have qb:¬ b=a:=fun z=>hne z.symm
   simp only [if_true,if_neg qb]
   right
   intro e
   simp only [Value.ownBlock] at e
   rcases hat with q | q
   ·rcases ha a b hA hBn hne with z | z
    ·rw [z] at q;cases q
    ·exact z (by rw [q];exact e)
   ·have:=hlt b hBn g e.symm
    omega
  ·simp only [if_neg qa]
   by_cases qb:b=d
   ·subst qb
    simp only [if_true]
    cases hva:(vals a).ownBlock with
    | none=>exact .inl rfl
    | some j =>
     right
     intro e
     simp only [Value.ownBlock,Option.some.injEq] at e
     subst e
     rcases hat with q | q
     ·rcases ha a b hA hBn hne with z | z
      ·rw [z] at hva;cases hva
      ·exact z (by rw [q,hva])
     ·have:=hlt a hA _ hva
      omega
   ·simp only [if_neg qb]
    exact ha a b hA hBn hne
def onL (f:Th→Int) (k:Int) (n:Nat):List Int:=((List.range n).map fun (i:Nat)=>(i:Int)).filter fun i=>decide (f (k,0,i)=1)
theorem onL_succ (f:Th→Int) (k:Int) (n:Nat):onL f k (n+1)=onL f k n++if f (k,0,(n:Int))=1 then [(n:Int)] else []:=by
 unfold onL
 rw [List.range_succ,List.map_append,List.filter_append]
 by_cases h:f (k,0,(n:Int))=1
 ·rw [if_pos h];simp [h]
 ·rw [if_neg h];simp [h]
theorem mem_onL {f:Th→Int} {k:Int} {n:Nat} {i:Int}:i∈onL f k n ↔ 0≤i∧i<n∧f (k,0,i)=1:=by
 unfold onL
 rw [List.mem_filter,List.mem_map,decide_eq_true_iff]
 constructor
 ·rintro ⟨⟨a,ha,rfl⟩,h⟩
  have:=List.mem_range.1 ha
  exact ⟨by omega,by omega,h⟩
 ·rintro ⟨h1,h2,h3⟩
  exact ⟨⟨i.toNat,List.mem_range.2 (by omega),by omega⟩,h3⟩
theorem len_onL (f:Th→Int) (k:Int) (n:Nat):(onL f k n).length≤n:=by
 unfold onL
 have:=List.length_filter_le (fun i=>decide (f (k,0,i)=1)) ((List.range n).map fun (i:Nat)=>(i:Int))
 rw [List.length_map,List.length_range] at this
 exact this
def playN (f:Th→Int) (d:Int) (n:Nat):List Int:=((List.range n).map fun (k:Nat)=>(k:Int)).filter fun k=>decide (f (1,d,k)=1)
theorem playN_all (f:Th→Int) (d:Int):playN f d 128=playedL f d:=rfl
theorem playN_succ (f:Th→Int) (d:Int) (n:Nat):playN f d (n+1)=playN f d n++if f (1,d,(n:Int))=1 then [(n:Int)] else []:=by
 unfold playN
 rw [List.range_succ,List.map_append,List.filter_append]
 by_cases h:f (1,d,(n:Int))=1
 ·rw [if_pos h];simp [h]
 ·rw [if_neg h];simp [h]
theorem len_playN (f:Th→Int) (d:Int) (n:Nat):(playN f d n).length≤n:=by
 unfold playN
 have:=List.length_filter_le (fun i=>decide (f (1,d,i)=1)) ((List.range n).map fun (i:Nat)=>(i:Int))
 rw [List.length_map,List.length_range] at this
 exact this
def rowG (f:Th→Int) (d k:Nat):Nat→List Int:=fun e=>if e<d then playedL f e else if e=d then playN f d k else []
theorem rowG_zero (f:Th→Int):rowG f 0 0=fun _=>[]:=by
 funext e
 unfold rowG
 rw [if_neg (Nat.not_lt_zero e)]
 split
 ·rfl
 ·rfl
theorem rowG_next (f:Th→Int) (d:Nat):rowG f d 128=rowG f (d+1) 0:=by
 funext e
 unfold rowG
 by_cases h1:e<d
 ·rw [if_pos h1,if_pos (by omega)]
 ·rw [if_neg h1]
  by_cases h2:e=d
  ·rw [if_pos h2,if_pos (by omega),h2];rfl
  ·rw [if_neg h2,if_neg (by omega)]
   split
   ·rfl
   ·rfl
theorem rowG_yes {f:Th→Int} {d k:Nat} (h:f (1,(d:Int),(k:Int))=1):rowG f d (k+1)=fun e=>if e=d then rowG f d k d++[(k:Int)] else rowG f d k e:=by
 funext e
 by_cases q:e=d
 ·subst q
  simp only [if_true]
  unfold rowG
  rw [if_neg (Nat.lt_irrefl e),if_pos rfl,if_neg (Nat.lt_irrefl e),if_pos rfl,playN_succ,if_pos h]
 ·simp only [if_neg q]
  unfold rowG
  rw [if_neg q,if_neg q]
theorem rowG_no {f:Th→Int} {d k:Nat} (h:f (1,(d:Int),(k:Int))≠1):rowG f d (k+1)=rowG f d k:=by
 funext e
 unfold rowG
 by_cases h1:e<d
 ·rw [if_pos h1,if_pos h1]
 ·rw [if_neg h1,if_neg h1]
  by_cases h2:e=d
  ·rw [if_pos h2,if_pos h2,playN_succ,if_neg h,List.append_nil]
  ·rw [if_neg h2,if_neg h2]
theorem rowG_len (f:Th→Int) (d k:Nat) (hk:k≤128) (e:Nat):(rowG f d k e).length≤128:=by
 unfold rowG
 split
 ·rw [← playN_all];exact len_playN _ _ _
 ·split
  ·exact Nat.le_trans (len_playN _ _ _) hk
  ·exact Nat.zero_le _
theorem rowG_full {f:Th→Int} {d e:Nat} (h:e<d):rowG f d 0 e=playedL f e:=by unfold rowG;rw [if_pos h]
structure HdRd (W:World) (vk vs vc:Value) (S:Sp) (f:Th→Int):Prop where
 keys:∃ g:Nat→Value,ARd W vk 1 ((List.range S.ds.length).map fun d=>[g d])∧∀ d,d<S.ds.length→ARd W (g d) 1 ((playedL f d).map iC)
 stops:ARd W vs 1 ((onL f 2 S.ss.length).map iC)
 cous:ARd W vc 1 ((onL f 3 S.cs.length).map iC)
theorem HdRd.later {W W':World} {vk vs vc:Value} {S:Sp} {f:Th→Int} (h:HdRd W vk vs vc S f) (hb:Below W.heap.size W W'):HdRd W' vk vs vc S f:=by
 obtain ⟨⟨g,h1,h2⟩,h3,h4⟩:=h
 exact ⟨⟨g,h1.later hb,fun d hd=>(h2 d hd).later hb⟩,h3.later hb,h4.later hb⟩
theorem RwsI.ard {base n KB:Nat} {vals:Nat→Value} {G:Nat→List Int} {W:World} (h:RwsI base n KB vals G W) (c:Nat):ARd W (.slice (some ⟨KB,0,none⟩) n c) 1 ((List.range n).map fun d=>[vals d]):=by
 refine ⟨some ⟨KB,0,none⟩,c,by simp,fun i hi=>⟨KB,0,rfl,h.lt,fun j u hj=>?_⟩⟩
 have hi2:i<n:=by simpa using hi
 have hj0:j=0:=by
  have:=(List.getElem?_eq_some_iff.1 hj).1
  simpa using this
 subst hj0
 have e:u=vals i:=by simpa using hj.symm
 rw [e]
 have:=h.cell hi2
 simpa using this
theorem ints_info2:(Tryz.prog.info? 68).map (fun i=>(i.zero,i.size,i.bytes))=some (some (.slice none 0 0),1,24):=by kernel_rfl
theorem int64_info:(Tryz.prog.info? 3).map (fun i=>(i.zero,i.size,i.bytes))=some (some (.int .i64 0),1,8):=by kernel_rfl
end Go.Proofs.YthhfmppealmblaaGreatDoor
