/-
  A part of the proof: WA, SR, VB, VC, VD, VE, WB.
-/
import Derived.Test.YteflhbfgpknabaaGreatDoorM20
import Derived.Shelf.GgSortFunc.InsertionK
import Derived.Shelf.SlSortCmp.Insertion
import Derived.Laws.AppendOwn
import Derived.Test.YteflhbfgpknabaaGreatDoorM14
import Derived.Test.YteflhbfgpknabaaGreatDoorM02
import Derived.StillTailTactics
import Derived.Deep.RegionHeld3
import Derived.Test.YteflhbfgpknabaaGreatDoorM12
import Derived.Shelf.SlicesQ.IndexFunc
import Derived.Shelf.SlicesQ.Contains
import Derived.BigQuiet
import Derived.Deep.QuietTactic
namespace Go.Proofs.YteflhbfgpknabaaGreatDoor
open Go.RowKit Go.Shelf
set_option maxRecDepth 100000 in
set_option maxHeartbeats 3200000 in
theorem has30_any (v1 v2 v3 v4:Value) (S:Sp) (hc:(checkP S).2=0) (fp:Nat→Value) (w:World) (hsp:SpRd w v1 v2 v3 v4 fp S) (a t:Int) :
  Calls Tryz.prog 64 #[.agg #[v1,v2,v3,v4],.agg #[.int .i64 a,.int .i64 t]] w fun e w'=>e = .returned (.bool (decide (((a,t):Pp)∈allFrom 0 S.rs)))∧Below w.heap.size w w':=by
 obtain ⟨_,⟨a2,c2,rfl⟩,_,_⟩:=hsp.forms
 obtain ⟨_,l2,_,_⟩:=sp_lens hc
 by_cases h1:a < 0
 ·have h2:=has_out (S:=S) (p:=(a,t)) (.inl h1)
  have hb:=below_two w (.cells #[v1,.slice a2 S.rs.length c2,v3,v4] 27) (.cells #[.int .i64 a,.int .i64 t] 78)
  rw [h2]
  clear hsp h2 hc
  go_enter Tryz.func64,Tryz.ntmps64
  go_wp2
  go_ret
  exact ⟨rfl,hb⟩
 obtain ⟨k,rfl⟩:=Int.eq_ofNat_of_zero_le (show 0≤a by omega)
 by_cases h2:k < S.rs.length
 ·have h3:¬ (S.rs.length:Int)≤(k:Int):=by omega
  have h4:(k:Int) < (S.rs.length:Int):=by omega
  obtain ⟨b,o,c,ev,hbl,r0,r1,r2,r3,r4,r5⟩:=hsp.rAt k h2
  cases ev
  obtain ⟨e1,e2,e3,e4⟩:=has_in (t:=t) hc h2
  rw [e1]
  obtain ⟨r,hr⟩:∃ r,S.rs[k]=r:=⟨_,rfl⟩
  rw [hr] at r0 r1 r2 r3 r4 r5 e2 e3 e4 ⊢
  obtain ⟨lo,hlo⟩:∃ x,r.low=x:=⟨_,rfl⟩
  obtain ⟨ct,hct⟩:∃ x,r.cnt=x:=⟨_,rfl⟩
  rw [hlo] at r4 e2 e3 ⊢
  rw [hct] at r5 e3 e4 ⊢
  have e5:IntKind.i64.wrap (lo + ct)=lo + ct:=IntWalk.i64_in _ (by omega)
  have hb:=(below_two w (.cells #[v1,.slice (some ⟨b,o,none⟩) S.rs.length c2,v3,v4] 27) (.cells #[.int .i64 (k:Int),.int .i64 t] 78)).alloc (by simp; omega) (.cells #[.string r.name,.int .i64 r.kind,.int .i64 r.num,.int .i64 r.den,.int .i64 lo,.int .i64 ct] 63)
  clear hsp hc hr e1
  by_cases c1:lo≤t
  ·have d1:decide (lo≤t)=true:=decide_eq_true c1
   rw [d1,Bool.true_and]
   go_enter Tryz.func64,Tryz.ntmps64
   go_wp2
   go_ret
   exact ⟨rfl,hb⟩
  ·have d1:decide (lo≤t)=false:=decide_eq_false c1
   rw [d1,Bool.false_and]
   go_enter Tryz.func64,Tryz.ntmps64
   go_wp2
   go_ret
   exact ⟨rfl,hb⟩
 ·have h3:(S.rs.length:Int)≤(k:Int):=by omega
  have h5:=has_out (S:=S) (p:=((k:Int),t)) (.inr h3)
  have hb:=below_two w (.cells #[v1,.slice a2 S.rs.length c2,v3,v4] 27) (.cells #[.int .i64 (k:Int),.int .i64 t] 78)
  rw [h5]
  clear hsp h5 hc
  go_enter Tryz.func64,Tryz.ntmps64
  go_wp2
  go_ret
  exact ⟨rfl,hb⟩
set_option maxRecDepth 100000 in
set_option maxHeartbeats 3200000 in
theorem is30_any (v1 v2 v3 v4:Value) (S:Sp) (hc:(checkP S).2=0) (fp:Nat→Value) (w:World) (hsp:SpRd w v1 v2 v3 v4 fp S) (k a t:Int) :
  Calls Tryz.prog 28 #[.agg #[v1,v2,v3,v4],.agg #[.int .i64 k,.int .i64 a,.int .i64 t]] w fun e w'=>e = .returned (.bool (ftOk S (k,a,t)))∧Below w.heap.size w w':=by
 have hb:=below_two w (.cells #[v1,v2,v3,v4] 27) (.cells #[.int .i64 k,.int .i64 a,.int .i64 t] 74)
 have HB:=Lib.hid hb
 have HHAS:=Lib.hid (fun (W:World) (hb:Below w.heap.size w W)=>has30_any v1 v2 v3 v4 S hc fp W (hsp.later hb) a t)
 obtain ⟨_,_,⟨a3,c3,rfl⟩,⟨a4,c4,rfl⟩⟩:=hsp.forms
 clear hsp hc hb
 by_cases h1:k=1∨k=2
 ·rw [ft_pipe h1]
  rcases h1 with rfl | rfl
  all_goals
   go_enter Tryz.func28,Tryz.ntmps28
   go_wp2_with fail
   refine (HHAS.out _ HB.out).mono ?_
   rintro e W ⟨rfl,hb⟩
   have hb2:=below_step HB.out hb
   clear hb HHAS HB
   go_wp2
   go_ret
   exact ⟨rfl,hb2⟩
 clear HHAS
 by_cases h2:k=3∨k=4
 ·rw [ft_stop h2]
  obtain ⟨n,hn⟩:∃ n,S.ss.length=n:=⟨_,rfl⟩
  rw [hn] at HB ⊢
  clear h1 hn
  by_cases c1:0≤a
  ·have d1:decide (0≤a)=true:=decide_eq_true c1
   by_cases c2:a < (n:Int)
   ·have d2:decide (a < (n:Int))=true:=decide_eq_true c2
    by_cases c3:t=0
    ·subst c3
     rw [d1,d2,show decide ((0:Int)=0)=true from rfl]
     rcases h2 with rfl | rfl
     all_goals
      go_enter Tryz.func28,Tryz.ntmps28
      go_wp2
      go_ret
      exact ⟨rfl,HB.out⟩
    ·have d3:decide (t=0)=false:=decide_eq_false c3
     have d4:(t == 0)=false:=by rw [beq_eq_false_iff_ne]; exact c3
     rw [d1,d2,d3]
     rcases h2 with rfl | rfl
     all_goals
      go_enter Tryz.func28,Tryz.ntmps28
      go_wp2
      go_ret
      exact ⟨rfl,HB.out⟩
   ·have d2:decide (a < (n:Int))=false:=decide_eq_false c2
    rw [d1,d2,Bool.false_and,Bool.and_false]
    rcases h2 with rfl | rfl
    all_goals
     go_enter Tryz.func28,Tryz.ntmps28
     go_wp2
     go_ret
     exact ⟨rfl,HB.out⟩
  ·have d1:decide (0≤a)=false:=decide_eq_false c1
   rw [d1,Bool.false_and]
   rcases h2 with rfl | rfl
   all_goals
    go_enter Tryz.func28,Tryz.ntmps28
    go_wp2
    go_ret
    exact ⟨rfl,HB.out⟩
 by_cases h3:k=5∨k=6
 ·rw [ft_cou h3]
  obtain ⟨n,hn⟩:∃ n,S.cs.length=n:=⟨_,rfl⟩
  rw [hn] at HB ⊢
  clear h1 h2 hn
  by_cases c1:0≤a
  ·have d1:decide (0≤a)=true:=decide_eq_true c1
   by_cases c2:a < (n:Int)
   ·have d2:decide (a < (n:Int))=true:=decide_eq_true c2
    by_cases c3:t=0
    ·subst c3
     rw [d1,d2,show decide ((0:Int)=0)=true from rfl]
     rcases h3 with rfl | rfl
     all_goals
      go_enter Tryz.func28,Tryz.ntmps28
      go_wp2
      go_ret
      exact ⟨rfl,HB.out⟩
    ·have d3:decide (t=0)=false:=decide_eq_false c3
     have d4:(t == 0)=false:=by rw [beq_eq_false_iff_ne]; exact c3
     rw [d1,d2,d3]
     rcases h3 with rfl | rfl
     all_goals
      go_enter Tryz.func28,Tryz.ntmps28
      go_wp2
      go_ret
      exact ⟨rfl,HB.out⟩
   ·have d2:decide (a < (n:Int))=false:=decide_eq_false c2
    rw [d1,d2,Bool.false_and,Bool.and_false]
    rcases h3 with rfl | rfl
    all_goals
     go_enter Tryz.func28,Tryz.ntmps28
     go_wp2
     go_ret
     exact ⟨rfl,HB.out⟩
  ·have d1:decide (0≤a)=false:=decide_eq_false c1
   rw [d1,Bool.false_and]
   rcases h3 with rfl | rfl
   all_goals
    go_enter Tryz.func28,Tryz.ntmps28
    go_wp2
    go_ret
    exact ⟨rfl,HB.out⟩
 rw [ft_none (by omega)]
 have d1:(k == 1)=false:=by rw [beq_eq_false_iff_ne]; omega
 have d2:(k == 2)=false:=by rw [beq_eq_false_iff_ne]; omega
 have d3:(k == 3)=false:=by rw [beq_eq_false_iff_ne]; omega
 have d4:(k == 4)=false:=by rw [beq_eq_false_iff_ne]; omega
 have d5:(k == 5)=false:=by rw [beq_eq_false_iff_ne]; omega
 have d6:(k == 6)=false:=by rw [beq_eq_false_iff_ne]; omega
 clear h1 h2 h3
 go_enter Tryz.func28,Tryz.ntmps28
 go_wp2
 go_ret
 exact ⟨rfl,HB.out⟩
set_option maxRecDepth 100000 in
set_option maxHeartbeats 1600000 in
theorem before30_any (a b x y:Int) (w:World):Calls Tryz.prog 96 #[.agg #[.int .i64 a,.int .i64 b],.agg #[.int .i64 x,.int .i64 y]] w fun e w'=>e = .returned (.bool (decide (ppLt (a,b) (x,y))))∧Below w.heap.size w w':=by
 have HB:=Lib.hid (below_two w (.cells #[.int .i64 a,.int .i64 b] 78) (.cells #[.int .i64 x,.int .i64 y] 78))
 by_cases h1:a < x
 ·have HR:=Lib.hid (show decide (ppLt (a,b) (x,y))=true from decide_eq_true (.inl h1))
  have d1:decide (a < x)=true:=decide_eq_true h1
  rw [HR.out]
  clear h1
  go_enter Tryz.func96,Tryz.ntmps96
  go_wp2
  go_ret
  exact ⟨rfl,HB.out⟩
 have d1:decide (a < x)=false:=decide_eq_false h1
 by_cases h2:a=x
 ·have d2:(a == x)=true:=by rw [h2]; exact beq_self_eq_true _
  by_cases h3:b < y
  ·have d3:decide (b < y)=true:=decide_eq_true h3
   have HR:=Lib.hid (show decide (ppLt (a,b) (x,y))=true from decide_eq_true (.inr ⟨h2,h3⟩))
   rw [HR.out]
   clear h1 h2 h3
   go_enter Tryz.func96,Tryz.ntmps96
   go_wp2
   go_ret
   exact ⟨rfl,HB.out⟩
  ·have d3:decide (b < y)=false:=decide_eq_false h3
   have HR:=Lib.hid (show decide (ppLt (a,b) (x,y))=false from decide_eq_false (fun h=>h.elim h1 (fun h=>h3 h.2)))
   rw [HR.out]
   clear h1 h2 h3
   go_enter Tryz.func96,Tryz.ntmps96
   go_wp2
   go_ret
   exact ⟨rfl,HB.out⟩
 ·have d2:(a == x)=false:=by rw [beq_eq_false_iff_ne]; exact h2
  have HR:=Lib.hid (show decide (ppLt (a,b) (x,y))=false from decide_eq_false (fun h=>h.elim h1 (fun h=>h2 h.1)))
  rw [HR.out]
  clear h1 h2
  go_enter Tryz.func96,Tryz.ntmps96
  go_wp2
  go_ret
  exact ⟨rfl,HB.out⟩
set_option maxRecDepth 100000 in
set_option maxHeartbeats 1600000 in
theorem less30_any (a b c x y z:Int) (w:World):Calls Tryz.prog 29 #[.agg #[.int .i64 a,.int .i64 b,.int .i64 c],.agg #[.int .i64 x,.int .i64 y,.int .i64 z]] w fun e w'=>e = .returned (.bool (decide (fLt (a,b,c) (x,y,z))))∧Below w.heap.size w w':=by
 have HB:=Lib.hid (below_two w (.cells #[.int .i64 a,.int .i64 b,.int .i64 c] 74) (.cells #[.int .i64 x,.int .i64 y,.int .i64 z] 74))
 by_cases h1:a=x
 ·have d1:(a == x)=true:=by rw [h1]; exact beq_self_eq_true _
  have e1:(a != x)=false:=by rw [bne,d1]; rfl
  by_cases h2:b=y
  ·have d2:(b == y)=true:=by rw [h2]; exact beq_self_eq_true _
   have e2:(b != y)=false:=by rw [bne,d2]; rfl
   have HR:=Lib.hid (show decide (fLt (a,b,c) (x,y,z))=decide (c < z) from by
    rw [decide_eq_decide]
    unfold fLt
    simp only
    omega)
   rw [HR.out]
   clear h1 h2
   go_enter Tryz.func29,Tryz.ntmps29
   go_wp2
   go_ret
   exact ⟨rfl,HB.out⟩
  ·have d2:(b == y)=false:=by rw [beq_eq_false_iff_ne]; exact h2
   have e2:(b != y)=true:=by rw [bne,d2]; rfl
   have HR:=Lib.hid (show decide (fLt (a,b,c) (x,y,z))=decide (b < y) from by
    rw [decide_eq_decide]
    unfold fLt
    simp only
    omega)
   rw [HR.out]
   clear h1 h2
   go_enter Tryz.func29,Tryz.ntmps29
   go_wp2
   go_ret
   exact ⟨rfl,HB.out⟩
 ·have d1:(a == x)=false:=by rw [beq_eq_false_iff_ne]; exact h1
  have e1:(a != x)=true:=by rw [bne,d1]; rfl
  have HR:=Lib.hid (show decide (fLt (a,b,c) (x,y,z))=decide (a < x) from by
   rw [decide_eq_decide]
   unfold fLt
   simp only
   omega)
  rw [HR.out]
  clear h1
  go_enter Tryz.func29,Tryz.ntmps29
  go_wp2
  go_ret
  exact ⟨rfl,HB.out⟩
end Go.Proofs.YteflhbfgpknabaaGreatDoor
namespace Go.Proofs.YteflhbfgpknabaaGreatDoor
open Go.RowKit
section
variable {α : Type} [Inhabited α]
theorem flatK_at {enc:α→List Value} {k:Nat} (hk:∀ x,(enc x).length=k):∀ (l:List α) (t:Nat),t < l.length * k→((l.map enc).flatten)[t]?=some (enc l[t / k]!)[t % k]!
 | [],t,h=>by simp at h
 | a :: l,t,h=>by
  have ha:=hk a
  rw [List.map_cons,List.flatten_cons]
  by_cases hlt:t < k
  ·rw [List.getElem?_append_left (by omega),Nat.div_eq_of_lt hlt,Nat.mod_eq_of_lt hlt,List.getElem?_eq_getElem (by omega)]
   simp [List.getElem!_eq_getElem?_getD,List.getElem?_eq_getElem (show t < (enc a).length by omega)]
  ·have k0:0 < k:=by
    rcases Nat.eq_zero_or_pos k with h0 | h0
    ·subst h0; simp at h
    ·exact h0
   rw [List.getElem?_append_right (by omega),ha,flatK_at hk l (t - k) (by rw [List.length_cons,Nat.add_mul] at h; omega)]
   have e1:t / k=(t - k) / k + 1:=by
    rw [← Nat.add_div_right _ k0]; congr 1; omega
   have e2:t % k=(t - k) % k:=by
    rw [Nat.mod_eq_sub_mod (by omega)]
   rw [e1,e2]
   simp
theorem flatK_list {enc:α→List Value} {k:Nat} (hk:∀ x,(enc x).length=k) (d:Array α):(Sort.flatK enc k d).toList=(d.toList.map enc).flatten:=by
 apply List.ext_getElem?
 intro t
 have hl:((d.toList.map enc).flatten).length=d.size * k:=by
  have:∀ l:List α,((l.map enc).flatten).length=l.length * k:=by
   intro l
   induction l with
   | nil=>simp
   | cons a l ih=>rw [List.map_cons,List.flatten_cons,List.length_append,hk,ih,List.length_cons,Nat.add_mul]; omega
  rw [this,Array.length_toList]
 by_cases h:t < d.size * k
 ·rw [flatK_at hk d.toList t (by rw [Array.length_toList]; exact h),Array.getElem?_toList,Array.getElem?_eq_getElem (by rw [Sort.size_flatK]; exact h)]
  have:=Sort.get_flatK enc k d t h
  rw [getElem!_pos _ t (by rw [Sort.size_flatK]; exact h)] at this
  rw [this,show d.toList[t / k]! = d[t / k]! by simp [List.getElem!_eq_getElem?_getD,Array.getElem!_eq_getD,Array.getD_eq_getD_getElem?]]
 ·rw [List.getElem?_eq_none (by rw [Array.length_toList,Sort.size_flatK]; omega),List.getElem?_eq_none (by rw [hl]; omega)]
theorem holdsK_row {W:World} {base g:Nat} {t:TypeId} {k n cap:Nat} {enc:α→List Value} (hk:∀ x,(enc x).length=k) {d:Array α} (h:W.ownsRow base t k (.slice (some ⟨g,0,none⟩) n cap) d.size (d.toList.map enc).flatten):Sort.HoldsK enc k W g 0 d∧g < W.heap.size:=by
 obtain ⟨hl,⟨e,_⟩ | ⟨g',cap',cur,e,_,hg,hn,_,hz,hx⟩⟩:=h
 ·cases e
 ·cases e
  refine ⟨fun j hj=>?_,(Array.getElem?_eq_some_iff.1 hg).1⟩
  rw [Sort.size_flatK] at hj
  have hjc:j < cur.size:=by
   have:d.size * k≤cap * k:=Nat.mul_le_mul_right k hn
   omega
  have hj2:(Sort.flatK enc k d)[j]?=cur[j]?:=by
   rw [← Array.getElem?_toList,flatK_list hk,← hx,List.getElem?_take,if_pos hj,Array.getElem?_toList]
  constructor
  ·simp only [World.cell?,hg,Nat.zero_add]
   show cur[j]?=_
   rw [← hj2,Array.getElem?_eq_getElem (by rw [Sort.size_flatK]; exact hj),getElem!_pos _ j (by rw [Sort.size_flatK]; exact hj)]
   rfl
  ·simp only [World.frozen?,hg]
   rfl
theorem sorted_heap {enc:α→List Value} {k:Nat} {W:World} {g n:Nat} {d:Array α} {os:Array Obj} {cur:Array Value} {e:TypeId} {fr:Nat × Nat} (h:W.heap[g]?=some (.cells cur e fr)) :
  (sortWorldK enc k W g 0 n d os).heap[g]?=some (.cells (Sort.putCells id 0 (Sort.flatK enc k d) cur) e fr):=by
 have hlt:=(Array.getElem?_eq_some_iff.1 h).1
 show (((Sort.mapBlock (Sort.ahead W n) g _).heap) ++ os)[g]?=_
 rw [Array.getElem?_append_left (by simpa [Sort.mapBlock] using hlt)]
 show ((Sort.ahead W n).heap.modify g _)[g]?=_
 rw [Array.getElem?_modify,if_pos rfl]
 show Option.map _ (W.heap[g]?)=_
 simp only [h,Option.map_some]
 rfl
theorem sorted_grown {enc:α→List Value} {k:Nat} {W:World} {g n:Nat} {d:Array α} {os:Array Obj}:W.grownBy (sortWorldK enc k W g 0 n d os) (some g) where
 os:=rfl
 tape:=rfl
 output:=rfl
 size:=by
  show W.heap.size≤(((Sort.ahead W n).heap.modify g _) ++ os).size
  rw [Array.size_append,Array.size_modify]
  exact Nat.le_add_right _ _
 block i hi hne:=by
  show (((Sort.ahead W n).heap.modify g _) ++ os)[i]?=W.heap[i]?
  rw [Array.getElem?_append_left (by rw [Array.size_modify]; exact hi),Array.getElem?_modify,if_neg (fun e=>hne (by rw [e]))]
  rfl
theorem sorted_row {W:World} {base g:Nat} {t:TypeId} {k m cap n:Nat} {enc:α→List Value} (hk:∀ x,(enc x).length=k) {d d':Array α} {os:Array Obj} (hs:d'.size=d.size) (h:W.ownsRow base t k (.slice (some ⟨g,0,none⟩) m cap) d.size (d.toList.map enc).flatten) :
  (sortWorldK enc k W g 0 n d' os).ownsRow base t k (.slice (some ⟨g,0,none⟩) m cap) d'.size (d'.toList.map enc).flatten:=by
 obtain ⟨hl,⟨e,_⟩ | ⟨g',cap',cur,e,hbg,hg,hn,hmx,hz,hx⟩⟩:=h
 ·cases e
 ·cases e
  have hle:d'.size * k≤cur.size:=by rw [hz,hs]; exact Nat.mul_le_mul_right k hn
  refine ⟨?_,.inr ⟨g,cap,_,by rw [hs],hbg,sorted_heap hg,by rw [hs]; exact hn,hmx,by simp [Sort.putCells,hz],?_⟩⟩
  ·rw [← flatK_list hk,Array.length_toList,Sort.size_flatK]
  ·rw [← flatK_list hk]
   apply List.ext_getElem?
   intro t
   rw [List.getElem?_take,Array.getElem?_toList,Array.getElem?_toList]
   by_cases ht:t < d'.size * k
   ·rw [if_pos ht]
    simp only [Sort.putCells,Array.getElem?_mapIdx]
    rw [Array.getElem?_eq_getElem (by omega),Option.map_some,if_pos ⟨Nat.zero_le _,by rw [Sort.size_flatK]; omega⟩,Nat.sub_zero,getElem!_pos _ t (by rw [Sort.size_flatK]; exact ht),Array.getElem?_eq_getElem (by rw [Sort.size_flatK]; exact ht)]
    rfl
   ·rw [if_neg ht,Array.getElem?_eq_none (by rw [Sort.size_flatK]; omega)]
end
theorem ARd.of_blkI {W:World} {B:Nat} {t:TypeId} {cs:Array Value} (h:Blk W B t cs) {l:List Int} (hcs:cs.toList=iCs l) (n c:Nat) (hn:n=l.length):ARd W (.slice (some ⟨B,0,none⟩) n c) 1 (l.map iC):=by
 subst hn
 refine ⟨_,_,by rw [List.length_map],fun i hi=>⟨B,0,rfl,h.lt,fun j u hj=>?_⟩⟩
 rw [List.getElem_map] at hj
 have hi':i < l.length:=by simpa using hi
 have hj0:j=0:=by
  have:=(List.getElem?_eq_some_iff.1 hj).1
  simpa [iC] using this
 subst hj0
 have e:cs[i]?=some (.int .i64 l[i]):=by
  rw [← Array.getElem?_toList,hcs,iCs,List.getElem?_map,List.getElem?_eq_getElem hi']; rfl
 rw [Nat.zero_add,h.cell,Nat.mul_one,Nat.add_zero,e]
 exact hj
def Grw (W W':World):Prop:=∃ q os,W'=Sort.grow (W.drewN q) os
theorem Grw.refl (W:World):Grw W W:=⟨0,#[],by rw [Sort.grow_empty]; rfl⟩
theorem Grw.alloc {W W':World} (h:Grw W W') (o:Obj):Grw W (W'.alloc o):=by
 obtain ⟨q,os,rfl⟩:=h
 exact ⟨q,os ++ #[o],by rw [Sort.alloc_eq_grow,Sort.grow_grow]⟩
theorem Grw.drew {W W':World} (h:Grw W W'):Grw W W'.drew:=by
 obtain ⟨q,os,rfl⟩:=h
 exact ⟨q + 1,os,rfl⟩
theorem Grw.trans {A B C:World} (h:Grw A B) (k:Grw B C):Grw A C:=by
 obtain ⟨q,os,rfl⟩:=h
 obtain ⟨r,os',rfl⟩:=k
 refine ⟨q + r,os ++ os',?_⟩
 rw [← Sort.grow_grow]
 simp only [World.drewN,Sort.grow,Nat.add_assoc]
theorem Grw.below {W W':World} (h:Grw W W'):Below W.heap.size W W':=by
 obtain ⟨q,os,rfl⟩:=h
 refine ⟨rfl,rfl,rfl,?_,fun i hi=>?_⟩
 ·show W.heap.size≤(W.heap ++ os).size
  rw [Array.size_append]; omega
 ·show (W.heap ++ os)[i]?=_
  exact Array.getElem?_append_left hi
end Go.Proofs.YteflhbfgpknabaaGreatDoor
namespace Go.Proofs.YteflhbfgpknabaaGreatDoor
open Go.RowKit
set_option maxHeartbeats 400000 in
theorem nani_any (x:Int) (W:World):Calls Tryz.prog 127 #[.int .i64 x] W fun e w'=>e = .returned (.bool false)∧w'=W:=by
 have hx:(x == x)=true:=by simp
 go_enter Tryz.func127,Tryz.ntmps127
 go_wp2
 go_ret
 exact ⟨rfl,rfl⟩
set_option maxHeartbeats 800000 in
theorem comparei_any (a b:Int) (W:World):Calls Tryz.prog 94 #[.int .i64 a,.int .i64 b] W fun e w'=>e = .returned (.int .i64 (cmpI a b))∧w'=W:=by
 rcases Int.lt_trichotomy a b with h | h | h
 ·have HC:=Lib.hid (show cmpI a b = -1 from if_pos h)
  go_enter Tryz.func94,Tryz.ntmps94
  go_wp2_with (go_at_call 127; refine (nani_any _ _).mono ?_; rintro e w' ⟨rfl,rfl⟩)
  go_ret
  exact ⟨by rw [HC.out]; rfl,rfl⟩
 ·have HC:=Lib.hid (show cmpI a b=0 from by unfold cmpI; rw [if_neg (by omega),if_neg (by omega)])
  have h1:¬ a < b:=by omega
  have h2:¬ b < a:=by omega
  go_enter Tryz.func94,Tryz.ntmps94
  go_wp2_with (go_at_call 127; refine (nani_any _ _).mono ?_; rintro e w' ⟨rfl,rfl⟩)
  go_ret
  exact ⟨by rw [HC.out]; rfl,rfl⟩
 ·have HC:=Lib.hid (show cmpI a b=1 from by unfold cmpI; rw [if_neg (by omega),if_pos h])
  have h1:¬ a < b:=by omega
  go_enter Tryz.func94,Tryz.ntmps94
  go_wp2_with (go_at_call 127; refine (nani_any _ _).mono ?_; rintro e w' ⟨rfl,rfl⟩)
  go_ret
  exact ⟨by rw [HC.out]; rfl,rfl⟩
def cfI (a1 a2 b1 b2:Int):Int:=orI [cmpI a1 b1,cmpI a2 b2]
set_option maxRecDepth 100000 in
set_option maxHeartbeats 3200000 in
theorem byPipe_any (a1 a2 b1 b2:Int) (W:World):Calls Tryz.prog 42 #[.agg #[.int .i64 a1,.int .i64 a2],.agg #[.int .i64 b1,.int .i64 b2]] W fun e w'=>e = .returned (.int .i64 (cfI a1 a2 b1 b2))∧Grw W w':=by
 have HB:=Lib.hid (show cfI a1 a2 b1 b2=orI [cmpI a1 b1,cmpI a2 b2] from rfl)
 have m1:=((Blk.new W 78 #[.int .i64 a1,.int .i64 a2]).alloc (.cells #[.int .i64 b1,.int .i64 b2] 78))
 have m2:=Blk.new (W.alloc (.cells #[.int .i64 a1,.int .i64 a2] 78)) 78 #[.int .i64 b1,.int .i64 b2]
 rw [World.size_alloc] at m2
 have M1:=Lib.hid m1
 have M2:=Lib.hid m2
 have HG:=Lib.hid (((Grw.refl W).alloc (.cells #[.int .i64 a1,.int .i64 a2] 78)).alloc (.cells #[.int .i64 b1,.int .i64 b2] 78))
 clear m1 m2
 go_enter Tryz.func42,Tryz.ntmps42
 go_wp2_with fail
 obtain ⟨W2,hW2⟩:∃ W2,(W.alloc (.cells #[.int .i64 a1,.int .i64 a2] 78)).alloc (.cells #[.int .i64 b1,.int .i64 b2] 78)=W2:=⟨_,rfl⟩
 rw [hW2] at M1 M2 HG ⊢
 have x0:W2.cell? ⟨W.heap.size,0,none⟩=some (.int .i64 a1):=M1.out.cell 0
 have x1:W2.cell? ⟨W.heap.size,1,none⟩=some (.int .i64 a2):=M1.out.cell 1
 have z0:W2.cell? ⟨W.heap.size + 1,0,none⟩=some (.int .i64 b1):=M2.out.cell 0
 have z1:W2.cell? ⟨W.heap.size + 1,1,none⟩=some (.int .i64 b2):=M2.out.cell 1
 clear hW2 M1 M2
 go_still_tail 10,(by kernel_rfl)
 still_call (comparei_any a1 b1 _)
 repeat still_step
 still_call (comparei_any a2 b2 _)
 repeat still_step
 refine wpStill_nil ?_
 change wpList _ _ _ _ _ W2.drew
 have HG3:=Lib.hid HG.out.drew
 obtain ⟨W3,hW3⟩:∃ W3,W2.drew=W3:=⟨_,rfl⟩
 rw [hW3] at HG3 ⊢
 clear hW3 x0 x1 z0 z1
 go_wp2_with (go_at_call 93; refine (or_any [cmpI a1 b1,cmpI a2 b2] _ _ (by simp) (ARd.of_blkI (Blk.new _ 3 _) rfl _ _ rfl)).mono ?_; rintro e w' ⟨rfl,rfl⟩)
 go_ret
 exact ⟨by rw [HB.out]; rfl,HG3.out.alloc _⟩
def cfT (a1 a2 a3 b1 b2 b3:Int):Int:=orI [cmpI a1 b1,cmpI a2 b2,cmpI a3 b3]
set_option maxRecDepth 100000 in
set_option maxHeartbeats 3200000 in
theorem byFault_any (a1 a2 a3 b1 b2 b3:Int) (W:World):Calls Tryz.prog 48 #[.agg #[.int .i64 a1,.int .i64 a2,.int .i64 a3],.agg #[.int .i64 b1,.int .i64 b2,.int .i64 b3]] W fun e w'=>e = .returned (.int .i64 (cfT a1 a2 a3 b1 b2 b3))∧Grw W w':=by
 have HB:=Lib.hid (show cfT a1 a2 a3 b1 b2 b3=orI [cmpI a1 b1,cmpI a2 b2,cmpI a3 b3] from rfl)
 have m1:=((Blk.new W 74 #[.int .i64 a1,.int .i64 a2,.int .i64 a3]).alloc (.cells #[.int .i64 b1,.int .i64 b2,.int .i64 b3] 74))
 have m2:=Blk.new (W.alloc (.cells #[.int .i64 a1,.int .i64 a2,.int .i64 a3] 74)) 74 #[.int .i64 b1,.int .i64 b2,.int .i64 b3]
 rw [World.size_alloc] at m2
 have M1:=Lib.hid m1
 have M2:=Lib.hid m2
 have HG:=Lib.hid (((Grw.refl W).alloc (.cells #[.int .i64 a1,.int .i64 a2,.int .i64 a3] 74)).alloc (.cells #[.int .i64 b1,.int .i64 b2,.int .i64 b3] 74))
 clear m1 m2
 go_enter Tryz.func48,Tryz.ntmps48
 go_wp2_with fail
 obtain ⟨W2,hW2⟩:∃ W2,(W.alloc (.cells #[.int .i64 a1,.int .i64 a2,.int .i64 a3] 74)).alloc (.cells #[.int .i64 b1,.int .i64 b2,.int .i64 b3] 74)=W2:=⟨_,rfl⟩
 rw [hW2] at M1 M2 HG ⊢
 have x0:W2.cell? ⟨W.heap.size,0,none⟩=some (.int .i64 a1):=M1.out.cell 0
 have x1:W2.cell? ⟨W.heap.size,1,none⟩=some (.int .i64 a2):=M1.out.cell 1
 have x2:W2.cell? ⟨W.heap.size,2,none⟩=some (.int .i64 a3):=M1.out.cell 2
 have z2:W2.cell? ⟨W.heap.size + 1,2,none⟩=some (.int .i64 b3):=M2.out.cell 2
 have z0:W2.cell? ⟨W.heap.size + 1,0,none⟩=some (.int .i64 b1):=M2.out.cell 0
 have z1:W2.cell? ⟨W.heap.size + 1,1,none⟩=some (.int .i64 b2):=M2.out.cell 1
 clear hW2 M1 M2
 go_still_tail 15,(by kernel_rfl)
 still_call (comparei_any a1 b1 _)
 repeat still_step
 still_call (comparei_any a2 b2 _)
 repeat still_step
 still_call (comparei_any a3 b3 _)
 repeat still_step
 refine wpStill_nil ?_
 change wpList _ _ _ _ _ W2.drew
 have HG3:=Lib.hid HG.out.drew
 obtain ⟨W3,hW3⟩:∃ W3,W2.drew=W3:=⟨_,rfl⟩
 rw [hW3] at HG3 ⊢
 clear hW3 x0 x1 x2 z0 z1 z2
 go_wp2_with (go_at_call 93; refine (or_any [cmpI a1 b1,cmpI a2 b2,cmpI a3 b3] _ _ (by simp) (ARd.of_blkI (Blk.new _ 3 _) rfl _ _ rfl)).mono ?_; rintro e w' ⟨rfl,rfl⟩)
 go_ret
 exact ⟨by rw [HB.out]; rfl,HG3.out.alloc _⟩
theorem cfI_lt (a1 a2 b1 b2:Int):cfI a1 a2 b1 b2 < 0 ↔ ppLt (a1,a2) (b1,b2):=by
 unfold cfI cmpI ppLt
 simp only [orI]
 repeat' split
 all_goals omega
theorem cfI_zero (a1 a2 b1 b2:Int):cfI a1 a2 b1 b2=0 ↔ a1=b1∧a2=b2:=by
 unfold cfI cmpI
 simp only [orI]
 repeat' split
 all_goals omega
theorem cfT_lt (a1 a2 a3 b1 b2 b3:Int):cfT a1 a2 a3 b1 b2 b3 < 0 ↔ fLt (a1,a2,a3) (b1,b2,b3):=by
 unfold cfT cmpI fLt
 simp only [orI]
 repeat' split
 all_goals omega
theorem cfT_zero (a1 a2 a3 b1 b2 b3:Int):cfT a1 a2 a3 b1 b2 b3=0 ↔ a1=b1∧a2=b2∧a3=b3:=by
 unfold cfT cmpI
 simp only [orI]
 repeat' split
 all_goals omega
end Go.Proofs.YteflhbfgpknabaaGreatDoor
namespace Go.Proofs.YteflhbfgpknabaaGreatDoor
open Go.RowKit
theorem pairwise_of {α:Type} {R:α→α→Prop} (ht:∀ {a b c},R a b→R b c→R a c) {l:List α} (h:∀ j (hj:j + 1 < l.length),R (l[j]'(by omega)) l[j + 1]):l.Pairwise R:=by
 have key:∀ (k i:Nat) (hk:i + k + 1 < l.length),R (l[i]'(by omega)) l[i + k + 1]:=by
  intro k
  induction k with
  | zero=>intro i hk; exact h i hk
  | succ k ih=>intro i hk; exact ht (ih i (by omega)) (h (i + k + 1) hk)
 rw [List.pairwise_iff_getElem]
 intro i j hi hj hij
 have:=key (j - i - 1) i (by omega)
 simpa only [show i + (j - i - 1) + 1=j by omega] using this
def RisN {α:Type} (R:α→α→Prop) (l:List α) (i:Nat):Prop:=∀ j (hj:j + 1 < l.length),j + 1 < i→R (l[j]'(by omega)) l[j + 1]
theorem RisN.next {α:Type} {R:α→α→Prop} {l:List α} {i:Nat} (h:RisN R l i) (hi:i < l.length) (h0:1≤i) (hr:R (l[i - 1]'(by omega)) l[i]):RisN R l (i + 1):=fun j hj hji=>by
 by_cases e:j + 1 < i
 ·exact h j hj e
 ·have:j=i - 1:=by omega
  subst this
  simpa only [show i - 1 + 1=i by omega] using hr
theorem below_undrew2 {w W:World} (h:Below w.heap.size w W):Below w.heap.size w W.drew:=h.drew
set_option maxRecDepth 100000 in
set_option maxHeartbeats 3200000 in
theorem risingP_any (l:List Pp) (v:Value) (w:World) (hl:l.length≤1000000) (hv:ARd w v 2 (l.map ppC)) :
  Calls Tryz.prog 41 #[v,.func (.func 42) #[] #[]] w fun e w'=>e = .returned (.bool (decide (l.Pairwise ppLt)))∧Below w.heap.size w w':=by
 obtain ⟨a,c,ev⟩:=hv.form
 rw [List.length_map] at ev
 subst ev
 have HV:=Lib.hid hv
 have HR0:=Lib.hid (show RisN ppLt l 1 from fun j _ h=>absurd h (by omega))
 have HB0:=Lib.hid (Below.refl w.heap.size w)
 clear hv
 go_enter Tryz.func41,Tryz.ntmps41
 go_wp2
 go_loopw [5] (fun y wr=>∃ i:Nat,1≤i∧(i≤l.length∨i=1)∧y = .int .i64 i∧RowKit.Hid (RisN ppLt l i)∧RowKit.Hid (Below w.heap.size w wr)) (fun y _=>l.length - (intOf y).toNat)
 case atStart=>exact ⟨1,Nat.le_refl _,.inr rfl,rfl,HR0,HB0⟩
 clear HR0 HB0
 obtain ⟨i,hi0,hi,rfl,hR,hB⟩:=hrel
 by_cases hil:i < l.length
 ·have hi2:(i:Int) < (l.length:Int):=by omega
  have hj:i - 1 < l.length:=by omega
  obtain ⟨b,o,c',ev,_,q0,q1⟩:=(HV.out.later hB.out).ppAt i hil
  cases ev
  obtain ⟨b',o',c',ev,_,p0,p1⟩:=(HV.out.later hB.out).ppAt (i - 1) hj
  cases ev
  have HN:=Lib.hid (fun h=>hR.out.next hil hi0 h)
  have HNO:=Lib.hid (fun (h:¬ ppLt l[i - 1] l[i])=>show decide (l.Pairwise ppLt)=false from decide_eq_false fun hp=>h (List.pairwise_iff_getElem.1 hp (i - 1) i hj hil (by omega)))
  have e1:IntKind.i64.wrap ((i:Int) - 1)=(i:Int) - 1:=IntWalk.i64_in _ (by omega)
  have e2:0≤(i:Int) - 1:=by omega
  have e3:((i:Int) - 1).toNat=i - 1:=by omega
  have e4:(i:Int) - 1 < (l.length:Int):=by omega
  have e5:(1:Int)≤(i:Int):=by omega
  obtain ⟨x,hx⟩:∃ x,l[i - 1]=x:=⟨_,rfl⟩
  obtain ⟨y,hy⟩:∃ y,l[i]=y:=⟨_,rfl⟩
  rw [hx] at p0 p1 HN HNO
  rw [hy] at q0 q1 HN HNO
  obtain ⟨x1,x2⟩:=x
  obtain ⟨y1,y2⟩:=y
  simp only at p0 q0 p1 q1
  have HLT:=Lib.hid (cfI_lt x1 x2 y1 y2)
  clear hx hy hj
  go_upto_region 4 with fail
  have HB2:=Lib.hid (below_undrew2 hB.out)
  go_still_tail 10,(by kernel_rfl)
  repeat still_step
  try refine wpStill_nil ?_
  try change wpList _ _ _ _ _ wr.drew
  go_wp2_with fail
  refine (byPipe_any x1 x2 y1 y2 _).mono ?_
  rintro e w2 ⟨rfl,hg⟩
  have HB3:=Lib.hid (below_step HB2.out hg.below)
  clear hg hB p0 q0 p1 q1 e1 e2 e3 e4 e5
  obtain ⟨z,hz⟩:∃ z,cfI x1 x2 y1 y2=z:=⟨_,rfl⟩
  rw [hz] at HLT ⊢
  clear hz
  by_cases hzz:z < 0
  ·have d1:decide (0≤z)=false:=decide_eq_false (by omega)
   have HR2:=Lib.hid (HN.out (HLT.out.1 hzz))
   clear hzz hR
   go_wp2
   go_roundw
   case rel=>exact ⟨i + 1,by omega,by omega,by go_num,HR2,HB3⟩
   case measure=>simp [intOf]; omega
  ·have d1:decide (0≤z)=true:=decide_eq_true (by omega)
   have HE:=Lib.hid (HNO.out fun h=>hzz (HLT.out.2 h))
   clear hzz
   go_wp2
   go_ret
   exact ⟨by rw [HE.out]; rfl,HB3.out⟩
 ·have hi2:¬ (i:Int) < (l.length:Int):=by omega
  have HE:=Lib.hid (show decide (l.Pairwise ppLt)=true from decide_eq_true (pairwise_of (R:=ppLt) (fun h k=>ppLt_trans h k) fun j hj=>hR.out j hj (by omega)))
  go_wp2
  go_ret
  exact ⟨by rw [HE.out]; rfl,hB.out⟩
set_option maxRecDepth 100000 in
set_option maxHeartbeats 3200000 in
theorem risingF_any (l:List Ft) (v:Value) (w:World) (hl:l.length≤1000000) (hv:ARd w v 3 (l.map ftC)) :
  Calls Tryz.prog 47 #[v,.func (.func 48) #[] #[]] w fun e w'=>e = .returned (.bool (decide (l.Pairwise fLt)))∧Below w.heap.size w w':=by
 obtain ⟨a,c,ev⟩:=hv.form
 rw [List.length_map] at ev
 subst ev
 have HV:=Lib.hid hv
 have HR0:=Lib.hid (show RisN fLt l 1 from fun j _ h=>absurd h (by omega))
 have HB0:=Lib.hid (Below.refl w.heap.size w)
 clear hv
 go_enter Tryz.func47,Tryz.ntmps47
 go_wp2
 go_loopw [5] (fun y wr=>∃ i:Nat,1≤i∧(i≤l.length∨i=1)∧y = .int .i64 i∧RowKit.Hid (RisN fLt l i)∧RowKit.Hid (Below w.heap.size w wr)) (fun y _=>l.length - (intOf y).toNat)
 case atStart=>exact ⟨1,Nat.le_refl _,.inr rfl,rfl,HR0,HB0⟩
 clear HR0 HB0
 obtain ⟨i,hi0,hi,rfl,hR,hB⟩:=hrel
 by_cases hil:i < l.length
 ·have hi2:(i:Int) < (l.length:Int):=by omega
  have hj:i - 1 < l.length:=by omega
  obtain ⟨b,o,c',ev,_,q0,q1,q2⟩:=(HV.out.later hB.out).ftAt i hil
  cases ev
  obtain ⟨b',o',c',ev,_,p0,p1,p2⟩:=(HV.out.later hB.out).ftAt (i - 1) hj
  cases ev
  have HN:=Lib.hid (fun h=>hR.out.next hil hi0 h)
  have HNO:=Lib.hid (fun (h:¬ fLt l[i - 1] l[i])=>show decide (l.Pairwise fLt)=false from decide_eq_false fun hp=>h (List.pairwise_iff_getElem.1 hp (i - 1) i hj hil (by omega)))
  have e1:IntKind.i64.wrap ((i:Int) - 1)=(i:Int) - 1:=IntWalk.i64_in _ (by omega)
  have e2:0≤(i:Int) - 1:=by omega
  have e3:((i:Int) - 1).toNat=i - 1:=by omega
  have e4:(i:Int) - 1 < (l.length:Int):=by omega
  have e5:(1:Int)≤(i:Int):=by omega
  obtain ⟨x,hx⟩:∃ x,l[i - 1]=x:=⟨_,rfl⟩
  obtain ⟨y,hy⟩:∃ y,l[i]=y:=⟨_,rfl⟩
  rw [hx] at p0 p1 p2 HN HNO
  rw [hy] at q0 q1 q2 HN HNO
  obtain ⟨x1,x2,x3⟩:=x
  obtain ⟨y1,y2,y3⟩:=y
  simp only at p0 q0 p1 q1 p2 q2
  have HLT:=Lib.hid (cfT_lt x1 x2 x3 y1 y2 y3)
  clear hx hy hj
  go_upto_region 4 with fail
  have HB2:=Lib.hid (below_undrew2 hB.out)
  go_still_tail 10,(by kernel_rfl)
  repeat still_step
  try refine wpStill_nil ?_
  try change wpList _ _ _ _ _ wr.drew
  go_wp2_with fail
  refine (byFault_any x1 x2 x3 y1 y2 y3 _).mono ?_
  rintro e w2 ⟨rfl,hg⟩
  have HB3:=Lib.hid (below_step HB2.out hg.below)
  clear hg hB p0 q0 p1 q1 p2 q2 e1 e2 e3 e4 e5
  obtain ⟨z,hz⟩:∃ z,cfT x1 x2 x3 y1 y2 y3=z:=⟨_,rfl⟩
  rw [hz] at HLT ⊢
  clear hz
  by_cases hzz:z < 0
  ·have d1:decide (0≤z)=false:=decide_eq_false (by omega)
   have HR2:=Lib.hid (HN.out (HLT.out.1 hzz))
   clear hzz hR
   go_wp2
   go_roundw
   case rel=>exact ⟨i + 1,by omega,by omega,by go_num,HR2,HB3⟩
   case measure=>simp [intOf]; omega
  ·have d1:decide (0≤z)=true:=decide_eq_true (by omega)
   have HE:=Lib.hid (HNO.out fun h=>hzz (HLT.out.2 h))
   clear hzz
   go_wp2
   go_ret
   exact ⟨by rw [HE.out]; rfl,HB3.out⟩
 ·have hi2:¬ (i:Int) < (l.length:Int):=by omega
  have HE:=Lib.hid (show decide (l.Pairwise fLt)=true from decide_eq_true (pairwise_of (R:=fLt) (fun h k=>fLt_trans h k) fun j hj=>hR.out j hj (by omega)))
  go_wp2
  go_ret
  exact ⟨by rw [HE.out]; rfl,hB.out⟩
end Go.Proofs.YteflhbfgpknabaaGreatDoor
namespace Go.Proofs.YteflhbfgpknabaaGreatDoor
open Go.RowKit Go.Shelf
set_option maxRecDepth 100000 in
set_option maxHeartbeats 1600000 in
theorem hasNot_any (v1 v2 v3 v4:Value) (S:Sp) (hc:(checkP S).2=0) (fp:Nat→Value) (w:World) (hsp:SpRd w v1 v2 v3 v4 fp S) (SB:Nat) (hb:Blk w SB 27 #[v1,v2,v3,v4]) (a t:Int) :
  Calls Tryz.prog 44 #[.agg #[.int .i64 a,.int .i64 t],.pointer (some ⟨SB,0,none⟩)] w fun e w'=>e = .returned (.bool !(decide (((a,t):Pp)∈allFrom 0 S.rs)))∧Below w.heap.size w w':=by
 have hb0:Below w.heap.size w (w.alloc (.cells #[.int .i64 a,.int .i64 t] 78)):=(Below.refl _ _).alloc (Nat.le_refl _) _
 have HB:=Lib.hid hb0
 obtain ⟨s0,s1,s2,s3⟩:=(hb.below hb0).four
 have HHAS:=Lib.hid (has_any v1 v2 v3 v4 S hc fp _ (hsp.later hb0) a t)
 clear hb hb0 hsp hc
 go_enter Tryz.func44,Tryz.ntmps44
 go_wp2_with fail
 refine HHAS.out.mono ?_
 rintro e W ⟨rfl,hb⟩
 have hb2:=Lib.hid (below_step HB.out hb)
 clear hb HHAS s0 s1 s2 s3
 go_wp2
 go_ret
 exact ⟨rfl,hb2.out⟩
theorem slice_inj {b o n c b' o' n' c':Nat} (h:Value.slice (some ⟨b,o,none⟩) n c = .slice (some ⟨b',o',none⟩) n' c'):b=b'∧o=o':=by
 injection h with h1
 injection h1 with h2
 injection h2 with h3 h4
 exact ⟨h3,h4⟩
theorem getBang {α:Type} [Inhabited α] {l:List α} {j:Nat} (hj:j < l.length):l[j]! = l[j]:=getElem!_pos l j hj
set_option maxRecDepth 100000 in
set_option maxHeartbeats 1600000 in
theorem noIx_pipes (a:Option Addr) (c:Nat) (fv:Value) (w:World) :
  Calls Tryz.prog 95 #[.slice a 0 c,fv] w fun e w'=>e = .returned (.int .i64 (-1))∧Below w.heap.size w w':=by
 have HB:=Lib.hid (Below.refl w.heap.size w)
 go_enter Tryz.func95,Tryz.ntmps95
 go_wp2
 go_loopw [8] (fun x wr=>x = .int .i64 0∧RowKit.Hid (Below w.heap.size w wr)) (fun _ _=>0)
 case atStart=>exact ⟨rfl,HB⟩
 obtain ⟨rfl,hB⟩:=hrel
 go_wp2
 go_ret
 exact ⟨rfl,hB.out⟩
set_option maxRecDepth 100000 in
set_option maxHeartbeats 1600000 in
theorem anyPipe_any (l:List Pp) (v:Value) (w:World) (hv:ARd w v 2 (l.map ppC)) (hl:l.length≤1000000) (p:Pp→Bool) (g:Nat) (lb:Array Value) (eg:∀ args w,(callFunc g args).run Tryz.prog w = .ok (.enter g args) w) (hp:PredBelow Tryz.prog g lb (fun x:Pp => .agg (ppC x).toArray) p w) :
  Calls Tryz.prog 43 #[v,.func (.func g) #[] lb] w fun e w'=>e = .returned (.bool (l.any p))∧Below w.heap.size w w':=by
 cases l with
 | nil =>
  obtain ⟨a,c,ev⟩:=hv.form
  have ev2:v = .slice a 0 c:=ev
  subst ev2
  have HI:=Lib.hid (fun W=>noIx_pipes a c (.func (.func g) #[] lb) W)
  clear hv hp ev
  go_enter Tryz.func43,Tryz.ntmps43
  go_wp2_with fail
  refine (HI.out _).mono ?_
  rintro e w' ⟨rfl,hb⟩
  have HB:=Lib.hid hb
  clear hb HI
  go_wp2
  go_ret
  exact ⟨rfl,HB.out⟩
 | cons x l =>
  obtain ⟨b,o,c,ev,hlt,_⟩:=hv.ppAt 0 (by simp)
  have h:=AnyQ.slices_ContainsFunc Tryz.anyPipe 2 (fun w=>by kernel_rfl) (fun w=>by kernel_rfl) ppC (fun _=>rfl) p g lb eg b o (x :: l).length c (x :: l) w hp (Nat.le_refl _) (by omega) hlt (by
   intro j hj i u hu
   obtain ⟨b',o',c',ev',_,hc⟩:=hv.at j (by simpa using hj)
   rw [ev] at ev'
   obtain ⟨rfl,rfl⟩:=slice_inj ev'
   rw [List.getElem_map] at hc
   rw [getBang hj] at hu
   exact hc i u hu)
  rw [List.take_length,← ev] at h
  exact h
set_option maxRecDepth 100000 in
set_option maxHeartbeats 1600000 in
theorem noIx_faults (a:Option Addr) (c:Nat) (fv:Value) (w:World) :
  Calls Tryz.prog 97 #[.slice a 0 c,fv] w fun e w'=>e = .returned (.int .i64 (-1))∧Below w.heap.size w w':=by
 have HB:=Lib.hid (Below.refl w.heap.size w)
 go_enter Tryz.func97,Tryz.ntmps97
 go_wp2
 go_loopw [8] (fun x wr=>x = .int .i64 0∧RowKit.Hid (Below w.heap.size w wr)) (fun _ _=>0)
 case atStart=>exact ⟨rfl,HB⟩
 obtain ⟨rfl,hB⟩:=hrel
 go_wp2
 go_ret
 exact ⟨rfl,hB.out⟩
set_option maxRecDepth 100000 in
set_option maxHeartbeats 1600000 in
theorem anyFault_any (l:List Ft) (v:Value) (w:World) (hv:ARd w v 3 (l.map ftC)) (hl:l.length≤1000000) (p:Ft→Bool) (g:Nat) (lb:Array Value) (eg:∀ args w,(callFunc g args).run Tryz.prog w = .ok (.enter g args) w) (hp:PredBelow Tryz.prog g lb (fun x:Ft => .agg (ftC x).toArray) p w) :
  Calls Tryz.prog 49 #[v,.func (.func g) #[] lb] w fun e w'=>e = .returned (.bool (l.any p))∧Below w.heap.size w w':=by
 cases l with
 | nil =>
  obtain ⟨a,c,ev⟩:=hv.form
  have ev2:v = .slice a 0 c:=ev
  subst ev2
  have HI:=Lib.hid (fun W=>noIx_faults a c (.func (.func g) #[] lb) W)
  clear hv hp ev
  go_enter Tryz.func49,Tryz.ntmps49
  go_wp2_with fail
  refine (HI.out _).mono ?_
  rintro e w' ⟨rfl,hb⟩
  have HB:=Lib.hid hb
  clear hb HI
  go_wp2
  go_ret
  exact ⟨rfl,HB.out⟩
 | cons x l =>
  obtain ⟨b,o,c,ev,hlt,_⟩:=hv.ftAt 0 (by simp)
  have h:=AnyQ.slices_ContainsFunc Tryz.anyFault 3 (fun w=>by kernel_rfl) (fun w=>by kernel_rfl) ftC (fun _=>rfl) p g lb eg b o (x :: l).length c (x :: l) w hp (Nat.le_refl _) (by omega) hlt (by
   intro j hj i u hu
   obtain ⟨b',o',c',ev',_,hc⟩:=hv.at j (by simpa using hj)
   rw [ev] at ev'
   obtain ⟨rfl,rfl⟩:=slice_inj ev'
   rw [List.getElem_map] at hc
   rw [getBang hj] at hu
   exact hc i u hu)
  rw [List.take_length,← ev] at h
  exact h
end Go.Proofs.YteflhbfgpknabaaGreatDoor
namespace Go.Proofs.YteflhbfgpknabaaGreatDoor
open Go.RowKit Go.Shelf
theorem run_eqFt (a b c x y z:Int) (w:World):(binOp .eql 74 (.agg #[.int .i64 a,.int .i64 b,.int .i64 c]) (.agg #[.int .i64 x,.int .i64 y,.int .i64 z])).run Tryz.prog w = .ok (.bool (a == x && (b == y && c == z))) w:=by
 rw [run_eql_struct]
 rw [run_equalIn_agg w 9999 74 _ _ (by kernel_rfl) (by kernel_rfl)]
 simp only [Program.fieldsOf,Tryz.underlying74]
 simp [go_sem,Tryz.underlying3,part]
 by_cases h1:a=x <;> by_cases h2:b=y <;> by_cases h3:c=z <;> simp [h1,h2,h3]
theorem ftEq:EqlAt Tryz.prog 74 (fun x:Ft => .agg (ftC x).toArray) (fun x y=>x == y):=by
 refine ⟨fun x y w=>?_,GuardAt.agg _ (by kernel_rfl)⟩
 obtain ⟨a,b,c⟩:=x
 obtain ⟨d,e,f⟩:=y
 refine (run_eqFt a b c d e f w).trans ?_
 congr 2
set_option maxRecDepth 100000 in
set_option maxHeartbeats 1600000 in
theorem noIn_any (a:Option Addr) (c:Nat) (k i t:Int) (w:World) :
  Calls Tryz.prog 53 #[.slice a 0 c,.agg #[.int .i64 k,.int .i64 i,.int .i64 t]] w fun e w'=>e = .returned (.bool false)∧Below w.heap.size w w':=by
 have hb0:Below w.heap.size w (w.alloc (.cells #[.int .i64 k,.int .i64 i,.int .i64 t] 74)):=(Below.refl _ _).alloc (Nat.le_refl _) _
 have HB:=Lib.hid hb0
 have HIX:=Lib.hid (fun (W:World)=>show Calls Tryz.prog 98 #[.slice a 0 c,.agg #[.int .i64 k,.int .i64 i,.int .i64 t]] W fun e w'=>e = .returned (.int .i64 (-1))∧Below W.heap.size W w' from by
  have HB1:=Lib.hid (show Below W.heap.size W (W.alloc (.cells #[.int .i64 k,.int .i64 i,.int .i64 t] 74)) from (Below.refl _ _).alloc (Nat.le_refl _) _)
  go_enter Tryz.func98,Tryz.ntmps98
  go_wp2
  go_loopw [8] (fun x wr=>x = .int .i64 0∧RowKit.Hid (Below W.heap.size W wr)) (fun _ _=>0)
  case atStart=>exact ⟨rfl,HB1⟩
  obtain ⟨rfl,hB⟩:=hrel
  go_wp2
  go_ret
  exact ⟨rfl,hB.out⟩)
 clear hb0
 go_enter Tryz.func53,Tryz.ntmps53
 go_wp2_with fail
 refine (HIX.out _).mono ?_
 rintro e w' ⟨rfl,hb⟩
 have HB2:=Lib.hid (below_step HB.out hb)
 clear hb
 go_wp2
 go_ret
 exact ⟨rfl,HB2.out⟩
theorem inFaults_any (l:List Ft) (v:Value) (x:Ft) (w:World) (hv:ARd w v 3 (l.map ftC)) (hl:l.length≤1000000) :
  Calls Tryz.prog 53 #[v,.agg #[.int .i64 x.1,.int .i64 x.2.1,.int .i64 x.2.2]] w fun e w'=>e = .returned (.bool (decide (x∈l)))∧Below w.heap.size w w':=by
 cases l with
 | nil =>
  obtain ⟨a,c,ev⟩:=hv.form
  have ev2:v = .slice a 0 c:=ev
  subst ev2
  simpa using noIn_any a c x.1 x.2.1 x.2.2 w
 | cons y l =>
  obtain ⟨b,o,c,ev,hlt,_⟩:=hv.ftAt 0 (by simp)
  have h:=AnyQ.slices_Contains Tryz.inFaults 3 (fun w=>by kernel_rfl) (fun w=>by kernel_rfl) ftC (fun _=>rfl) (fun x y=>x == y) ftEq b o (y :: l).length c (y :: l) x w (Nat.le_refl _) (by omega) (by
   intro j hj i u hu
   obtain ⟨b',o',c',ev',_,hc⟩:=hv.at j (by simpa using hj)
   rw [ev] at ev'
   obtain ⟨rfl,rfl⟩:=slice_inj ev'
   rw [List.getElem_map] at hc
   rw [getBang hj] at hu
   exact hc i u hu)
  rw [List.take_length,← ev,show ((y :: l).any fun z=>x == z)=decide (x∈y :: l) from by rw [Bool.eq_iff_iff,List.any_eq_true,decide_eq_true_iff]; exact ⟨fun ⟨z,hz,e⟩=>by rw [eq_of_beq e]; exact hz,fun h=>⟨x,h,beq_self_eq_true _⟩⟩] at h
  exact h
def oppR (k:Int):Int:=wrap64 (bits BinOp.xor IntKind.i64 (wrap64 (k - 1)) 1 + 1)
set_option maxRecDepth 100000 in
theorem oppR_any (k a t:Int) (w:World) :
  Calls Tryz.prog 54 #[.agg #[.int .i64 k,.int .i64 a,.int .i64 t]] w fun e w'=>e = .returned (.agg #[.int .i64 (oppR k),.int .i64 a,.int .i64 t])∧Below w.heap.size w w':=by
 have hb:=below_two w (.cells #[.int .i64 (oppR k),.int .i64 a,.int .i64 t] 74) (.cells #[.int .i64 (oppR k),.int .i64 a,.int .i64 t] 74)
 have HB:=Lib.hid hb
 have hk2:=Blk.new (w.alloc (.cells #[.int .i64 (oppR k),.int .i64 a,.int .i64 t] 74)) 74 #[.int .i64 (oppR k),.int .i64 a,.int .i64 t]
 rw [World.size_alloc] at hk2
 have HK:=Lib.hid hk2
 clear hb hk2
 go_enter Tryz.func54,Tryz.ntmps54
 go_wp2
 exact bodyPost_ret (v:=.agg #[.int .i64 (oppR k),.int .i64 a,.int .i64 t]) (results_cell_row rfl _ _ (w.heap.size + 1) 74 _ (0,0) _ rfl HK.out Tryz.underlying74 rfl (ft_size rfl)) rfl ⟨rfl,HB.out⟩
theorem oppR_is {k a t:Int} (hk:1≤k∧k≤6):(oppR k,a,t)=opp (k,a,t):=by
 have h:=opp_bits (a:=a) (t:=t) hk
 unfold oppR
 have h2:wrap64 (k - 1)=k - 1:=by
  have:k=1∨k=2∨k=3∨k=4∨k=5∨k=6:=by omega
  rcases this with rfl | rfl | rfl | rfl | rfl | rfl <;> decide +kernel
 rw [h2,h]
 rfl
set_option maxRecDepth 100000 in
set_option maxHeartbeats 1600000 in
theorem notValid_any (v1 v2 v3 v4:Value) (S:Sp) (hc:(checkP S).2=0) (fp:Nat→Value) (w:World) (hsp:SpRd w v1 v2 v3 v4 fp S) (SB:Nat) (hb:Blk w SB 27 #[v1,v2,v3,v4]) (k a t:Int) :
  Calls Tryz.prog 50 #[.agg #[.int .i64 k,.int .i64 a,.int .i64 t],.pointer (some ⟨SB,0,none⟩)] w fun e w'=>e = .returned (.bool !(ftOk S (k,a,t)))∧Below w.heap.size w w':=by
 have hb0:Below w.heap.size w (w.alloc (.cells #[.int .i64 k,.int .i64 a,.int .i64 t] 74)):=(Below.refl _ _).alloc (Nat.le_refl _) _
 have HB:=Lib.hid hb0
 obtain ⟨s0,s1,s2,s3⟩:=(hb.below hb0).four
 have HHAS:=Lib.hid (validD_any v1 v2 v3 v4 S hc fp _ (hsp.later hb0) k a t)
 clear hb hb0 hsp hc
 go_enter Tryz.func50,Tryz.ntmps50
 go_wp2_with fail
 refine HHAS.out.mono ?_
 rintro e W ⟨rfl,hb⟩
 have hb2:=Lib.hid (below_step HB.out hb)
 clear hb HHAS s0 s1 s2 s3
 go_wp2
 go_ret
 exact ⟨rfl,hb2.out⟩
theorem hold4b {w W W':World} {p0 p1 p2 p3:Addr} {u0 u1 u2 u3:Value} (h:Below w.heap.size w W∧W.cell? p0=some u0∧W.cell? p1=some u1∧W.cell? p2=some u2∧W.cell? p3=some u3) (hb:Below W.heap.size W W'):Below w.heap.size w W'∧W'.cell? p0=some u0∧W'.cell? p1=some u1∧W'.cell? p2=some u2∧W'.cell? p3=some u3 :=
 ⟨below_step h.1 hb,(hb.cell (cell_size h.2.1)).trans h.2.1,(hb.cell (cell_size h.2.2.1)).trans h.2.2.1,(hb.cell (cell_size h.2.2.2.1)).trans h.2.2.2.1,(hb.cell (cell_size h.2.2.2.2)).trans h.2.2.2.2⟩
set_option maxRecDepth 100000 in
set_option maxHeartbeats 1600000 in
theorem oppIn_any (l:List Ft) (v:Value) (w:World) (hv:ARd w v 3 (l.map ftC)) (hl:l.length≤1000000) (FB:Nat) (hb:Blk w FB 28 #[v]) (k a t:Int) :
  Calls Tryz.prog 52 #[.agg #[.int .i64 k,.int .i64 a,.int .i64 t],.pointer (some ⟨FB,0,none⟩)] w fun e w'=>e = .returned (.bool (decide (((oppR k,a,t):Ft)∈l)))∧Below w.heap.size w w':=by
 have hb0:Below w.heap.size w (w.alloc (.cells #[.int .i64 k,.int .i64 a,.int .i64 t] 74)):=(Below.refl _ _).alloc (Nat.le_refl _) _
 have HB:=Lib.hid hb0
 have s0:(w.alloc (.cells #[.int .i64 k,.int .i64 a,.int .i64 t] 74)).cell? ⟨FB,0,none⟩=some v:=(hb.below hb0).cell 0
 have HC:=Lib.hid (fun (W:World) (hb:Below w.heap.size w W)=>inFaults_any l v (oppR k,a,t) W (hv.later hb) hl)
 obtain ⟨av,cv,ev⟩:=hv.ftForm
 subst ev
 clear hb hb0 hv
 go_enter Tryz.func52,Tryz.ntmps52
 go_wp2_with fail
 have x0:=(Blk.new w 74 #[.int .i64 k,.int .i64 a,.int .i64 t]).cell 0
 have x1:=(Blk.new w 74 #[.int .i64 k,.int .i64 a,.int .i64 t]).cell 1
 have x2:=(Blk.new w 74 #[.int .i64 k,.int .i64 a,.int .i64 t]).cell 2
 simp only [List.getElem?_toArray,List.getElem?_cons_zero,List.getElem?_cons_succ] at x0 x1 x2
 generalize w.alloc (.cells #[.int .i64 k,.int .i64 a,.int .i64 t] 74)=W at *
 have hdr:=hold4b ⟨HB.out,s0,x0,x1,x2⟩ (show Below W.heap.size W W.drew from (Below.refl _ _).drew)
 clear HB s0 x0 x1 x2
 go_region_held3 (fun w'=>Below w.heap.size w w'∧w'.cell? ⟨FB,0,none⟩=some (.slice av l.length cv)∧w'.cell? ⟨w.heap.size,0,none⟩=some (.int .i64 k)∧w'.cell? ⟨w.heap.size,1,none⟩=some (.int .i64 a)∧w'.cell? ⟨w.heap.size,2,none⟩=some (.int .i64 t)) (first | exact hdr | assumption) (first | (go_at_call 54; (with_reducible refine (oppR_any k a t _).mono ?_); rintro e w2 ⟨rfl,hb2⟩; have hn:=hold4b hdr hb2; clear hb2) | (go_at_call 53; (with_reducible refine (HC.out _ hn.1).mono ?_); rintro e w3 ⟨rfl,hb3⟩; have hn3:=hold4b hn hb3; clear hb3))
 all_goals (go_wp2; go_ret; exact ⟨rfl,hn3.1⟩)
theorem any_opp {S:Sp} {F:List Ft} (h:∀ x∈F,ftOk S x=true):(F.any fun x=>decide (((oppR x.1,x.2):Ft)∈F))=conB F:=by
 unfold conB
 rw [Bool.eq_iff_iff,List.any_eq_true,List.any_eq_true]
 constructor
 ·rintro ⟨x,hx,h1⟩
  refine ⟨x,hx,?_⟩
  rw [show ((oppR x.1,x.2):Ft)=opp x from oppR_is (a:=x.2.1) (t:=x.2.2) (ftOk_kind (h x hx))] at h1
  exact h1
 ·rintro ⟨x,hx,h1⟩
  refine ⟨x,hx,?_⟩
  rw [show ((oppR x.1,x.2):Ft)=opp x from oppR_is (a:=x.2.1) (t:=x.2.2) (ftOk_kind (h x hx))]
  exact h1
theorem fltE_bad {S:Sp} {F:List Ft} (h:(checkP S).2≠0):fltE S F=(checkP S).2:=by unfold fltE; rw [if_pos h]
theorem fltE_long {S:Sp} {F:List Ft} (h:(checkP S).2=0) (hl:10 < F.length):fltE S F=3:=by unfold fltE; rw [if_neg (by omega),if_pos hl]
theorem fltE_arg {S:Sp} {F:List Ft} (h:(checkP S).2=0) (hl:¬ 10 < F.length) (ha:¬ (F.Pairwise fLt∧∀ x∈F,ftOk S x=true)):fltE S F=2:=by unfold fltE; rw [if_neg (by omega),if_neg hl,if_pos ha]
theorem fltE_twice {S:Sp} {F:List Ft} (h:(checkP S).2=0) (hl:¬ 10 < F.length) (ha:F.Pairwise fLt∧∀ x∈F,ftOk S x=true):fltE S F=if conB F=true then 8 else 0:=by unfold fltE; rw [if_neg (by omega),if_neg hl,if_neg (by simpa using ha)]
set_option maxRecDepth 100000 in
set_option maxHeartbeats 6400000 in
theorem faultsD_any (v1 v2 v3 v4:Value) (S:Sp) (ok:SpWk S) (fp:Nat→Value) (F:List Ft) (fv:Value) (hl:F.length≤1000000) (w:World) (ht:Tabs w) (hsp:SpRd w v1 v2 v3 v4 fp S) (hfv:ARd w fv 3 (F.map ftC)) :
  Calls Tryz.prog 20 #[.agg #[v1,v2,v3,v4],fv] w (NumR (fltE S F) w):=by
 obtain ⟨af,cf,ev⟩:=hfv.ftForm
 subst ev
 have HSP:=Lib.hid hsp
 have HF:=Lib.hid hfv
 obtain ⟨fl,hfl⟩:∃ fl,(checkP S).1=fl:=⟨_,rfl⟩
 obtain ⟨ce,hce⟩:∃ ce,(checkP S).2=ce:=⟨_,rfl⟩
 have hcv:ckV (checkP S) = .tuple #[.agg #[.int .i64 fl.1,.int .i64 fl.2.1,.int .i64 fl.2.2],.int .i64 ce]:=by unfold ckV; rw [hfl,hce]
 have HCE:=Lib.hid hce
 have b0:=(Blk.new w 27 #[v1,v2,v3,v4]).alloc (.cells #[.slice af F.length cf] 28)
 have b1:=Blk.new (w.alloc (.cells #[v1,v2,v3,v4] 27)) 28 #[.slice af F.length cf]
 rw [World.size_alloc] at b1
 have B0:=Lib.hid b0
 have B1:=Lib.hid b1
 have HB:=Lib.hid (below_two w (.cells #[v1,v2,v3,v4] 27) (.cells #[.slice af F.length cf] 28))
 have HCK:=Lib.hid (show Calls Tryz.prog 40 #[.agg #[v1,v2,v3,v4]] _ _ from (check_wk v1 v2 v3 v4 S ok _ (ht.below HB.out) fp (hsp.later HB.out)))
 rw [hcv] at HCK
 clear hsp ok hcv hfl hce b0 b1 ht hfv
 go_enter Tryz.func20,Tryz.ntmps20
 go_wp2_with fail
 refine HCK.out.mono ?_
 generalize (w.alloc (.cells #[v1,v2,v3,v4] 27)).alloc (.cells #[.slice af F.length cf] 28)=W at *
 rintro e W1 ⟨rfl,hb1⟩
 clear HCK
 obtain ⟨W2,hw2⟩:∃ W2,W1.alloc (.cells #[.int .i64 fl.1,.int .i64 fl.2.1,.int .i64 fl.2.2] 69)=W2:=⟨_,rfl⟩
 have hb2:Below W1.heap.size W1 W2:=by rw [← hw2]; exact (Below.refl _ _).alloc (Nat.le_refl _) _
 have HB2:=Lib.hid (below_step (below_step HB.out hb1) hb2)
 have C0:=Lib.hid ((B0.out.below hb1).below hb2)
 have C1:=Lib.hid ((B1.out.below hb1).below hb2)
 clear hb1 hb2 HB B0 B1
 have h0:W2.cell? ⟨w.heap.size + 1,0,none⟩=some (.slice af F.length cf):=C1.out.cell 0
 by_cases hz:ce=0
 case neg =>
  have q1:(ce == 0)=false:=by simpa using hz
  have q2:(ce != 0)=true:=by simpa using hz
  have HE:=Lib.hid (show fltE S F=ce by rw [fltE_bad (by rw [HCE.out]; exact hz),HCE.out])
  clear hz
  go_wp2
  try rw [hw2]
  go_ret
  exact numR HE.out HB2.out
 subst hz
 by_cases hlen:10 < F.length
 ·have d1:decide (10 < F.length)=true:=decide_eq_true hlen
  have d2:decide ((10:Int) < (F.length:Int))=true:=decide_eq_true (by omega)
  have HE:=Lib.hid (fltE_long HCE.out hlen)
  clear hlen
  go_wp2
  try rw [hw2]
  go_ret
  exact numR HE.out HB2.out
 have d1:decide (10 < F.length)=false:=decide_eq_false hlen
 have d2:decide ((10:Int) < (F.length:Int))=false:=decide_eq_false (by omega)
 have HL:=Lib.hid hlen
 clear hlen
 have hRS:=risingF_any F (.slice af F.length cf) W2 hl (HF.out.later HB2.out)
 go_wp2_with fail
 try rw [hw2]
 refine hRS.mono ?_
 rintro e W3 ⟨rfl,hb3⟩
 have HB3:=Lib.hid (below_step HB2.out hb3)
 have D0:=Lib.hid (C0.out.below hb3)
 have D1:=Lib.hid (C1.out.below hb3)
 have g0:W3.cell? ⟨w.heap.size + 1,0,none⟩=some (.slice af F.length cf):=D1.out.cell 0
 clear hb3 HB2 C0 C1 h0 hRS hw2
 by_cases hri:F.Pairwise fLt
 case neg =>
  have e1:decide (F.Pairwise fLt)=false:=decide_eq_false hri
  have HE:=Lib.hid (fltE_arg HCE.out HL.out (fun h=>hri h.1))
  clear hri
  go_wp2
  go_ret
  exact numR HE.out HB3.out
 have e1:decide (F.Pairwise fLt)=true:=decide_eq_true hri
 have HRI:=Lib.hid hri
 have eg1:∀ args w,(callFunc 50 args).run Tryz.prog w = .ok (.enter 50 args) w:=enters_of Tryz.func50 (by kernel_rfl) rfl
 have hA1:=Lib.hid (anyFault_any F (.slice af F.length cf) W3 (HF.out.later HB3.out) hl (fun x=>!(ftOk S x)) 50 #[.pointer (some ⟨w.heap.size,0,none⟩)] eg1 (fun W x hb=>(notValid_any v1 v2 v3 v4 S HCE.out fp W (HSP.out.later (below_step HB3.out hb)) w.heap.size (D0.out.below hb) x.1 x.2.1 x.2.2).mono fun _ _ h=>⟨h.1,below_step hb h.2⟩))
 clear hri eg1
 go_wp2_with fail
 refine hA1.out.mono ?_
 rintro e W4 ⟨rfl,hb4⟩
 have HB4:=Lib.hid (below_step HB3.out hb4)
 have E1:=Lib.hid (D1.out.below hb4)
 have f0:W4.cell? ⟨w.heap.size + 1,0,none⟩=some (.slice af F.length cf):=E1.out.cell 0
 clear hb4 HB3 D0 D1 g0 hA1
 by_cases hok:∀ x∈F,ftOk S x=true
 case neg =>
  have e2:(F.any fun x=>!(ftOk S x))=true:=by
   rw [List.any_eq_true]
   exact Classical.byContradiction fun h=>hok fun x hx=>by
    cases hv:ftOk S x with
    | true=>rfl
    | false=>exact absurd ⟨x,hx,by rw [hv]; rfl⟩ h
  have HE:=Lib.hid (fltE_arg HCE.out HL.out (fun h=>hok h.2))
  clear hok
  go_wp2
  go_ret
  exact numR HE.out HB4.out
 have e2:(F.any fun x=>!(ftOk S x))=false:=by
  rw [List.any_eq_false]
  intro x hx
  rw [hok x hx]
  decide
 have HOK:=Lib.hid hok
 have eg2:∀ args w,(callFunc 52 args).run Tryz.prog w = .ok (.enter 52 args) w:=enters_of Tryz.func52 (by kernel_rfl) rfl
 have hA2:=Lib.hid (anyFault_any F (.slice af F.length cf) W4 (HF.out.later HB4.out) hl (fun x=>decide (((oppR x.1,x.2):Ft)∈F)) 52 #[.pointer (some ⟨w.heap.size + 1,0,none⟩)] eg2 (fun W x hb=>(oppIn_any F (.slice af F.length cf) W (HF.out.later (below_step HB4.out hb)) hl (w.heap.size + 1) (E1.out.below hb) x.1 x.2.1 x.2.2).mono fun _ _ h=>⟨h.1,below_step hb h.2⟩))
 rw [any_opp hok] at hA2
 clear hok eg2
 go_wp2_with fail
 refine hA2.out.mono ?_
 rintro e W5 ⟨rfl,hb5⟩
 have HB5:=Lib.hid (below_step HB4.out hb5)
 clear hb5 HB4 E1 f0 hA2
 have HE:=fltE_twice HCE.out HL.out ⟨HRI.out,HOK.out⟩
 cases hcb:conB F with
 | true =>
  rw [hcb] at HE
  have HE2:=Lib.hid (HE.trans (if_pos rfl))
  clear HE hcb
  go_wp2
  go_ret
  exact numR HE2.out HB5.out
 | false =>
  rw [hcb] at HE
  have HE2:=Lib.hid (HE.trans (if_neg (by decide)))
  clear HE hcb
  go_wp2
  go_ret
  exact numR HE2.out HB5.out
end Go.Proofs.YteflhbfgpknabaaGreatDoor
namespace Go.Proofs.YteflhbfgpknabaaGreatDoor
open Go.RowKit Go.Shelf
set_option maxRecDepth 100000 in
set_option maxHeartbeats 3200000 in
theorem in30_any (l:List Ft) (v:Value) (a b c:Int) (w:World) (hl:l.length≤1000000) (hv:ARd w v 3 (l.map ftC)) :
  Calls Tryz.prog 65 #[v,.agg #[.int .i64 a,.int .i64 b,.int .i64 c]] w fun e w'=>e = .returned (.bool (decide (((a,b,c):Ft)∈l)))∧Below w.heap.size w w':=by
 obtain ⟨av,cv,ev⟩:=hv.ftForm
 subst ev
 have hb0:Below w.heap.size w (w.alloc (.cells #[.int .i64 a,.int .i64 b,.int .i64 c] 74)):=(Below.refl _ _).alloc (Nat.le_refl _) _
 have HB0:=Lib.hid hb0
 have HK0:=Lib.hid (Blk.new w 74 #[.int .i64 a,.int .i64 b,.int .i64 c])
 have HV:=Lib.hid hv
 have HN0:=Lib.hid (show ∀ j (hj:j < l.length),j < 0→l[j]≠(a,b,c) from fun _ _ h=>absurd h (Nat.not_lt_zero _))
 clear hv hb0
 go_enter Tryz.func65,Tryz.ntmps65
 go_wp2
 generalize w.alloc (.cells #[.int .i64 a,.int .i64 b,.int .i64 c] 74)=W0 at *
 go_loopw [5] (fun x wr=>∃ i:Nat,i≤l.length∧x = .int .i64 i∧RowKit.Hid (∀ j (hj:j < l.length),j < i→l[j]≠(a,b,c))∧RowKit.Hid (Below w.heap.size w wr)∧RowKit.Hid (Blk wr w.heap.size 74 #[.int .i64 a,.int .i64 b,.int .i64 c])) (fun x _=>l.length - (intOf x).toNat)
 case atStart=>exact ⟨0,Nat.zero_le _,rfl,HN0,HB0,HK0⟩
 clear HN0 HB0 HK0
 obtain ⟨i,hi,rfl,hN,hB,hK⟩:=hrel
 by_cases hil:i < l.length
 ·have hi2:(i:Int) < (l.length:Int):=by omega
  obtain ⟨bb,o,c',ev,_,q0,q1,q2⟩:=(HV.out.later hB.out).ftAt i hil
  cases ev
  obtain ⟨z0,z1,z2⟩:wr.cell? ⟨w.heap.size,0,none⟩=some (.int .i64 a)∧wr.cell? ⟨w.heap.size,1,none⟩=some (.int .i64 b)∧wr.cell? ⟨w.heap.size,2,none⟩=some (.int .i64 c):=⟨hK.out.cell 0,hK.out.cell 1,hK.out.cell 2⟩
  have HNX:=Lib.hid (fun (h:l[i]≠(a,b,c))=>show ∀ j (hj:j < l.length),j < i + 1→l[j]≠(a,b,c) from fun j hj hji=>by
   by_cases e:j=i
   ·subst e; exact h
   ·exact hN.out j hj (by omega))
  have HYE:=Lib.hid (fun (h:l[i]=(a,b,c))=>show decide (((a,b,c):Ft)∈l)=true from decide_eq_true (by rw [← h]; exact List.getElem_mem hil))
  obtain ⟨x,hx⟩:∃ x,l[i]=x:=⟨_,rfl⟩
  rw [hx] at q0 q1 q2 HNX HYE
  obtain ⟨x1,x2,x3⟩:=x
  simp only at q0 q1 q2
  have heq:=run_eqFt x1 x2 x3 a b c
  have HBE:=Lib.hid (show (x1 == a && (x2 == b && x3 == c))=true ↔ ((x1,x2,x3):Ft)=(a,b,c) from by
   simp only [Bool.and_eq_true,beq_iff_eq,Prod.mk.injEq])
  obtain ⟨q,hq⟩:∃ q,(x1 == a && (x2 == b && x3 == c))=q:=⟨_,rfl⟩
  rw [hq] at heq HBE
  clear hx hq hN
  go_upto_region 4 with fail
  go_quiet (fail)
  have HB2:=Lib.hid (below_drewN hB.out nq)
  have HK2:=Lib.hid (hK.out.below (below_drewN (Below.refl wr.heap.size wr) nq))
  clear hB hK q0 q1 q2 z0 z1 z2 heq
  cases q with
  | true =>
   have HE:=Lib.hid (HYE.out (HBE.out.1 rfl))
   go_wp2
   go_ret
   exact ⟨by rw [HE.out]; rfl,HB2.out⟩
  | false =>
   have HN2:=Lib.hid (HNX.out fun h=>absurd (HBE.out.2 h) (by decide))
   go_wp2
   go_roundw
   case rel=>exact ⟨i + 1,by omega,by go_num,HN2,HB2,HK2⟩
   case measure=>simp [intOf]; omega
 ·have hi2:¬ (i:Int) < (l.length:Int):=by omega
  have HE:=Lib.hid (show decide (((a,b,c):Ft)∈l)=false from decide_eq_false fun h=>by
   obtain ⟨j,hj,e⟩:=List.getElem_of_mem h
   exact hN.out j hj (by omega) e)
  go_wp2
  go_ret
  exact ⟨by rw [HE.out]; rfl,hB.out⟩
theorem con_odd {F:List Ft} (h:∀ x∈F,1≤x.1∧x.1≤6):conB F=F.any fun x=>decide (x.1 % 2=1) && decide (((x.1 + 1,x.2):Ft)∈F):=by
 unfold conB
 rw [Bool.eq_iff_iff,List.any_eq_true,List.any_eq_true]
 constructor
 ·rintro ⟨x,hx,h1⟩
  have h1:=of_decide_eq_true h1
  unfold opp at h1
  by_cases ho:x.1 % 2=1
  ·rw [if_pos ho] at h1
   exact ⟨x,hx,by rw [Bool.and_eq_true,decide_eq_true_iff,decide_eq_true_iff]; exact ⟨ho,h1⟩⟩
  ·rw [if_neg ho] at h1
   have hk:=h x hx
   refine ⟨_,h1,?_⟩
   rw [Bool.and_eq_true,decide_eq_true_iff,decide_eq_true_iff]
   refine ⟨by simp only; omega,?_⟩
   simp only
   rw [show x.1 - 1 + 1=x.1 by omega]
   exact hx
 ·rintro ⟨x,hx,h1⟩
  rw [Bool.and_eq_true,decide_eq_true_iff,decide_eq_true_iff] at h1
  refine ⟨x,hx,decide_eq_true ?_⟩
  unfold opp
  rw [if_pos h1.1]
  exact h1.2
set_option maxRecDepth 100000 in
set_option maxHeartbeats 3200000 in
theorem contra30_any (F:List Ft) (v:Value) (w:World) (hF:∀ x∈F,1≤x.1∧x.1≤6) (hl:F.length≤1000000) (hv:ARd w v 3 (F.map ftC)) :
  Calls Tryz.prog 30 #[v] w fun e w'=>e = .returned (.bool (conB F))∧Below w.heap.size w w':=by
 rw [con_odd hF]
 obtain ⟨av,cv,ev⟩:=hv.ftForm
 subst ev
 have HV:=Lib.hid hv
 have HF:=Lib.hid hF
 have HB0:=Lib.hid (Below.refl w.heap.size w)
 have HIN:=Lib.hid (fun (W:World) (hb:Below w.heap.size w W) (a b c:Int)=>in30_any F (.slice av F.length cv) a b c W hl (hv.later hb))
 have HN0:=Lib.hid (show (F.take 0).any (fun x=>decide (x.1 % 2=1) && decide (((x.1 + 1,x.2):Ft)∈F))=false from rfl)
 clear hv hF
 go_enter Tryz.func30,Tryz.ntmps30
 go_wp2
 go_loopw [3] (fun x wr=>∃ i:Nat,i≤F.length∧x = .int .i64 i∧RowKit.Hid ((F.take i).any (fun x=>decide (x.1 % 2=1) && decide (((x.1 + 1,x.2):Ft)∈F))=false)∧RowKit.Hid (Below w.heap.size w wr)) (fun x _=>F.length - (intOf x).toNat)
 case atStart=>exact ⟨0,Nat.zero_le _,rfl,HN0,HB0⟩
 clear HN0 HB0
 obtain ⟨i,hi,rfl,hN,hB⟩:=hrel
 by_cases hil:i < F.length
 ·have hi2:(i:Int) < (F.length:Int):=by omega
  obtain ⟨bb,o,c',ev,hbl,q0,q1,q2⟩:=(HV.out.later hB.out).ftAt i hil
  cases ev
  have HK:=HF.out _ (List.getElem_mem hil)
  have HNX:=Lib.hid (show (F.take (i + 1)).any (fun x=>decide (x.1 % 2=1) && decide (((x.1 + 1,x.2):Ft)∈F))=(decide (F[i].1 % 2=1) && decide (((F[i].1 + 1,F[i].2):Ft)∈F)) from by
   rw [List.take_succ_eq_append_getElem hil,List.any_append,hN.out,Bool.false_or,List.any_cons,List.any_nil,Bool.or_false])
  have HYE:=Lib.hid (fun (h:(decide (F[i].1 % 2=1) && decide (((F[i].1 + 1,F[i].2):Ft)∈F))=true)=>show F.any (fun x=>decide (x.1 % 2=1) && decide (((x.1 + 1,x.2):Ft)∈F))=true from List.any_eq_true.2 ⟨_,List.getElem_mem hil,h⟩)
  obtain ⟨x,hx⟩:∃ x,F[i]=x:=⟨_,rfl⟩
  rw [hx] at q0 q1 q2 HNX HYE HK
  obtain ⟨x1,x2,x3⟩:=x
  simp only at q0 q1 q2 HK
  have e1:IntKind.i64.wrap (x1 + 1)=x1 + 1:=IntWalk.i64_in _ (by omega)
  have hx0:0≤x1:=by omega
  have hx6:x1≤6:=HK.2
  clear hx hN
  go_upto_region 6 with fail
  have hb4:Below wr.heap.size wr (wr.alloc (.cells #[.int .i64 (x1 + 1),.int .i64 x2,.int .i64 x3] 74)):=(Below.refl _ wr).alloc (Nat.le_refl _) _
  have HB4:=Lib.hid (below_step hB.out hb4)
  have hk4:=Blk.new wr 74 #[.int .i64 (x1 + 1),.int .i64 x2,.int .i64 x3]
  obtain ⟨y0,y1,y2⟩:_∧_∧_:=⟨hk4.cell 0,hk4.cell 1,hk4.cell 2⟩
  simp only [List.getElem?_toArray,List.getElem?_cons_zero,List.getElem?_cons_succ] at y0 y1 y2
  replace q0:=(hb4.cell (cell_size q0)).trans q0
  obtain ⟨X,hXe⟩:∃ X,wr.heap.size=X:=⟨_,rfl⟩
  rw [hXe] at y0 y1 y2 ⊢
  generalize wr.alloc (.cells #[.int .i64 (x1 + 1),.int .i64 x2,.int .i64 x3] 74)=W4 at *
  clear hb4 hk4 hXe hB q1 q2
  have ht:Int.tmod x1 2=x1 % 2:=Int.tmod_eq_emod_of_nonneg hx0
  by_cases ho:x1 % 2=1
  ·have ho2:(x1 % 2 == 1)=true:=by rw [ho]; rfl
   have hdo:decide (x1 % 2=1)=true:=decide_eq_true ho
   have HNX2:=Lib.hid (HNX.out.trans (by rw [hdo,Bool.true_and]))
   have HYE2:=Lib.hid (fun (h:decide (((x1 + 1,x2,x3):Ft)∈F)=true)=>HYE.out (by rw [hdo,Bool.true_and]; exact h))
   clear ho hdo HNX HYE
   go_wp2_with fail
   refine (HIN.out _ HB4.out (x1 + 1) x2 x3).mono ?_
   rintro e W5 ⟨rfl,hb5⟩
   have HB5:=Lib.hid (below_step HB4.out hb5)
   clear hb5 HB4 y0 y1 y2 q0
   obtain ⟨q,hq⟩:∃ q,decide (((x1 + 1,x2,x3):Ft)∈F)=q:=⟨_,rfl⟩
   rw [hq] at HNX2 HYE2 ⊢
   clear hq
   cases q with
   | true =>
    have HE:=Lib.hid (HYE2.out rfl)
    go_wp2
    go_ret
    exact ⟨by rw [HE.out]; rfl,HB5.out⟩
   | false =>
    go_wp2
    go_roundw
    case rel=>exact ⟨i + 1,by omega,by go_num,HNX2,HB5⟩
    case measure=>simp [intOf]; omega
  ·have ho2:(x1 % 2 == 1)=false:=by rw [beq_eq_false_iff_ne]; exact ho
   have HNX2:=Lib.hid (HNX.out.trans (by rw [decide_eq_false ho,Bool.false_and]))
   clear ho HNX HYE
   go_wp2
   go_roundw
   case rel=>exact ⟨i + 1,by omega,by go_num,HNX2,HB4⟩
   case measure=>simp [intOf]; omega
 ·have hi2:¬ (i:Int) < (F.length:Int):=by omega
  have hie:i=F.length:=by omega
  have HE:=Lib.hid (show F.any (fun x=>decide (x.1 % 2=1) && decide (((x.1 + 1,x.2):Ft)∈F))=false by have:=hN.out; rwa [hie,List.take_length] at this)
  clear hie
  go_wp2
  go_ret
  exact ⟨by rw [HE.out]; rfl,hB.out⟩
end Go.Proofs.YteflhbfgpknabaaGreatDoor
