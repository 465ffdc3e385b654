/-
  A part of the proof: VX,VY,VZ,DX,WQ.
-/
import Derived.Test.YteflhbfgpknabaaGreatDoorB01
import Derived.Test.YteflhbfgpknabaaGreatDoorB07
import Derived.Test.YteflhbfgpknabaaGreatDoorL12
import Derived.Shelf.SlicesE.IndexFunc
import Derived.BigQuiet
import Derived.Deep.QuietTactic
import Derived.Test.YteflhbfgpknabaaGreatDoorL21
import Derived.Test.YteflhbfgpknabaaGreatDoorL08
import Derived.Test.YteflhbfgpknabaaGreatDoorB04
set_option maxRecDepth 100000
set_option maxHeartbeats 12800000
namespace Go.Proofs.YteflhbfgpknabaaGreatDoor
open Go.Lib (hid)
open Go.RowKit Go.Shelf
theorem drewN_add (w:World) (a b:Nat):(w.drewN a).drewN b=w.drewN (a+b):=by
 induction b with
 | zero=>rfl
 | succ b ih=>simp only [World.drewN,Nat.add_assoc] at *
theorem ppFormX {w:World} {v:Value} {l:List Pp} (h:ARd w v 2 (l.map ppC)):∃ a c,v = .slice a l.length c:=by
 obtain ⟨a,c,e⟩:=h.form
 exact ⟨a,c,by simpa using e⟩
theorem eqP_any (a b:List Pp) (va vb:Value) (w:World) (ha:ARd w va 2 (a.map ppC)) (hb:ARd w vb 2 (b.map ppC)) (hl:a.length≤1000000) (sb:Bool) (hsb:a=b↔sb=true) :
  Calls Tryz.prog 101 #[va,vb] w fun e w'=>e = .returned (.bool sb)∧∃ q,w'=w.drewN q:=by
 obtain ⟨aa,ca,eva⟩:=ppFormX ha
 obtain ⟨ab,cb,evb⟩:=ppFormX hb
 subst eva evb
 have HA:=hid ha
 have HB:=hid hb
 have HSB:=hid hsb
 clear ha hb hsb
 go_enter Tryz.func101,Tryz.ntmps101
 by_cases hln:a.length=b.length
 case neg =>
  have q1:((a.length:Int)==(b.length:Int))=false:=by rw [beq_eq_false_iff_ne];omega
  have q2:(a.length==b.length)=false:=by rw [beq_eq_false_iff_ne];exact hln
  have HE:Hid (sb=false):=hid (by
   cases sb with
   | false=>rfl
   | true=>exact absurd (congrArg List.length (HSB.out.2 rfl)) hln)
  clear hln
  go_wp2
  go_ret
  exact ⟨by rw [HE.out];rfl,0,rfl⟩
 have q1:((a.length:Int)==(b.length:Int))=true:=by rw [beq_iff_eq];omega
 have HLN:=hid hln
 have HV0:Hid (∀ j (h1:j<a.length) (h2:j<b.length),j<0→a[j]=b[j]):=hid (fun j _ _ h=>absurd h (Nat.not_lt_zero _))
 obtain ⟨bl,hbl⟩:∃ n,b.length=n:=⟨_,rfl⟩
 rw [hbl] at q1 ⊢
 have q2:(a.length==bl)=true:=by rw [beq_iff_eq];omega
 have HBL:=hid hbl
 have HW0:=hid (show ∃ q,w=w.drewN q from ⟨0,rfl⟩)
 clear hln hbl
 go_wp2
 clear q1 q2
 go_loopw [13] (fun x wr=>∃ i:Nat,i≤a.length∧x = .int .i64 i∧Hid (∀ j (h1:j<a.length) (h2:j<b.length),j<i→a[j]=b[j])∧Hid (∃ q,wr=w.drewN q)) (fun x _=>a.length-(intOf x).toNat)
 case atStart=>exact ⟨0,Nat.zero_le _,rfl,HV0,HW0⟩
 clear HV0 HW0
 obtain ⟨i,hi,rfl,hV,hW⟩:=hrel
 have hbw:Below w.heap.size w wr:=by
  obtain ⟨q,rfl⟩:=hW.out
  exact below_drewN (Below.refl _ _) q
 by_cases hil:i<a.length
 ·have hi2:(i:Int)<(a.length:Int):=by omega
  have hib:i<b.length:=by rw [← HLN.out];exact hil
  have hi3:(i:Int)<(bl:Int):=by have:=HBL.out;omega
  obtain ⟨b1,o1,c1,ev,hbl,k0,k1⟩:=(HA.out.later hbw).ppAt i hil
  cases ev
  obtain ⟨b2,o2,c2,ev,hbl2,m0,m1⟩:=(HB.out.later hbw).ppAt i hib
  rw [HBL.out] at ev
  cases ev
  have HX:=hid (show a[i]=b[i]→∀ j (h1:j<a.length) (h2:j<b.length),j<i+1→a[j]=b[j] from fun h j h1 h2 hj=>by
   rcases Nat.lt_or_ge j i with q | q
   ·exact hV.out j h1 h2 q
   ·have:j=i:=by omega
    subst this
    exact h)
  have HY:=hid (show a[i]≠b[i]→sb=false from fun h=>by
   cases sb with
   | false=>rfl
   | true=>exact absurd (by have:=HSB.out.2 rfl;subst this;rfl) h)
  obtain ⟨⟨x0,x1⟩,hx⟩:∃ x,a[i]=x:=⟨_,rfl⟩
  obtain ⟨⟨y0,y1⟩,hy⟩:∃ y,b[i]=y:=⟨_,rfl⟩
  rw [hx] at k0 k1 HX HY
  rw [hy] at m0 m1 HX HY
  dsimp only at k0 k1 m0 m1
  clear hx hy hV hbl hbl2 hib hbw
  obtain ⟨bb,hbb⟩:∃ bb,decide (((x0,x1):Pp)=(y0,y1))=bb:=⟨_,rfl⟩
  have hne:=fun W=>nePp hbb W
  dsimp only at hne
  cases bb with
  | true =>
   have HN:=hid (HX.out (of_decide_eq_true hbb))
   clear hbb HX HY
   go_upto_region 6 with fail
   go_quiet (fail)
   have HW9:=hid (show ∃ q,wr.drewN nq=w.drewN q from by obtain ⟨q,rfl⟩:=hW.out;exact ⟨_,drewN_add w q nq⟩)
   go_wp2
   go_roundw
   case rel=>exact ⟨i+1,by omega,by go_num,HN,HW9⟩
   case measure=>simp [intOf];omega
  | false =>
   have HN:=hid (HY.out (of_decide_eq_false hbb))
   clear hbb HX HY
   go_upto_region 6 with fail
   go_quiet (fail)
   have HW9:=hid (show ∃ q,wr.drewN nq=w.drewN q from by obtain ⟨q,rfl⟩:=hW.out;exact ⟨_,drewN_add w q nq⟩)
   go_wp2
   go_ret
   exact ⟨by rw [HN.out];rfl,HW9.out⟩
 ·have hi2:¬ (i:Int)<(a.length:Int):=by omega
  have HN:=hid (HSB.out.1 (List.ext_getElem HLN.out (fun j h1 h2=>hV.out j h1 h2 (by omega))))
  clear hV hbw
  go_wp2
  go_ret
  exact ⟨by rw [HN.out];rfl,hW.out⟩
theorem isClass_any (m c:List Pp) (XB:Nat) (xv cv:Value) (w:World) (hxb:Blk w XB 50 #[xv]) (hm:ARd w xv 2 (m.map ppC)) (hc:ARd w cv 2 (c.map ppC)) (hl:m.length≤1000000) (sb:Bool) (hsb:m=c↔sb=true) :
  Calls Tryz.prog 100 #[cv,.pointer (some ⟨XB,0,none⟩)] w fun e w'=>e = .returned (.bool sb)∧∃ q,w'=w.drewN q:=by
 have HE:=hid (eqP_any m c xv cv w hm hc hl sb hsb)
 obtain ⟨xa,xn,rfl⟩:=ppFormX hm
 obtain ⟨ca,cn,rfl⟩:=ppFormX hc
 have x0:w.cell? ⟨XB,0,none⟩=some (.slice xa m.length xn):=hxb.cell 0
 clear hxb hm hc hsb
 go_enter Tryz.func100,Tryz.ntmps100
 go_wp2_with fail
 refine HE.out.mono ?_
 rintro e w' ⟨rfl,hq⟩
 have HQ:=hid hq
 clear hq HE x0
 go_wp2
 go_ret
 exact ⟨rfl,HQ.out⟩
theorem ixHeard_any (m:List Pp) (C:List (List Pp)) (hl:m.length≤1000000) (hC:C.length≤1000000) (XB:Nat) (xv hv:Value) (gh:Nat→Value) (base X:Nat) (w:World) (hxb:Blk w XB 50 #[xv]) (hm:ARd w xv 2 (m.map ppC)) (hr:w.ownsRow base 50 1 hv C.length ((List.range C.length).map gh)) (hcs:∀ i (hi:i<C.length),w.ownsRow X 78 2 (gh i) C[i].length (ppCs C[i])) :
  Calls Tryz.prog 99 #[hv,.func (.func 100) #[] #[.pointer (some ⟨XB,0,none⟩)]] w fun e w'=>∃ n:Int,e = .returned (.int .i64 n)∧((n = -1∧m ∉ C)∨∃ i:Nat,∃ hi:i<C.length,n=i∧C[i]=m)∧Below w.heap.size w w':=by
 rcases hr.2 with ⟨hv',h0⟩ | ⟨b,cap,cur,hv',hbg,hg,hcap,hmx,hsz,hxs⟩
 ·have hl0:C=[]:=List.length_eq_zero_iff.1 h0
  subst hl0
  subst hv'
  refine (AnyE.slices_IndexFunc_empty Tryz.ixHeard none 0 _ w).mono ?_
  rintro e w' ⟨rfl,rfl⟩
  exact ⟨-1,rfl,.inl ⟨rfl,List.not_mem_nil⟩,Below.refl _ _⟩
 ·subst hv'
  by_cases hpos:C.length=0
  ·have hl0:C=[]:=List.length_eq_zero_iff.1 hpos
   subst hl0
   refine (AnyE.slices_IndexFunc_empty Tryz.ixHeard (some ⟨b,0,none⟩) cap _ w).mono ?_
   rintro e w' ⟨rfl,rfl⟩
   exact ⟨-1,rfl,.inl ⟨rfl,List.not_mem_nil⟩,Below.refl _ _⟩
  ·haveI:Inhabited (Fin C.length):=⟨⟨0,by omega⟩⟩
   have eg:∀ args w,(callFunc 100 args).run Tryz.prog w = .ok (.enter 100 args) w:=enters_of Tryz.func100 (by kernel_rfl) rfl
   have hfl:(List.finRange C.length).length=C.length:=List.length_finRange
   have hget:∀ j (hj:j<C.length),(List.finRange C.length)[j]! = ⟨j,hj⟩:=fun j hj=>by
    rw [getElem!_pos _ j (by rw [hfl];exact hj)]
    simp
   have hcells:∀ j,j<C.length→w.cell? ⟨b,0+j,none⟩=some (gh j):=fun j hj=>by
    have h1:=congrArg (fun l=>l[j]?) hxs
    simp only [List.getElem?_take,Array.getElem?_toList,Nat.mul_one] at h1
    rw [if_pos (by omega)] at h1
    rw [Nat.zero_add,Blk.cell hg j,h1,List.getElem?_map,List.getElem?_range hj]
    rfl
   have hcon:=AnyE.slices_IndexFunc Tryz.ixHeard (fun i:Fin C.length=>gh i.1) (fun i=>decide (m=C[i])) 100 #[.pointer (some ⟨XB,0,none⟩)] eg b 0 C.length cap (List.finRange C.length) w (fun W i hb=>isClass_any m C[i] XB xv (gh i.1) W (hxb.below hb) (hm.later hb) (ARd.of_pps (row_later (hcs i.1 i.2) hb)) hl _ (by rw [decide_eq_true_iff])) (by rw [hfl];exact Nat.le_refl _) (by omega) (fun j hj=>by rw [hfl] at hj;rw [hget j hj];exact hcells j hj)
   change Calls Tryz.prog 99 _ _ _ at hcon
   refine hcon.mono ?_
   rintro e w' ⟨rfl,q,rfl⟩
   refine ⟨_,rfl,?_,below_drewN (Below.refl _ _) q⟩
   by_cases hin:m∈C
   ·right
    obtain ⟨i,hi,hmin,hlt⟩:∃ i,∃ hi:i<C.length,C[i]=m∧∀ j (hj:j<C.length),j<i→C[j]≠m:=by
     obtain ⟨i,hi,e⟩:=List.getElem_of_mem hin
     induction i using Nat.strongRecOn with
     | _ i ih =>
      by_cases h:∃ j,∃ hj:j<C.length,j<i∧C[j]=m
      ·obtain ⟨j,hj,hji,e2⟩:=h
       exact ih j hji hj e2
      ·exact ⟨i,hi,e,fun j hj hji e2=>h ⟨j,hj,hji,e2⟩⟩
    refine ⟨i,hi,?_,hmin⟩
    exact Lib.idxBy_hit (fun _ (y:Fin C.length)=>decide (m=C[y])) (List.finRange C.length) C.length i default hi (by rw [hfl];exact Nat.le_refl _) (by rw [hget i hi];exact decide_eq_true hmin.symm) (fun j hj=>by rw [hget j (by omega)];exact decide_eq_false fun e=>hlt j (by omega) hj e.symm)
   ·left
    refine ⟨Lib.idxBy_miss (fun _ (y:Fin C.length)=>decide (m=C[y])) (List.finRange C.length) C.length default (fun j hj=>?_),hin⟩
    rw [hget j hj]
    exact decide_eq_false fun e=>hin (by rw [e];exact List.getElem_mem hj)
theorem sub_len {α:Type} [DecidableEq α] {l m:List α} (h:l.Nodup) (hs:∀ x∈l,x∈m):l.length≤m.length:=by
 induction l generalizing m with
 | nil=>exact Nat.zero_le _
 | cons a l ih =>
  rw [List.nodup_cons] at h
  have ha:=hs a (by simp)
  have h2:=ih h.2 (m:=m.erase a) (fun x hx=>(List.mem_erase_of_ne (fun e=>h.1 (by rw [← e];exact hx))).2 (hs x (by simp [hx])))
  rw [List.length_erase_of_mem ha] at h2
  have:0<m.length:=List.length_pos_of_mem ha
  rw [List.length_cons]
  omega
theorem LfI.le {h:List Ft→List Pp} {M:List (List Ft)} {k:Nat} {C:List (List Pp)} {N:List Int} (i:LfI h M k C N):C.length≤M.length:=by
 have h1:=sub_len i.nd (m:=(M.take k).map h) fun c hc=>by
  obtain ⟨F,hF,e⟩:=(i.mem c).1 hc
  exact List.mem_map.2 ⟨F,hF,e⟩
 rw [List.length_map,List.length_take] at h1
 omega
theorem foldl_maxI_le:∀ {l:List Int} {a:Int},a≤l.foldl max a∧∀ x∈l,x≤l.foldl max a
 | [],a=>⟨Int.le_refl _,fun x h=>(by cases h)⟩
 | y :: l,a=>by
  obtain ⟨h1,h2⟩:=foldl_maxI_le (l:=l) (a:=max a y)
  rw [List.foldl_cons]
  refine ⟨by omega,fun x hx=>?_⟩
  rcases List.mem_cons.1 hx with rfl | hx
  ·omega
  ·exact h2 x hx
theorem foldl_maxI_in:∀ {l:List Int} {a:Int},l.foldl max a=a∨l.foldl max a∈l
 | [],_ => .inl rfl
 | y :: l,a=>by
  rw [List.foldl_cons]
  rcases foldl_maxI_in (l:=l) (a:=max a y) with h | h
  ·rw [h]
   by_cases e:a≤y
   ·right;rw [show max a y=y by omega];exact List.mem_cons_self
   ·left;omega
  ·exact .inr (List.mem_cons_of_mem _ h)
theorem maxOf_is {l:List Int} (h:l≠[]):Lib.maxOf l∈l∧∀ x∈l,x≤Lib.maxOf l:=by
 obtain ⟨a,l,rfl⟩:=List.exists_cons_of_ne_nil h
 unfold Lib.maxOf
 rw [List.headD_cons]
 refine ⟨?_,foldl_maxI_le.2⟩
 rcases foldl_maxI_in (l:=a :: l) (a:=a) with h | h
 ·rw [h];exact List.mem_cons_self
 ·exact h
theorem row_setN {W:World} {base g n cap i:Nat} {t:TypeId} {N:List Int} (h:W.ownsRow base t 1 (.slice (some ⟨g,0,none⟩) n cap) N.length (vI N)) (hi:i<N.length) (v:Int):(W.setCell ⟨g,i,none⟩ (.int .i64 v)).ownsRow base t 1 (.slice (some ⟨g,0,none⟩) n cap) (N.set i v).length (vI (N.set i v))∧W.cell? ⟨g,i,none⟩=some (.int .i64 N[i])∧W.frozen? ⟨g,i,none⟩=false:=by
 obtain ⟨hl,⟨e,_⟩ | ⟨g',cap',cur,e,hbg,hg,hcap,hmx,hsz,hxs⟩⟩:=h
 ·cases e
 ·cases e
  have hk:Blk W g t cur:=hg
  have hilt:i<cur.size:=by omega
  have hcell:cur[i]?=some (.int .i64 N[i]):=by
   have h1:=congrArg (fun l=>l[i]?) hxs
   simp only [List.getElem?_take,Array.getElem?_toList] at h1
   rw [if_pos (by omega)] at h1
   rw [h1,List.getElem?_map,List.getElem?_eq_getElem hi]
   rfl
  refine ⟨⟨by simp,.inr ⟨g,cap,cur.setIfInBounds i (.int .i64 v),by rw [List.length_set],hbg,hk.set i _,by rw [List.length_set];exact hcap,hmx,by rw [Array.size_setIfInBounds];exact hsz,?_⟩⟩,(hk.cell i).trans hcell,hk.frozen i⟩
  rw [Array.toList_setIfInBounds,List.length_set,List.take_set,hxs]
  simp
theorem own_some {W:World} {base n c:Nat} {t:TypeId} {k:Nat} {a:Option Addr} {xs:List Value} (h:W.ownsRow base t k (.slice a n c) n xs) (hn:0<n):∃ g,a=some ⟨g,0,none⟩:=by
 rcases h.2 with ⟨e,e0⟩ | ⟨g,cap,cur,e,_⟩
 ·omega
 ·cases e;exact ⟨g,rfl⟩
theorem set_snoc {N:List Int} {n:Nat} (h:N.length=n) (a b:Int):(N++[a]).set n b=N++[b]:=by
 subst h
 rw [List.set_append_right _ _ (Nat.le_refl _)]
 simp
structure LfW (w:World) (v1 v2 v3 v4 vk vs vc:Value) (C:List (List Pp)) (N:List Int) (gh:Nat→Value) (uh un:Value) (W:World):Prop where
 b:Below w.heap.size w W
 sp:Blk W w.heap.size 27 #[v1,v2,v3,v4]
 hd:Blk W (w.heap.size+1) 32 #[vk,vs,vc]
 row:W.ownsRow w.heap.size 50 1 uh C.length ((List.range C.length).map gh)
 cs:∀ i (hi:i<C.length),W.ownsRow w.heap.size 78 2 (gh i) C[i].length (ppCs C[i])
 nr:W.ownsRow w.heap.size 3 1 un N.length (vI N)
section
variable {w W W' : World} {v1 v2 v3 v4 vk vs vc uh un : Value} {C : List (List Pp)} {N : List Int} {gh : Nat → Value}
theorem LfW.later (h:LfW w v1 v2 v3 v4 vk vs vc C N gh uh un W) (hb:Below W.heap.size W W'):LfW w v1 v2 v3 v4 vk vs vc C N gh uh un W' :=
 ⟨below_step h.b hb,h.sp.below hb,h.hd.below hb,row_later h.row hb,fun i hi=>row_later (h.cs i hi) hb,row_later h.nr hb⟩
theorem LfW.push (h:LfW w v1 v2 v3 v4 vk vs vc C N gh uh un W) {o:Obj} {m:List Pp} {mv uh':Value} (hm:W.ownsRow w.heap.size 78 2 mv m.length (ppCs m)) (hg:(W.alloc o).grownBy W' uh.ownBlock) (ho:W'.ownsRow w.heap.size 50 1 uh' (C.length+1) ((List.range C.length).map gh++[mv])) :
  LfW w v1 v2 v3 v4 vk vs vc (C++[m]) N (fun i=>if i=C.length then mv else gh i) uh' un W':=by
 have hba:Below W.heap.size W (W.alloc o):=(Below.refl _ W).alloc (Nat.le_refl _) _
 have h1:=h.later hba
 refine ⟨h1.b.grown hg h1.b.size (fun k e=>row_ge h1.row e),h.sp.rowed h.row (by decide) hg,h.hd.rowed h.row (by decide) hg,?_,fun i hi=>?_,owns_rowed h.nr h.row (by decide) hg⟩
 ·have e:(List.range (C++[m]).length).map (fun i=>if i=C.length then mv else gh i)=(List.range C.length).map gh++[mv]:=by
   rw [List.length_append,List.length_singleton,List.range_succ,List.map_append,List.map_singleton,if_pos rfl]
   congr 1
   refine List.map_congr_left fun i hi=>?_
   rw [if_neg (by have:=List.mem_range.1 hi;omega)]
  rw [e,List.length_append,List.length_singleton]
  exact ho
 ·rw [List.length_append,List.length_singleton] at hi
  by_cases e:i=C.length
  ·subst e
   have e2:(C++[m])[C.length]=m:=by simp
   simp only [if_pos]
   rw [e2]
   exact owns_rowed hm h.row (by decide) hg
  ·simp only [if_neg e]
   rw [List.getElem_append_left (by omega)]
   exact owns_rowed (h.cs i (by omega)) h.row (by decide) hg
theorem LfW.count (h:LfW w v1 v2 v3 v4 vk vs vc C N gh uh un W) {o:Obj} {un':Value} {N':List Int} (hg:(W.alloc o).grownBy W' un.ownBlock) (ho:W'.ownsRow w.heap.size 3 1 un' N'.length (vI N')):LfW w v1 v2 v3 v4 vk vs vc C N' gh uh un' W':=by
 have hba:Below W.heap.size W (W.alloc o):=(Below.refl _ W).alloc (Nat.le_refl _) _
 have h1:=h.later hba
 exact ⟨h1.b.grown hg h1.b.size (fun k e=>row_ge h1.nr e),h.sp.rowed h.nr (by decide) hg,h.hd.rowed h.nr (by decide) hg,owns_rowed h.row h.nr (by decide) hg,fun i hi=>owns_rowed (h.cs i hi) h.nr (by decide) hg,ho⟩
theorem LfW.turn {g n cap i:Nat} (h:LfW w v1 v2 v3 v4 vk vs vc C N gh uh (.slice (some ⟨g,0,none⟩) n cap) W) (hi:i<N.length) (v:Int):LfW w v1 v2 v3 v4 vk vs vc C (N.set i v) gh uh (.slice (some ⟨g,0,none⟩) n cap) (W.setCell ⟨g,i,none⟩ (.int .i64 v)):=by
 have hs:=set_grown W g i (.int .i64 v)
 have hge:w.heap.size≤g:=row_ge h.nr rfl
 have hne:∀ {B:Nat} {t:TypeId} {cs:Array Value},Blk W B t cs→t≠3→some g≠some B:=fun hb ht e=>row_not h.nr hb ht e
 refine ⟨h.b.setCell hge _,h.sp.grown hs (hne h.sp (by decide)),h.hd.grown hs (hne h.hd (by decide)),h.row.kept hs (row_apart h.row h.nr (by decide)),fun j hj=>(h.cs j hj).kept hs (row_apart (h.cs j hj) h.nr (by decide)),(row_setN h.nr hi v).1⟩
end
theorem pps_info:(Tryz.prog.info? 50).map (fun i=>(i.zero,i.size,i.bytes))=some (some (.slice none 0 0),1,24):=by kernel_rfl
theorem leftD_any (v1 v2 v3 v4:Value) (S:Sp) (ok:SpWk S) (hc:(checkP S).2=0) (fp:Nat→Value) (vk vs vc:Value) (H:Hn) (hH:HnOk S H) (M:List (List Ft)) (hM:∀ F∈M,FtsOk S F∧F.length≤10) (hM0:M≠[]) (hMl:M.length≤1000000) (lv:Value) (g:Nat→Value) (B:(Th→Int)→Pp→Bool) (hB:SndIs S B) (w:World) (hD:Deb w) (ht:Tabs w) (hsp:SpRd w v1 v2 v3 v4 fp S) (hcap:∀ i,i<S.ss.length→CapOk (fp i)) (hh:HnRd w vk vs vc H) (hlv:StsRd w lv M g) :
  Calls Tryz.prog 57 #[.agg #[v1,v2,v3,v4],lv,.agg #[vk,vs,vc]] w (NumR (leftN S B M (onH H)) w):=by
 obtain ⟨la,lc,rfl⟩:=hlv.form
 obtain ⟨⟨ka,kc,rfl⟩,⟨sa,sc,rfl⟩,⟨ca,cc,rfl⟩⟩:=hh.forms
 obtain ⟨i0,hi0,hz0,hz1,hz2⟩:=info_parts pps_info
 obtain ⟨j0,hj0,jz0,jz1,jz2⟩:=info_parts int1_info
 have hb0:=below_two w (.cells #[v1,v2,v3,v4] 27) (.cells #[.slice ka H.ks.length kc,.slice sa H.ss.length sc,.slice ca H.cs.length cc] 32)
 have k0:=(Blk.new w 27 #[v1,v2,v3,v4]).alloc (.cells #[.slice ka H.ks.length kc,.slice sa H.ss.length sc,.slice ca H.cs.length cc] 32)
 have k1:=Blk.new (w.alloc (.cells #[v1,v2,v3,v4] 27)) 32 #[.slice ka H.ks.length kc,.slice sa H.ss.length sc,.slice ca H.cs.length cc]
 rw [World.size_alloc] at k1
 have HW0:=hid (show LfW w v1 v2 v3 v4 (.slice ka H.ks.length kc) (.slice sa H.ss.length sc) (.slice ca H.cs.length cc) [] [] (fun _ => .nilFunc) (.slice none 0 0) (.slice none 0 0) _ from ⟨hb0,k0,k1,World.ownsRow_nil _ _ _ _,fun i hi=>absurd hi (Nat.not_lt_zero i),World.ownsRow_nil _ _ _ _⟩)
 have HLI:=hid (LfI.zero (fun F=>hearL S B F (onH H)) M)
 have HLV:=hid hlv
 have HM0:=hid hM0
 have HHE:=hid (fun (F:List Ft) (hF:F∈M) (u:Value) (W:World) (hb:Below w.heap.size w W) (hu:ARd W u 3 (F.map ftC))=>hearsD_any v1 v2 v3 v4 S ok hc fp (.slice ka H.ks.length kc) (.slice sa H.ss.length sc) (.slice ca H.cs.length cc) u H hH F (hM F hF).1 (hM F hF).2 B hB W (hD.below hb) (ht.below hb) (hsp.later hb) hcap (hh.later hb) hu)
 have HLN:=hid (show ∀ F,(hearL S B F (onH H)).length≤1000000 from fun F=>Nat.le_trans (List.length_filter_le _ _) (by
  have h1:=allFrom_len (spGood hc).r 0
  have h2:=sp_lens hc
  omega))
 clear hb0 k0 k1 ok hc hH hM hM0 hB hD ht hsp hcap hh hlv
 go_enter Tryz.func57,Tryz.ntmps57
 go_wp2
 generalize (w.alloc (.cells #[v1,v2,v3,v4] 27)).alloc (.cells #[.slice ka H.ks.length kc,.slice sa H.ss.length sc,.slice ca H.cs.length cc] 32)=W0 at *
 go_loopw [7,8,15] (fun uh un x wr=>∃ (k:Nat) (C:List (List Pp)) (N:List Int) (gh:Nat→Value),k≤M.length∧x = .int .i64 k∧Hid (LfI (fun F=>hearL S B F (onH H)) M k C N)∧Hid (LfW w v1 v2 v3 v4 (.slice ka H.ks.length kc) (.slice sa H.ss.length sc) (.slice ca H.cs.length cc) C N gh uh un wr)) (fun _ _ x _=>M.length-(intOf x).toNat)
 case atStart=>exact ⟨0,[],[],_,Nat.zero_le _,rfl,HLI,HW0⟩
 clear HLI HW0
 obtain ⟨k,C,N,gh,hk,rfl,hLI,hW⟩:=hrel
 by_cases hkl:k<M.length
 ·have hk2:(k:Int)<(M.length:Int):=by omega
  obtain ⟨b,o,c',ev,_,q0⟩:=(HLV.out.later hW.out.b).at' hkl
  cases ev
  have hcl:=hLI.out.le
  have HFD:=hid (fun (W:World) (hb:Below w.heap.size w W)=>HHE.out M[k] (List.getElem_mem hkl) (g k) W hb ((HLV.out.later hb).st k hkl))
  obtain ⟨fa,fc,ef⟩:=((HLV.out.later hW.out.b).st k hkl).ftForm
  have HNW:=hid (fun (h:hearL S B M[k] (onH H) ∉ C)=>hLI.out.new hkl h)
  have HMO:=hid (fun (i:Nat) (hi:i<C.length) (he:C[i]=hearL S B M[k] (onH H)) (n:Int) (hn:N[i]?=some n)=>hLI.out.more hkl hi he hn)
  have hml:=HLN.out M[k]
  have HNL:=hid hLI.out.len
  have HNM:=hid (fun (i:Nat) (hi:i<C.length)=>show ∃ c:Nat,N[i]?=some (c:Int)∧c≤M.length from ⟨_,hLI.out.num i hi,Nat.le_trans (List.length_filter_le _ _) (by rw [List.length_take];omega)⟩)
  have hn6:N.length≤1000000:=by have:=HNL.out;omega
  have hn7:(C.length:Int)<(N.length:Int)+1:=by have:=HNL.out;omega
  rw [ef] at q0 HFD
  obtain ⟨m,hm⟩:∃ m,hearL S B M[k] (onH H)=m:=⟨_,rfl⟩
  rw [hm] at HFD HNW HMO hml
  obtain ⟨fl,hfl⟩:∃ fl,M[k].length=fl:=⟨_,rfl⟩
  rw [hfl] at q0 HFD
  obtain ⟨s0,s1,s2,s3⟩:=hW.out.sp.four
  obtain ⟨h0,h1,h2⟩:wr.cell? ⟨w.heap.size+1,0,none⟩=some (.slice ka H.ks.length kc)∧wr.cell? ⟨w.heap.size+1,1,none⟩=some (.slice sa H.ss.length sc)∧wr.cell? ⟨w.heap.size+1,2,none⟩=some (.slice ca H.cs.length cc):=⟨hW.out.hd.cell 0,hW.out.hd.cell 1,hW.out.hd.cell 2⟩
  clear ef hm hfl hLI
  go_wp2_with fail
  refine (HFD.out wr hW.out.b).mono ?_
  rintro e W2 ⟨u,rfl,hrow,hb2⟩
  obtain ⟨ua,un,rfl⟩:=own_form hrow
  have hb3:Below W2.heap.size W2 (W2.alloc (.cells #[.slice ua m.length un] 50)):=(Below.refl _ W2).alloc (Nat.le_refl _) _
  have HW3:=hid ((hW.out.later hb2).later hb3)
  have HM3:=hid (row_later (row_base hrow hW.out.b.size) hb3)
  have HXB:=hid (Blk.new W2 50 #[.slice ua m.length un])
  clear hrow hb2 HFD hW s0 s1 s2 s3 h0 h1 h2 q0
  go_upto_region 7 with fail
  obtain ⟨XB,hXB⟩:∃ XB,W2.heap.size=XB:=⟨_,rfl⟩
  rw [hXB] at HXB ⊢
  generalize W2.alloc (.cells #[.slice ua m.length un] 50)=W3 at *
  clear hb3 hXB
  obtain ⟨ha,hac,rfl⟩:=own_form HW3.out.row
  go_wp2_with fail
  refine (ixHeard_any m C hml (by omega) XB (.slice ua m.length un) (.slice ha C.length hac) gh w.heap.size w.heap.size W3 HXB.out (ARd.of_pps HM3.out) HW3.out.row HW3.out.cs).mono ?_
  rintro e W4 ⟨n,rfl,hcase,hb4⟩
  have HW4:=hid (HW3.out.later hb4)
  have HM4:=hid (row_later HM3.out hb4)
  have x0:W4.cell? ⟨XB,0,none⟩=some (.slice ua m.length un):=(HXB.out.below hb4).cell 0
  clear hb4 HW3 HM3 HXB
  have hsz4:=HW4.out.b.size
  obtain ⟨na,nac,rfl⟩:=own_form HW4.out.nr
  rcases hcase with ⟨rfl,hnin⟩ | ⟨i,hi,rfl,hci⟩
  ·have HLN2:=hid (HNW.out hnin)
   clear hnin HNW HMO
   go_wp2_with (first | (at_builtin;refine wpList_append_lies _ rfl _ _ 153 rfl w.heap.size 50 i0 _ 1 24 Tryz.underlying153 hi0 hz0 hz1 hz2 rfl (by omega) _ _ _ rfl (HW4.out.row.alloc _) ⟨W4.heap.size,0,none⟩ 1 1 [.slice ua m.length un] rfl rfl (World.news_of_block (cs:=#[.slice ua m.length un]) (t:=50) (fr:=(0,0)) (heap_alloc_new W4 _)) (by simp [Value.oneCell']) (by omega) (by unfold maxLen;omega) (by omega) (by simp;omega) (W4.heap.size+1) (by simp) ?_;intro gg cap w5 hown5 hgrow5 hat5 hlt5;have HW5:=hid (HW4.out.push HM4.out hgrow5 hown5);clear hown5 hgrow5 hat5 hlt5;have hsz5:=HW5.out.b.size) | (at_builtin;refine wpList_append_lies _ rfl _ _ 30 rfl w.heap.size 3 j0 _ 1 8 Tryz.underlying30 hj0 jz0 jz1 jz2 rfl (by omega) _ _ _ rfl (HW5.out.nr.alloc _) ⟨w5.heap.size,0,none⟩ 1 1 [.int .i64 0] rfl rfl (World.news_of_block (cs:=#[.int .i64 0]) (t:=3) (fr:=(0,0)) (heap_alloc_new w5 _)) (by simp [Value.oneCell']) (by omega) (by unfold maxLen;omega) (by omega) (by simp;omega) (w5.heap.size+1) (by simp) ?_;intro g2 cap2 w6 hown6 hgrow6 hat6 hlt6;have HW6:=hid (HW5.out.count (N':=N++[0]) hgrow6 (by rw [List.length_append,List.length_singleton];simpa using hown6));clear hown6 hgrow6 hat6 hlt6;obtain ⟨_,y0,y1⟩:=row_setN (i:=C.length) HW6.out.nr (by rw [List.length_append,List.length_singleton,HNL.out];omega) 0;rw [show (N++[(0:Int)])[C.length]'(by rw [List.length_append,List.length_singleton,HNL.out];omega)=0 from by rw [List.getElem_append_right (by rw [HNL.out];exact Nat.le_refl _)];simp] at y0))
   have HT:=hid (HW6.out.turn (i:=C.length) (by rw [List.length_append,List.length_singleton,HNL.out];omega) 1)
   rw [set_snoc HNL.out] at HT
   refine ⟨⟨k+1,C++[m],N++[1],_,by omega,by go_num,HLN2,HT⟩,?_⟩
   simp [intOf]
   omega
  ·obtain ⟨c,hc1,hc2⟩:=HNM.out i hi
   have HL2:=hid (HMO.out i hi hci (c:Int) hc1)
   have hin:i<N.length:=by rw [HNL.out];exact hi
   obtain ⟨ng,rfl⟩:=own_some HW4.out.nr (by omega)
   obtain ⟨_,y0,y1⟩:=row_setN (i:=i) HW4.out.nr hin 0
   rw [show N[i]=(c:Int) from by rw [List.getElem?_eq_getElem hin] at hc1;exact Option.some.inj hc1] at y0
   have e1:IntKind.i64.wrap ((c:Int)+1)=(c:Int)+1:=IntWalk.i64_in _ (by omega)
   have hi8:(i:Int)<(N.length:Int):=by omega
   have HT:=hid (HW4.out.turn hin ((c:Int)+1))
   have hd0:decide ((i:Int)<0)=false:=decide_eq_false (by omega)
   clear hc1 HMO HNW hci HNM
   go_wp2
   refine ⟨⟨k+1,C,N.set i ((c:Int)+1),_,by omega,by go_num,HL2,HT⟩,?_⟩
   simp [intOf]
   omega
 ·have hk2:¬ (k:Int)<(M.length:Int):=by omega
  have hke:k=M.length:=by omega
  rw [hke] at hLI
  have hne:N≠[]:=fun e=>by
   obtain ⟨F,M',hFM⟩:=List.exists_cons_of_ne_nil HM0.out
   have h1:=(hLI.out.mem (hearL S B F (onH H))).2 ⟨F,by rw [List.take_length,hFM];exact List.mem_cons_self,rfl⟩
   have h2:=hLI.out.len
   rw [e] at h2
   have h3:C=[]:=List.length_eq_zero_iff.1 h2.symm
   rw [h3] at h1
   exact absurd h1 List.not_mem_nil
  have hpos:0<N.length:=List.length_pos_iff.2 hne
  have hnl:=hLI.out.len
  have hcl:=hLI.out.le
  have HMX:=hid (hLI.out.max (maxOf_is hne).1 (maxOf_is hne).2)
  obtain ⟨na,nac,rfl⟩:=own_form hW.out.nr
  obtain ⟨ng,rfl⟩:=own_some hW.out.nr hpos
  have HCA:=hid (Tryz.slices_Max_int ng 0 N.length nac N wr hpos (Nat.le_refl _) (by omega) (fun j hj=>by
   rw [Nat.zero_add,(row_setN hW.out.nr hj 0).2.1,getD_int hj]))
  rw [List.take_length,HMX.out] at HCA
  have HBE:=hid hW.out.b
  clear hke hne hpos hnl hcl HMX hLI hW
  go_wp2_with fail
  refine HCA.out.mono ?_
  rintro e w' ⟨rfl,rfl⟩
  go_wp2
  go_ret
  exact numR rfl HBE.out
def nxF (S:Sp) (Hs:List Hn) (i:Nat):Int:=match Hs[i]? with
 | some h=>hnE S h
 | none=>0
theorem nxF_at {S:Sp} {Hs:List Hn} {i:Nat} (hi:i<Hs.length):nxF S Hs i=hnE S Hs[i]:=by unfold nxF;rw [List.getElem?_eq_getElem hi]
def nxE (S:Sp) (L:List Tl) (Hs:List Hn):Int:=if trlE S L≠0 then trlE S L else if 20<Hs.length then 3 else if firstErr (nxF S Hs) Hs.length≠0 then firstErr (nxF S Hs) Hs.length else if Hs.length=0 then 2 else 0
def lfV (S:Sp) (B:(Th→Int)→Pp→Bool) (M:List (List Ft)) (Hs:List Hn) (j:Nat):Nat:=match Hs[j]? with
 | some h=>leftN S B M (onH h)
 | none=>0
theorem lfV_at {S:Sp} {B:(Th→Int)→Pp→Bool} {M:List (List Ft)} {Hs:List Hn} {i:Nat} (hi:i<Hs.length):lfV S B M Hs i=leftN S B M (onH Hs[i]):=by unfold lfV;rw [List.getElem?_eq_getElem hi]
def NxP (S:Sp) (B:(Th→Int)→Pp→Bool) (L:List Tl) (most:Int) (Hs:List Hn) (i n e:Int):Prop :=
 (nxE S L Hs≠0∧i=0∧n=0∧e=nxE S L Hs)∨(nxE S L Hs=0∧∃ M e1,LsP S B L most M e1∧((e1≠0∧i=0∧n=0∧e=e1)∨(e1=0∧i=(bestI (lfV S B M Hs) (Hs.length-1)).1∧n=(bestI (lfV S B M Hs) (Hs.length-1)).2∧e=0)))
theorem nx_trl {S:Sp} {L:List Tl} {Hs:List Hn} (h:trlE S L≠0):nxE S L Hs=trlE S L:=if_pos h
theorem nx_long {S:Sp} {L:List Tl} {Hs:List Hn} (h:trlE S L=0) (h2:20<Hs.length):nxE S L Hs=3:=by unfold nxE;rw [if_neg (by omega),if_pos h2]
theorem nx_hand {S:Sp} {L:List Tl} {Hs:List Hn} (h:trlE S L=0) (h2:¬ 20<Hs.length) {n:Int} (h3:firstErr (nxF S Hs) Hs.length=n) (hn:n≠0):nxE S L Hs=n:=by unfold nxE;rw [if_neg (by omega),if_neg h2,if_pos (by rw [h3];exact hn),h3]
theorem nx_none {S:Sp} {L:List Tl} {Hs:List Hn} (h:trlE S L=0) (h3:firstErr (nxF S Hs) Hs.length=0) (h4:Hs.length=0):nxE S L Hs=2:=by unfold nxE;rw [if_neg (by omega),if_neg (by omega),if_neg (by omega),if_pos h4]
theorem nx_in {S:Sp} {L:List Tl} {Hs:List Hn} (h:trlE S L=0) (h2:¬ 20<Hs.length) (h3:firstErr (nxF S Hs) Hs.length=0) (h4:Hs.length≠0):nxE S L Hs=0:=by unfold nxE;rw [if_neg (by omega),if_neg h2,if_neg (by omega),if_neg h4]
theorem nxP_bad {S:Sp} {B:(Th→Int)→Pp→Bool} {L:List Tl} {most:Int} {Hs:List Hn} {e:Int} (h:nxE S L Hs=e) (he:e≠0):NxP S B L most Hs 0 0 e:=.inl ⟨by rw [h];exact he,rfl,rfl,h.symm⟩
theorem nxP_err {S:Sp} {B:(Th→Int)→Pp→Bool} {L:List Tl} {most:Int} {Hs:List Hn} (h:nxE S L Hs=0) {M:List (List Ft)} {e:Int} (hM:LsP S B L most M e) (he:e≠0):NxP S B L most Hs 0 0 e:=.inr ⟨h,M,e,hM,.inl ⟨he,rfl,rfl,rfl⟩⟩
theorem lsP_ok {S:Sp} {B:(Th→Int)→Pp→Bool} {L:List Tl} {most:Int} {M:List (List Ft)} (h:LsP S B L most M 0):(∀ F∈M,FtsOk S F∧F.length≤10)∧M≠[]∧M.length≤200∧0≤most∧most≤3∧LeaP S B (trs L) most.toNat M 0:=by
 rcases h with ⟨h1,_,h3⟩ | ⟨h1,h2⟩
 ·exact absurd h3.symm h1
 ·have hm:¬ (most<0∨3<most):=fun hb=>by
   unfold lsE at h1
   by_cases a:trlE S L≠0
   ·rw [if_pos a] at h1;exact a h1
   ·rw [if_neg a] at h1
    by_cases b:20<S.ss.length∨8<S.cs.length
    ·rw [if_pos b] at h1;omega
    ·rw [if_neg b,if_pos hb] at h1;omega
  obtain ⟨many,h3,_,h4,h5,h6⟩:=leaP_ok h2
  refine ⟨fun F hF=>⟨((h4.2 F).1 hF).1,?_⟩,h5,h6,by omega,by omega,h2⟩
  have:=((h4.2 F).1 hF).2.1
  omega
def bst (v:Nat→Nat) (i:Nat):Nat × Nat:=if i=0 then (0,0) else bestI v (i-1)
theorem bst_one (v:Nat→Nat) (i:Nat):bst v (i+1)=bestI v i:=by unfold bst;rw [if_neg (by omega)];rfl
theorem bst_next (v:Nat→Nat) (i:Nat):bst v (i+1)=if i=0∨v i<(bst v i).2 then (i,v i) else bst v i:=by
 cases i with
 | zero=>rw [if_pos (.inl rfl),bst_one];rfl
 | succ i =>
  rw [bst_one,bst_one,bestI]
  by_cases h:v (i+1)<(bestI v i).2
  ·rw [if_pos h,if_pos (.inr h)]
  ·rw [if_neg h,if_neg]
   rintro (q | q)
   ·omega
   ·exact h q
theorem nxP_best {S:Sp} {B:(Th→Int)→Pp→Bool} {L:List Tl} {most:Int} {Hs:List Hn} (h:nxE S L Hs=0) (h0:Hs.length≠0) {M:List (List Ft)} (hM:LsP S B L most M 0):NxP S B L most Hs (bst (lfV S B M Hs) Hs.length).1 (bst (lfV S B M Hs) Hs.length).2 0 :=
 .inr ⟨h,M,0,hM,.inr ⟨rfl,by unfold bst;rw [if_neg h0],by unfold bst;rw [if_neg h0],rfl⟩⟩
def NxR (S:Sp) (B:(Th→Int)→Pp→Bool) (L:List Tl) (most:Int) (Hs:List Hn) (w:World) (e:Ending) (w':World):Prop:=∃ i n e0:Int,e = .returned (.tuple #[.int .i64 i,.int .i64 n,.int .i64 e0])∧NxP S B L most Hs i n e0∧Below w.heap.size w w'
theorem hands_ok {S:Sp} (hc:(checkP S).2=0) {Hs:List Hn} (h:firstErr (nxF S Hs) Hs.length=0):∀ i (hi:i<Hs.length),HnOk S Hs[i]:=fun i hi=>by
 have h1:=firstErr_none h i hi
 rw [nxF_at hi] at h1
 exact hnE_ok hc h1
theorem nextD_any (v1 v2 v3 v4:Value) (S:Sp) (ok:SpWk S) (fp:Nat→Value) (L:List Tl) (hsm:∀ t∈L,HnSm t.h∧t.l.length≤1000000) (hll:L.length≤1000000) (tv:Value) (gk gs gc gh:Nat→Value) (Hs:List Hn) (hhs:∀ h∈Hs,HnSm h) (hhl:Hs.length≤1000000) (hv:Value) (hk hss hcc:Nat→Value) (B:(Th→Int)→Pp→Bool) (hB:(checkP S).2=0→SndIs S B) (most:Int) (w:World) (hD:Deb w) (ht:Tabs w) (hsp:SpRd w v1 v2 v3 v4 fp S) (hcap:∀ i,i<S.ss.length→CapOk (fp i)) (htv:TlRd w tv L gk gs gc gh) (hhv:HnsRd w hv Hs hk hss hcc) :
  Calls Tryz.prog 24 #[.agg #[v1,v2,v3,v4],tv,.int .i64 most,hv] w (NxR S B L most Hs w):=by
 obtain ⟨at',ct,ev⟩:=htv.form
 subst ev
 obtain ⟨ah,ch,ev⟩:=hhv.form
 subst ev
 have HB0:=hid (show Below w.heap.size w (w.alloc (.cells #[v1,v2,v3,v4] 27)) from (Below.refl _ _).alloc (Nat.le_refl _) _)
 have K0:=hid (Blk.new w 27 #[v1,v2,v3,v4])
 have HCS:=hid (fun (W:World) (hb:Below w.heap.size w W)=>checkD_any v1 v2 v3 v4 S ok fp L hsm (.slice at' L.length ct) gk gs gc gh W (ht.below hb) (hsp.later hb) (htv.later hb) hll)
 have HHA:=hid (fun (i:Nat) (hi:i<Hs.length) (W:World) (hb:Below w.heap.size w W)=>checkS_any v1 v2 v3 v4 S ok fp (hk i) (hss i) (hcc i) Hs[i] (hhs _ (List.getElem_mem hi)) W (ht.below hb) (hsp.later hb) ((hhv.later hb).hd i hi))
 have HLE:=hid (fun (W:World) (hb:Below w.heap.size w W)=>leastD_any v1 v2 v3 v4 S ok fp L hsm hll (.slice at' L.length ct) gk gs gc gh B hB most W (hD.below hb) (ht.below hb) (hsp.later hb) hcap (htv.later hb))
 have HLF:=hid (fun (hc:(checkP S).2=0) (hh:firstErr (nxF S Hs) Hs.length=0) (M:List (List Ft)) (hM:(∀ F∈M,FtsOk S F∧F.length≤10)∧M≠[]∧M.length≤200) (i:Nat) (hi:i<Hs.length) (lv:Value) (g:Nat→Value) (W:World) (hb:Below w.heap.size w W) (hlv:StsRd W lv M g)=>leftD_any v1 v2 v3 v4 S ok hc fp (hk i) (hss i) (hcc i) Hs[i] (hands_ok hc hh i hi) M hM.1 hM.2.1 (by have:=hM.2.2;omega) lv g B (hB hc) W (hD.below hb) (ht.below hb) (hsp.later hb) hcap ((hhv.later hb).hd i hi) hlv)
 have HHV:=hid hhv
 obtain ⟨s0,s1,s2,s3⟩:=K0.out.four
 clear ok hsp hcap hD ht hB htv hsm hhs hhv
 go_enter Tryz.func24,Tryz.ntmps24
 go_upto_region 1 with fail
 generalize w.alloc (.cells #[v1,v2,v3,v4] 27)=W0 at *
 go_wp2_with fail
 refine (HCS.out _ HB0.out).mono ?_
 rintro e W1 ⟨rfl,hb1⟩
 have HB1:=hid (below_step HB0.out hb1)
 replace K0:=hid (K0.out.below hb1)
 clear hb1 s0 s1 s2 s3 HB0 HCS
 obtain ⟨n,hn⟩:∃ n,trlE S L=n:=⟨_,rfl⟩
 rw [hn]
 by_cases hz:n=0
 case neg =>
  have q1:(n==0)=false:=by simpa using hz
  have q2:(n != 0)=true:=by simpa using hz
  have HE:=hid (nxP_bad (B:=B) (most:=most) ((nx_trl (Hs:=Hs) (by rw [hn];exact hz)).trans hn) hz)
  clear hz hn
  go_wp2
  go_ret3
  exact ⟨_,_,_,rfl,HE.out,HB1.out⟩
 subst hz
 have HN:=hid hn
 clear hn
 by_cases h20:20<Hs.length
 ·have d1:decide ((20:Int)<(Hs.length:Int))=true:=decide_eq_true (by omega)
  have d2:decide (20<Hs.length)=true:=decide_eq_true h20
  have HE:=hid (nxP_bad (B:=B) (most:=most) (nx_long HN.out h20) (by decide))
  clear h20
  go_wp2
  go_ret3
  exact ⟨_,_,_,rfl,HE.out,HB1.out⟩
 have d1:decide ((20:Int)<(Hs.length:Int))=false:=decide_eq_false (by omega)
 have d2:decide (20<Hs.length)=false:=decide_eq_false h20
 have H20:=hid h20
 have HF0:=hid (show firstErr (nxF S Hs) 0=0 from rfl)
 clear h20
 go_wp2
 clear d1 d2
 go_loopw [8,9,30] (fun p q x wr=>∃ i:Nat,i≤Hs.length∧x = .int .i64 i∧p = .int .i64 0∧q = .int .i64 0∧Hid (firstErr (nxF S Hs) i=0)∧Hid (Below w.heap.size w wr)∧Hid (Blk wr w.heap.size 27 #[v1,v2,v3,v4])) (fun _ _ x _=>Hs.length-(intOf x).toNat)
 case atStart=>exact ⟨0,Nat.zero_le _,rfl,rfl,rfl,HF0,HB1,K0⟩
 clear HF0 HB1 K0
 obtain ⟨i,hi,rfl,rfl,rfl,hF,hB,hK⟩:=hrel
 by_cases hil:i<Hs.length
 ·have hi2:(i:Int)<(Hs.length:Int):=by omega
  obtain ⟨b,o,c',ev,_,q0,q1,q2⟩:=(HHV.out.later hB.out).at' hil
  cases ev
  obtain ⟨⟨ka,kc,ek⟩,⟨sa,sc,es⟩,⟨ca,cc,ec⟩⟩:=((HHV.out.later hB.out).hd i hil).forms
  have HCI:=hid (HHA.out i hil)
  have HNX:=hid (show firstErr (nxF S Hs) (i+1)=hnE S Hs[i] from by rw [firstErr_next hF.out,nxF_at hil])
  rw [ek] at q0 HCI
  rw [es] at q1 HCI
  rw [ec] at q2 HCI
  obtain ⟨x,hx⟩:∃ x,Hs[i]=x:=⟨_,rfl⟩
  rw [hx] at q0 q1 q2 HCI HNX
  have hba:Below wr.heap.size wr (wr.alloc (.cells #[.slice ka x.ks.length kc,.slice sa x.ss.length sc,.slice ca x.cs.length cc] 32)):=(Below.refl _ wr).alloc (Nat.le_refl _) _
  have HB2:=hid (below_step hB.out hba)
  have HK2:=hid (hK.out.below hba)
  have HX2:=hid (Blk.new wr 32 #[.slice ka x.ks.length kc,.slice sa x.ss.length sc,.slice ca x.cs.length cc])
  clear hx ek es ec hB hK
  go_upto_region 9 with fail
  obtain ⟨X,hX⟩:∃ X,wr.heap.size=X:=⟨_,rfl⟩
  rw [hX] at HX2 ⊢
  generalize wr.alloc (.cells #[.slice ka x.ks.length kc,.slice sa x.ss.length sc,.slice ca x.cs.length cc] 32)=W2 at *
  clear hba hX q0 q1 q2 hF
  obtain ⟨s0,s1,s2,s3⟩:=HK2.out.four
  obtain ⟨h0,h1,h2⟩:W2.cell? ⟨X,0,none⟩=some (.slice ka x.ks.length kc)∧W2.cell? ⟨X,1,none⟩=some (.slice sa x.ss.length sc)∧W2.cell? ⟨X,2,none⟩=some (.slice ca x.cs.length cc):=⟨HX2.out.cell 0,HX2.out.cell 1,HX2.out.cell 2⟩
  go_wp2_with fail
  refine (HCI.out _ HB2.out).mono ?_
  rintro e W3 ⟨rfl,hb3⟩
  have HB3:=hid (below_step HB2.out hb3)
  have HK3:=hid (HK2.out.below hb3)
  clear hb3 HB2 HK2 HX2 HCI s0 s1 s2 s3 h0 h1 h2
  obtain ⟨n,hn⟩:∃ n,hnE S x=n:=⟨_,rfl⟩
  rw [hn] at HNX ⊢
  clear hn
  by_cases hz:n=0
  ·subst hz
   have HF2:=hid HNX.out
   clear HNX
   go_wp2
   go_roundw
   case rel=>exact ⟨i+1,by omega,by go_num,rfl,rfl,HF2,HB3,HK3⟩
   case measure=>simp [intOf];omega
  ·have f1:(n==0)=false:=by simpa using hz
   have f2:(n != 0)=true:=by simpa using hz
   have HE:=hid (nxP_bad (B:=B) (most:=most) (nx_hand HN.out H20.out (by rw [firstErr_at (k:=i+1) (by rw [HNX.out];exact hz) (by omega),HNX.out]) hz) hz)
   clear hz HNX
   go_wp2
   go_ret3
   exact ⟨_,_,_,rfl,HE.out,HB3.out⟩
 have hi2:¬ (i:Int)<(Hs.length:Int):=by omega
 have hie:i=Hs.length:=by omega
 rw [hie] at hF
 by_cases h0:Hs.length=0
 ·have f1:((Hs.length:Int)==0)=true:=by rw [beq_iff_eq];omega
  have f2:(Hs.length==0)=true:=by rw [beq_iff_eq];exact h0
  have HE:=hid (nxP_bad (B:=B) (most:=most) (nx_none HN.out hF.out h0) (by decide))
  clear h0 hie hF
  go_wp2
  go_ret3
  exact ⟨_,_,_,rfl,HE.out,hB.out⟩
 have f1:((Hs.length:Int)==0)=false:=by rw [beq_eq_false_iff_ne];omega
 have f2:(Hs.length==0)=false:=by rw [beq_eq_false_iff_ne];exact h0
 have HNE:=hid (nx_in HN.out H20.out hF.out h0)
 have HH0:=hid h0
 obtain ⟨s0,s1,s2,s3⟩:=hK.out.four
 clear h0 hie
 go_wp2_with fail
 refine (HLE.out wr hB.out).mono ?_
 rintro e W4 ⟨lv,M,g,n,rfl,hM,hst,hb4⟩
 have HST:=hid hst.rd
 have HMM:=hid hM
 have HB4:=hid (below_step hB.out hb4)
 have HK4:=hid (hK.out.below hb4)
 obtain ⟨la,lc,rfl⟩:=own_form hst.row
 clear hst hM hb4 hB hK s0 s1 s2 s3 f1 f2 HLE
 by_cases hz:n=0
 case neg =>
  have f1:(n==0)=false:=by simpa using hz
  have f2:(n != 0)=true:=by simpa using hz
  have HE:=hid (nxP_err HNE.out HMM.out hz)
  clear hz
  go_wp2
  go_ret3
  exact ⟨_,_,_,rfl,HE.out,HB4.out⟩
 subst hz
 have HOK:=hid (lsP_ok HMM.out)
 have HRES:=hid (nxP_best HNE.out HH0.out HMM.out)
 have HLG:=hid (HLF.out (trlE_ok HN.out).1 hF.out M ⟨HOK.out.1,HOK.out.2.1,HOK.out.2.2.1⟩)
 obtain ⟨v,hvv⟩:∃ v,lfV S B M Hs=v:=⟨_,rfl⟩
 have HVA:=hid (fun (i:Nat) (hi:i<Hs.length)=>show leftN S B M (onH Hs[i])=v i from by rw [← hvv,lfV_at hi])
 rw [hvv] at HRES
 clear hvv hF HLF HOK HMM HN
 go_wp2
 go_loopw [8,9,56] (fun p q x wr=>∃ i:Nat,i≤Hs.length∧x = .int .i64 i∧p = .int .i64 (bst v i).1∧q = .int .i64 (bst v i).2∧Hid (Below w.heap.size w wr)∧Hid (Below W4.heap.size W4 wr)∧Hid (Blk wr w.heap.size 27 #[v1,v2,v3,v4])) (fun _ _ x _=>Hs.length-(intOf x).toNat)
 case atStart=>exact ⟨0,Nat.zero_le _,rfl,rfl,rfl,HB4,hid (Below.refl _ _),HK4⟩
 clear HB4 HK4
 obtain ⟨i,hi,rfl,rfl,rfl,hB,hG,hK⟩:=hrel
 by_cases hil:i<Hs.length
 ·have hi2:(i:Int)<(Hs.length:Int):=by omega
  obtain ⟨b,o,c',ev,_,q0,q1,q2⟩:=(HHV.out.later hB.out).at' hil
  cases ev
  obtain ⟨⟨ka,kc,ek⟩,⟨sa,sc,es⟩,⟨ca,cc,ec⟩⟩:=((HHV.out.later hB.out).hd i hil).forms
  have HCI:=hid (HLG.out i hil (.slice la M.length lc) g)
  rw [HVA.out i hil] at HCI
  have HBN:=hid (bst_next v i)
  rw [ek] at q0 HCI
  rw [es] at q1 HCI
  rw [ec] at q2 HCI
  obtain ⟨x,hx⟩:∃ x,Hs[i]=x:=⟨_,rfl⟩
  rw [hx] at q0 q1 q2 HCI
  have hba:Below wr.heap.size wr (wr.alloc (.cells #[.slice ka x.ks.length kc,.slice sa x.ss.length sc,.slice ca x.cs.length cc] 32)):=(Below.refl _ wr).alloc (Nat.le_refl _) _
  have HB2:=hid (below_step hB.out hba)
  have HG2:=hid (below_step hG.out hba)
  have HK2:=hid (hK.out.below hba)
  have HX2:=hid (Blk.new wr 32 #[.slice ka x.ks.length kc,.slice sa x.ss.length sc,.slice ca x.cs.length cc])
  obtain ⟨b1,hb1⟩:∃ b1:Nat,(bst v i).1=b1:=⟨_,rfl⟩
  obtain ⟨b2,hb2⟩:∃ b2:Nat,(bst v i).2=b2:=⟨_,rfl⟩
  have HBB:=hid (show bst v i=(b1,b2) from Prod.ext hb1 hb2)
  rw [HBB.out] at HBN
  rw [hb1,hb2]
  clear hx ek es ec hB hK hG hb1 hb2
  go_upto_region 21 with fail
  obtain ⟨X,hX⟩:∃ X,wr.heap.size=X:=⟨_,rfl⟩
  rw [hX] at HX2 ⊢
  generalize wr.alloc (.cells #[.slice ka x.ks.length kc,.slice sa x.ss.length sc,.slice ca x.cs.length cc] 32)=W2 at *
  clear hba hX q0 q1 q2
  obtain ⟨s0,s1,s2,s3⟩:=HK2.out.four
  obtain ⟨h0,h1,h2⟩:W2.cell? ⟨X,0,none⟩=some (.slice ka x.ks.length kc)∧W2.cell? ⟨X,1,none⟩=some (.slice sa x.ss.length sc)∧W2.cell? ⟨X,2,none⟩=some (.slice ca x.cs.length cc):=⟨HX2.out.cell 0,HX2.out.cell 1,HX2.out.cell 2⟩
  go_wp2_with fail
  refine (HCI.out W2 HB2.out (HST.out.later HG2.out)).mono ?_
  rintro e W3 ⟨rfl,hb3⟩
  have HB3:=hid (below_step HB2.out hb3)
  have HG3:=hid (below_step HG2.out hb3)
  have HK3:=hid (HK2.out.below hb3)
  clear hb3 HB2 HG2 HK2 HX2 HCI s0 s1 s2 s3 h0 h1 h2
  obtain ⟨n,hn⟩:∃ n,v i=n:=⟨_,rfl⟩
  rw [hn] at HBN ⊢
  clear hn
  by_cases hi0:i=0
  ·have f1:((i:Int)==0)=true:=by rw [beq_iff_eq];omega
   have f2:(i==0)=true:=by rw [beq_iff_eq];exact hi0
   have HE:=hid (HBN.out.trans (if_pos (.inl hi0)))
   clear hi0
   go_wp2
   go_roundw
   case rel=>exact ⟨i+1,by omega,by go_num,by rw [HE.out],by rw [HE.out],HB3,HG3,HK3⟩
   case measure=>simp [intOf];omega
  have f1:((i:Int)==0)=false:=by rw [beq_eq_false_iff_ne];omega
  have f2:(i==0)=false:=by rw [beq_eq_false_iff_ne];exact hi0
  by_cases hlt:n<b2
  ·have d1:decide ((n:Int)<(b2:Int))=true:=decide_eq_true (by omega)
   have d2:decide (n<b2)=true:=decide_eq_true hlt
   have HE:=hid (HBN.out.trans (if_pos (.inr hlt)))
   clear hi0 hlt
   go_wp2
   go_roundw
   case rel=>exact ⟨i+1,by omega,by go_num,by rw [HE.out],by rw [HE.out],HB3,HG3,HK3⟩
   case measure=>simp [intOf];omega
  ·have d1:decide ((n:Int)<(b2:Int))=false:=decide_eq_false (by omega)
   have d2:decide (n<b2)=false:=decide_eq_false hlt
   have HE:=hid (HBN.out.trans (if_neg (fun h=>h.elim hi0 hlt)))
   clear hi0 hlt
   go_wp2
   go_roundw
   case rel=>exact ⟨i+1,by omega,by go_num,by rw [HE.out],by rw [HE.out],HB3,HG3,HK3⟩
   case measure=>simp [intOf];omega
 ·have hi2:¬ (i:Int)<(Hs.length:Int):=by omega
  have hie:i=Hs.length:=by omega
  rw [← hie] at HRES
  clear hie hG hK
  go_wp2
  go_ret3
  exact ⟨_,_,_,rfl,HRES.out,hB.out⟩
end Go.Proofs.YteflhbfgpknabaaGreatDoor
namespace Go.Proofs.YteflhbfgpknabaaGreatDoor
open Go.Lib (hid)
def hdT (S:Sp) (B:(Th→Int)→Pp→Bool) (F:List Ft) (Hs:List Hn):List Tl:=Hs.map fun H=>⟨H,hearL S B F (onH H)⟩
theorem hd_len {S:Sp} {B:(Th→Int)→Pp→Bool} {F:List Ft} {Hs:List Hn}:(hdT S B F Hs).length=Hs.length:=List.length_map ..
theorem hd_at {S:Sp} {B:(Th→Int)→Pp→Bool} {F:List Ft} {Hs:List Hn} {i:Nat} (hi:i<Hs.length):(hdT S B F Hs)[i]'(by rw [hd_len];exact hi)=⟨Hs[i],hearL S B F (onH Hs[i])⟩:=List.getElem_map ..
theorem hd_take {S:Sp} {B:(Th→Int)→Pp→Bool} {F:List Ft} {Hs:List Hn} {n:Nat}:(hdT S B F Hs).take n=hdT S B F (Hs.take n):=(List.map_take ..).symm
theorem hn_hndE {S:Sp} (hc:(checkP S).2=0) {H:Hn} (h:hnE S H=0):hndE S H=0:=by
 unfold hnE at h
 rw [if_neg (by omega)] at h
 exact h
theorem hd_trl {S:Sp} {B:(Th→Int)→Pp→Bool} {F:List Ft} {Hs:List Hn} (hc:(checkP S).2=0) (hl:Hs.length≤20) (h:∀ H∈Hs,hnE S H=0):trlE S (hdT S B F Hs)=0 :=
 trlE_of hc (by rw [hd_len];exact hl) fun t ht=>by
  obtain ⟨H,hH,rfl⟩:=List.mem_map.1 ht
  exact ⟨hn_hndE hc (h H hH),hearL_asc S B F _⟩
theorem hd_exps {S:Sp} {B:(Th→Int)→Pp→Bool} {F:List Ft} {Hs:List Hn}:Exps S B F (trs (hdT S B F Hs)):=fun t ht=>by
 obtain ⟨x,hx,rfl⟩:=List.mem_map.1 ht
 obtain ⟨H,_,rfl⟩:=List.mem_map.1 hx
 rfl
theorem lsP_lea {S:Sp} {B:(Th→Int)→Pp→Bool} {L:List Tl} {most:Int} {M:List (List Ft)} {e:Int} (h0:lsE S L most=0) (h:LsP S B L most M e):LeaP S B (trs L) most.toNat M e:=by
 rcases h with ⟨h1,_⟩ | ⟨_,h⟩
 ·exact absurd h0 h1
 ·exact h
theorem ls_two {S:Sp} {L:List Tl} (h:trlE S L=0) (hs:S.ss.length≤4) (hcs:S.cs.length≤4):lsE S L 2=0:=lsE_in h (by omega) (by omega)
def fndB (F:List Ft) (M:List (List Ft)) (i:Nat):Bool:=decide (F∈M.take i)
theorem fnd_step {F:List Ft} {M:List (List Ft)} {i:Nat} (hi:i<M.length):fndB F M (i+1)=(fndB F M i||decide ([M[i]]=[F])):=by
 unfold fndB
 rw [List.take_succ_eq_append_getElem hi,← Bool.decide_or]
 congr 1
 rw [List.mem_append,List.mem_singleton,List.cons.injEq]
 simp only [and_true,eq_iff_iff]
 constructor
 ·rintro (h | h)
  ·exact .inl h
  ·exact .inr h.symm
 ·rintro (h | h)
  ·exact .inl h
  ·exact .inr h.symm
/-! The law of DiagnosisMore. -/
theorem trs_app {L U:List Tl}:trs (L++U)=trs L++trs U:=List.map_append ..
theorem hd_split {S:Sp} {B:(Th→Int)→Pp→Bool} {F:List Ft} {Hs:List Hn} {n:Nat}:trs (hdT S B F Hs)=trs (hdT S B F (Hs.take n))++trs (hdT S B F (Hs.drop n)):=by
 rw [← trs_app]
 congr 1
 unfold hdT
 rw [← List.map_append,List.take_append_drop]
structure MorP (M N:List (List Ft)) (m n:Nat):Prop where
 szM:∀ i (hi:i<M.length),M[i].length=m
 szN:∀ i (hi:i<N.length),N[i].length=n
 neM:0<M.length
 neN:0<N.length
 lM:M.length≤200
 lN:N.length≤200
 m2:m≤2
 n2:n≤2
 le:m≤n
 sub:m=n→∀ F∈N,F∈M
theorem mor_of {S:Sp} {B:(Th→Int)→Pp→Bool} {F:List Ft} {Hs:List Hn} {k:Nat} {M N:List (List Ft)} {e f:Int} (hc:(checkP S).2=0) (hl:Hs.length≤20) (hh:∀ H∈Hs,hnE S H=0) (hs:S.ss.length≤4) (hcs:S.cs.length≤4) (hF:FtsOk S F) (hFl:F.length≤2) (hM:LsP S B (hdT S B F (Hs.take k)) 2 M e) (hN:LsP S B (hdT S B F Hs) 2 N f) :
  (e=5∨e=0)∧(f=5∨f=0)∧(e=0→f=0→∃ m n,MorP M N m n):=by
 have hT:trlE S (hdT S B F Hs)=0:=hd_trl hc hl hh
 have hT':trlE S (hdT S B F (Hs.take k))=0:=hd_trl hc (by rw [List.length_take];omega) fun H hH=>hh H (List.mem_of_mem_take hH)
 have h1:=lea_found (lsP_lea (ls_two hT' hs hcs) hM) hF hFl hd_exps
 have h2:=lea_found (lsP_lea (ls_two hT hs hcs) hN) hF hFl hd_exps
 refine ⟨h1.elim (fun h => .inl h.1) fun h => .inr h.1,h2.elim (fun h => .inl h.1) fun h => .inr h.1,?_⟩
 rintro rfl rfl
 have hM2:=lsP_lea (ls_two hT' hs hcs) hM
 have hN2:=lsP_lea (ls_two hT hs hcs) hN
 rw [hd_split (n:=k)] at hN2
 obtain ⟨m,n,a1,a2,a3,a4,a5,a6⟩:=lea_more hM2 hN2
 obtain ⟨m',b1,_,b3,_,b5⟩:=leaP_ok hM2
 obtain ⟨n',c1,_,c3,_,c5⟩:=leaP_ok hN2
 have e1:∀ i (hi:i<M.length),M[i].length=m:=fun i hi=>a2.size (List.getElem_mem hi)
 have e2:∀ i (hi:i<N.length),N[i].length=n:=fun i hi=>a3.size (List.getElem_mem hi)
 have p1:=List.length_pos_iff.2 a4
 have p2:=List.length_pos_iff.2 a5
 have f1:m=m':=(e1 0 p1).symm.trans (b3.size (List.getElem_mem p1))
 have f2:n=n':=(e2 0 p2).symm.trans (c3.size (List.getElem_mem p2))
 have b1:m'≤2:=b1
 have c1:n'≤2:=c1
 exact ⟨m,n,e1,e2,p1,p2,b5,c5,by omega,by omega,a1,a6⟩
theorem nxt_of {S:Sp} {B:(Th→Int)→Pp→Bool} {F:List Ft} {Hs Gs:List Hn} {M:List (List Ft)} {i n e:Int} (hc:(checkP S).2=0) (hl:Hs.length≤20) (h0:0<Hs.length) (hh:∀ H∈Hs,hnE S H=0) (hG:∀ H∈Gs,hnE S H=0) (hGl:Gs.length≤20) (hM:LsP S B (hdT S B F Gs) 2 M 0) (h:NxP S B (hdT S B F Gs) 2 Hs i n e) :
  e=0∧∃ j,∃ hj:j<Hs.length,i=(j:Int)∧n=(leftN S B M (onH Hs[j]):Int):=by
 have hT:trlE S (hdT S B F Gs)=0:=hd_trl hc hGl hG
 have hnx:nxE S (hdT S B F Gs) Hs=0:=nx_in hT (by omega) (firstErr_zero fun i hi=>by rw [nxF_at hi];exact hh _ (List.getElem_mem hi)) (by omega)
 rcases h with ⟨h1,_⟩ | ⟨_,M',e1,hM',h2⟩
 ·exact absurd hnx h1
 ·obtain ⟨rfl,rfl⟩:=hM.one hM'
  rcases h2 with ⟨h3,_⟩ | ⟨_,rfl,rfl,rfl⟩
  ·exact absurd rfl h3
  ·obtain ⟨a,b⟩:=bestI_at (lfV S B M Hs) (Hs.length-1)
   have hj:(bestI (lfV S B M Hs) (Hs.length-1)).1<Hs.length:=by omega
   exact ⟨rfl,_,hj,rfl,by rw [b,lfV_at hj]⟩
theorem one_of {S:Sp} {B:(Th→Int)→Pp→Bool} {F G:List Ft} {Gs:List Hn} {H:Hn} {M N:List (List Ft)} {e:Int} (hc:(checkP S).2=0) (hGl:Gs.length≤19) (hG:∀ H∈Gs,hnE S H=0) (hH:hnE S H=0) (hs:S.ss.length≤4) (hcs:S.cs.length≤4) (hM:LsP S B (hdT S B F Gs) 2 M 0) (hGM:G∈M) (hN:LsP S B (hdT S B F Gs++[⟨H,hearL S B G (onH H)⟩]) 2 N e) :
  e=0∧N.length≤leftN S B M (onH H)∧0<N.length∧∃ m,(∀ i (hi:i<M.length),M[i].length=m)∧∀ i (hi:i<N.length),N[i].length=m:=by
 have hT:trlE S (hdT S B F Gs)=0:=hd_trl hc (by omega) hG
 have hT2:trlE S (hdT S B F Gs++[⟨H,hearL S B G (onH H)⟩])=0:=trlE_of hc (by rw [List.length_append,hd_len];simp only [List.length_singleton];omega) fun t ht=>by
  rcases List.mem_append.1 ht with ht | ht
  ·exact (trlE_ok hT).2.2 t ht
  ·rw [List.mem_singleton.1 ht]
   exact ⟨hn_hndE hc hH,hearL_asc S B G _⟩
 have hN2:=lsP_lea (ls_two hT2 hs hcs) hN
 rw [trs_app] at hN2
 obtain ⟨h1,h2,h3,m,h4,h5⟩:=lea_next (lsP_lea (ls_two hT hs hcs) hM) hGM hN2
 exact ⟨h1,h2,List.length_pos_iff.2 h3,m,fun i hi=>h4.size (List.getElem_mem hi),fun i hi=>h5 _ (List.getElem_mem hi)⟩
def isB (M:List (List Ft)) (F:List Ft) (k:Nat):Bool:=decide (F∈M.take k)
theorem is_step {F:List Ft} {M:List (List Ft)} {k:Nat} (hk:k<M.length):isB M F (k+1)=(isB M F k||decide ([M[k]]=[F])):=fnd_step hk
open Go.RowKit Go.Shelf
theorem dgTrial_info:(Tryz.prog.info? 58).map (fun i=>(i.zero,i.size,i.bytes))=some (some (.agg #[.slice none 0 0,.slice none 0 0,.slice none 0 0,.slice none 0 0]),4,96):=by kernel_rfl
def hrC (hk hs hc gh:Nat→Value) (k:Nat):List Value:=((List.range k).map fun i=>[hk i,hs i,hc i,gh i]).flatten
structure HrW (w:World) (v1 v2 v3 v4:Value) (Hl:Hn→List Pp) (Hs:List Hn) (hk hs hc:Nat→Value) (k:Nat) (gh:Nat→Value) (v:Value) (W:World):Prop where
 b:Below w.heap.size w W
 sp:Blk W w.heap.size 27 #[v1,v2,v3,v4]
 row:W.ownsRow w.heap.size 58 4 v k (hrC hk hs hc gh k)
 cs:∀ i (_:i<k) (h:i<Hs.length),W.ownsRow w.heap.size 78 2 (gh i) (Hl Hs[i]).length (ppCs (Hl Hs[i]))
section
variable {w W W' : World} {v1 v2 v3 v4 v : Value} {Hl : Hn → List Pp} {Hs : List Hn} {hk hs hc gh : Nat → Value} {k : Nat}
theorem HrW.later (h:HrW w v1 v2 v3 v4 Hl Hs hk hs hc k gh v W) (hb:Below W.heap.size W W'):HrW w v1 v2 v3 v4 Hl Hs hk hs hc k gh v W' :=
 ⟨below_step h.b hb,h.sp.below hb,row_later h.row hb,fun i hi hh=>row_later (h.cs i hi hh) hb⟩
theorem HrW.push (h:HrW w v1 v2 v3 v4 Hl Hs hk hs hc k gh v W) (hkl:k<Hs.length) {o:Obj} {m:List Pp} (hme:Hl Hs[k]=m) {mv v':Value} (hm:W.ownsRow w.heap.size 78 2 mv m.length (ppCs m)) (hg:(W.alloc o).grownBy W' v.ownBlock) (ho:W'.ownsRow w.heap.size 58 4 v' (k+1) (hrC hk hs hc gh k++[hk k,hs k,hc k,mv])) :
  HrW w v1 v2 v3 v4 Hl Hs hk hs hc (k+1) (fun i=>if i=k then mv else gh i) v' W':=by
 have hba:Below W.heap.size W (W.alloc o):=(Below.refl _ W).alloc (Nat.le_refl _) _
 have h1:=h.later hba
 refine ⟨h1.b.grown hg h1.b.size (fun k e=>row_ge h1.row e),h.sp.rowed h.row (by decide) hg,?_,fun i hi hh=>?_⟩
 ·have e:hrC hk hs hc (fun i=>if i=k then mv else gh i) (k+1)=hrC hk hs hc gh k++[hk k,hs k,hc k,mv]:=by
   unfold hrC
   rw [List.range_succ,List.map_append,List.flatten_append]
   congr 1
   ·congr 1
    refine List.map_congr_left fun i hi=>?_
    have hne:¬ i=k:=by have:=List.mem_range.1 hi;omega
    simp only [if_neg hne]
   ·simp
  rw [e]
  exact ho
 ·by_cases e:i=k
  ·subst e
   subst hme
   simp only [if_pos]
   exact owns_rowed hm h.row (by decide) hg
  ·simp only [if_neg e]
   exact owns_rowed (h.cs i (by omega) hh) h.row (by decide) hg
theorem HrW.rd {S:Sp} {B:(Th→Int)→Pp→Bool} {F:List Ft} {hv:Value} (h:HrW w v1 v2 v3 v4 (fun H=>hearL S B F (onH H)) Hs hk hs hc Hs.length gh v W) (hh:HnsRd W hv Hs hk hs hc):TlRd W v (hdT S B F Hs) hk hs hc gh:=by
 refine ⟨ARd.of_row (base:=w.heap.size) (t:=58) (fun r hr=>?_) ?_,fun i hi=>?_,fun i hi=>?_⟩
 ·obtain ⟨i,_,rfl⟩:=List.mem_map.1 hr
  rfl
 ·rw [List.length_map,List.length_range,hd_len]
  exact h.row
 ·rw [hd_len] at hi
  rw [hd_at hi]
  exact hh.hd i hi
 ·rw [hd_len] at hi
  rw [hd_at hi]
  exact ARd.of_pps (h.cs i hi hi)
end
theorem hd_sm {S:Sp} {B:(Th→Int)→Pp→Bool} {F:List Ft} {Hs:List Hn} (h:∀ H∈Hs,HnSm H) (hc:(checkP S).2=0):∀ t∈hdT S B F Hs,HnSm t.h∧t.l.length≤1000000:=fun t ht=>by
 obtain ⟨H,hH,rfl⟩:=List.mem_map.1 ht
 exact ⟨h H hH,Nat.le_trans (List.length_filter_le _ _) (by
  have h1:=allFrom_len (spGood hc).r 0
  have h2:=sp_lens hc
  omega)⟩
def HrdR (S:Sp) (B:(Th→Int)→Pp→Bool) (F:List Ft) (Hs:List Hn) (hk hs hc:Nat→Value) (w:World) (e:Ending) (w':World):Prop :=
 ∃ v b,e = .returned (.tuple #[v,.bool b])∧(b=true→(∀ H∈Hs,hnE S H=0)∧∃ gh,TlRd w' v (hdT S B F Hs) hk hs hc gh∧w'.ownsRow w.heap.size 58 4 v Hs.length (hrC hk hs hc gh Hs.length))∧Below w.heap.size w w'
theorem hrd_no {S:Sp} {B:(Th→Int)→Pp→Bool} {F:List Ft} {Hs:List Hn} {hk hs hc:Nat→Value} {w w':World} (hb:Below w.heap.size w w'):HrdR S B F Hs hk hs hc w (.returned (.tuple #[.slice none 0 0,.bool false])) w':=⟨_,_,rfl,fun h=>absurd h (by decide),hb⟩
theorem heard_any (v1 v2 v3 v4:Value) (S:Sp) (ok:SpWk S) (fp:Nat→Value) (F:List Ft) (hf0:fltE S F=0) (hFl:F.length≤1000000) (fv:Value) (Hs:List Hn) (hhs:∀ H∈Hs,HnSm H) (hhl:Hs.length≤1000000) (hv:Value) (hk hss hcc:Nat→Value) (B:(Th→Int)→Pp→Bool) (hB:(checkP S).2=0→SndIs S B) (w:World) (hsp:SpRd w v1 v2 v3 v4 fp S) (hfv:ARd w fv 3 (F.map ftC)) (hhv:HnsRd w hv Hs hk hss hcc) :
  Calls Tryz.prog 10 #[.agg #[v1,v2,v3,v4],fv,hv] w (HrdR S B F Hs hk hss hcc w):=by
 obtain ⟨ha,hac,rfl⟩:=hhv.form
 obtain ⟨fa,fc,rfl⟩:=hfv.ftForm
 obtain ⟨i0,hi0,hz0,hz1,hz2⟩:=info_parts dgTrial_info
 have HHV:=hid hhv
 have HCK:=hid (fun (i:Nat) (hi:i<Hs.length) (W:World) (hb:Below w.heap.size w W)=>check12_any v1 v2 v3 v4 S ok fp (hk i) (hss i) (hcc i) Hs[i] (hhs _ (List.getElem_mem hi)) W (hsp.later hb) ((hhv.later hb).hd i hi))
 have HHE:=hid (fun (i:Nat) (hi:i<Hs.length) (W:World) (hb:Below w.heap.size w W)=>hearsW30_any v1 v2 v3 v4 S ok fp (hk i) (hss i) (hcc i) (.slice fa F.length fc) Hs[i] (hhs _ (List.getElem_mem hi)) F hFl B hB W (hsp.later hb) ((hhv.later hb).hd i hi) (hfv.later hb))
 have HE:=hid (fun (i:Nat) (hi:i<Hs.length) (h:hnE S Hs[i]=0)=>he_in (B:=B) hf0 h)
 have HW0:=hid (show HrW w v1 v2 v3 v4 (fun H=>hearL S B F (onH H)) Hs hk hss hcc 0 (fun _ => .nilFunc) (.slice none 0 0) (w.alloc (.cells #[v1,v2,v3,v4] 27)) from ⟨(Below.refl _ _).alloc (Nat.le_refl _) _,Blk.new w 27 #[v1,v2,v3,v4],World.ownsRow_nil _ _ _ _,fun i hi=>absurd hi (Nat.not_lt_zero i)⟩)
 have HN0:=hid (show ∀ i (h:i<Hs.length),i<0→hnE S Hs[i]=0 from fun i _ h=>absurd h (Nat.not_lt_zero i))
 clear hsp hfv hhv hhs hB ok hf0
 go_enter Tryz.func10,Tryz.ntmps10
 go_wp2
 generalize w.alloc (.cells #[v1,v2,v3,v4] 27)=W0 at *
 go_loopw [8,9] (fun v x wr=>∃ (k:Nat) (gh:Nat→Value),k≤Hs.length∧x = .int .i64 k∧Hid (∀ i (h:i<Hs.length),i<k→hnE S Hs[i]=0)∧Hid (HrW w v1 v2 v3 v4 (fun H=>hearL S B F (onH H)) Hs hk hss hcc k gh v wr)) (fun _ x _=>Hs.length-(intOf x).toNat)
 case atStart=>exact ⟨0,_,Nat.zero_le _,rfl,HN0,HW0⟩
 clear HN0 HW0
 obtain ⟨k,gh,hkl,rfl,hN,hW⟩:=hrel
 by_cases hkk:k<Hs.length
 ·have hk2:(k:Int)<(Hs.length:Int):=by omega
  obtain ⟨b,o,c',ev,_,q0,q1,q2⟩:=(HHV.out.later hW.out.b).at' hkk
  cases ev
  obtain ⟨⟨ka,kc,ek⟩,⟨sa,sc,es⟩,⟨ca,cc,ec⟩⟩:=((HHV.out.later hW.out.b).hd k hkk).forms
  have HC1:=hid (HCK.out k hkk)
  have HH1:=hid (HHE.out k hkk)
  have HE1:=hid (HE.out k hkk)
  have HNX:=hid (fun (h:hnE S Hs[k]=0)=>show ∀ i (h:i<Hs.length),i<k+1→hnE S Hs[i]=0 from fun i hi hl=>by
   by_cases e:i=k
   ·subst e;exact h
   ·exact hN.out i hi (by omega))
  rw [ek,es,ec] at HC1 HH1
  rw [ek] at q0
  rw [es] at q1
  rw [ec] at q2
  obtain ⟨n,hn⟩:∃ n,hnE S Hs[k]=n:=⟨_,rfl⟩
  rw [hn] at HC1 HNX HE1
  obtain ⟨s0,s1,s2,s3⟩:=hW.out.sp.four
  have hdr:=hold7 (W0:=w) ⟨hW.out.b,s0,s1,s2,s3,q0,q1,q2⟩ ((Below.refl _ wr).drew)
  clear s0 s1 s2 s3 q0 q1 q2 hn hN
  obtain ⟨kl,hkl1⟩:∃ kl,Hs[k].ks.length=kl:=⟨_,rfl⟩
  obtain ⟨sl,hsl1⟩:∃ sl,Hs[k].ss.length=sl:=⟨_,rfl⟩
  obtain ⟨cl,hcl1⟩:∃ cl,Hs[k].cs.length=cl:=⟨_,rfl⟩
  rw [hkl1,hsl1,hcl1] at HC1 HH1 hdr
  rw [hkl1] at ek
  rw [hsl1] at es
  rw [hcl1] at ec
  have HEK:=hid (show hk k=_∧hss k=_∧hcc k=_ from ⟨ek,es,ec⟩)
  clear hkl1 hsl1 hcl1 ek es ec
  go_upto_region 5 with fail
  go_region_held3 (fun w'=>Below w.heap.size w w'∧w'.cell? ⟨w.heap.size,0,none⟩=some v1∧w'.cell? ⟨w.heap.size,1,none⟩=some v2∧w'.cell? ⟨w.heap.size,2,none⟩=some v3∧w'.cell? ⟨w.heap.size,3,none⟩=some v4∧w'.cell? ⟨b,o+k * 3,none⟩=some (.slice ka kl kc)∧w'.cell? ⟨b,o+k * 3+1,none⟩=some (.slice sa sl sc)∧w'.cell? ⟨b,o+k * 3+2,none⟩=some (.slice ca cl cc)) (first | exact hdr | assumption | fail) (first | (go_at_call 33;(with_reducible refine (HC1.out _ hdr.1).mono ?_);rintro e w3 ⟨rfl,hb3⟩;have hn3:=hold7 hdr hb3;have HW3:=hid ((hW.out.later (Below.refl _ wr).drew).later hb3)) | fail)
  clear hdr HC1 HCK HHE HE
  by_cases hz:n=0
  case neg =>
   have q1:(n==0)=false:=by simpa using hz
   have q2:(n != 0)=true:=by simpa using hz
   clear hz hn3 HH1 HE1 HNX
   go_wp2
   go_ret2
   exact hrd_no HW3.out.b
  subst hz
  have HN2:=hid (HNX.out rfl)
  rw [(HE1.out rfl).1,(HE1.out rfl).2] at HH1
  obtain ⟨m,hm⟩:∃ m,hearL S B F (onH Hs[k])=m:=⟨_,rfl⟩
  rw [hm] at HH1
  have HMM:=hid hm
  have hdr:=hold7 (W0:=w) hn3 ((Below.refl _ w3).drew)
  clear hn3 HNX HE1 hm hW
  go_upto_region 7 with fail
  go_region_held3 (fun w'=>Below w.heap.size w w'∧w'.cell? ⟨w.heap.size,0,none⟩=some v1∧w'.cell? ⟨w.heap.size,1,none⟩=some v2∧w'.cell? ⟨w.heap.size,2,none⟩=some v3∧w'.cell? ⟨w.heap.size,3,none⟩=some v4∧w'.cell? ⟨b,o+k * 3,none⟩=some (.slice ka kl kc)∧w'.cell? ⟨b,o+k * 3+1,none⟩=some (.slice sa sl sc)∧w'.cell? ⟨b,o+k * 3+2,none⟩=some (.slice ca cl cc)) (first | exact hdr | assumption | fail) (first | (go_at_call 16;(with_reducible refine (HH1.out _ hdr.1).mono ?_);rintro e w4 ⟨u,rfl,hrow4,hb4⟩;obtain ⟨ua,un,rfl⟩:=own_form hrow4;have hn4:=hold7 hdr hb4;have HW4:=hid ((HW3.out.later (Below.refl _ w3).drew).later hb4);have HR4:=hid (row_base hrow4 hdr.1.size);clear hrow4) | fail)
  obtain ⟨_,_,_,_,_,q0,q1,q2⟩:=hn4
  clear hdr HH1 hb4 HW3
  have hsz:=HW4.out.b.size
  go_wp2_with (at_builtin;refine wpList_append_lies _ rfl _ _ 33 rfl w.heap.size 58 i0 _ 4 96 Tryz.underlying33 hi0 hz0 hz1 hz2 rfl (by omega) _ _ _ rfl (HW4.out.row.alloc _) ⟨w4.heap.size,0,none⟩ 1 1 [.slice ka kl kc,.slice sa sl sc,.slice ca cl cc,.slice ua m.length un] rfl rfl (World.news_of_block (cs:=#[.slice ka kl kc,.slice sa sl sc,.slice ca cl cc,.slice ua m.length un]) (t:=58) (fr:=(0,0)) (heap_alloc_new w4 _)) (by simp [Value.oneCell']) (by omega) (by unfold maxLen;omega) (by omega) (by simp;omega) (w4.heap.size+1) (by simp) ?_;intro gg cap w6 hown6 hgrow6 hat6 hlt6)
  have HW6:=hid (HW4.out.push hkk HMM.out HR4.out hgrow6 (by rw [HEK.out.1,HEK.out.2.1,HEK.out.2.2];exact hown6))
  refine ⟨⟨k+1,_,by omega,by go_num,HN2,HW6⟩,?_⟩
  simp [intOf]
  omega
 ·have hk2:¬ (k:Int)<(Hs.length:Int):=by omega
  have hke:k=Hs.length:=by omega
  rw [hke] at hN hW
  have HR:=hid (hW.out.rd (HHV.out.later hW.out.b))
  have HAL:=hid (show ∀ H∈Hs,hnE S H=0 from fun H hH=>by
   obtain ⟨i,hi,rfl⟩:=List.getElem_of_mem hH
   exact hN.out i hi hi)
  clear hke
  go_wp2
  go_ret2
  exact ⟨_,_,rfl,fun _=>⟨HAL.out,_,HR.out,hW.out.row⟩,hW.out.b⟩
end Go.Proofs.YteflhbfgpknabaaGreatDoor
