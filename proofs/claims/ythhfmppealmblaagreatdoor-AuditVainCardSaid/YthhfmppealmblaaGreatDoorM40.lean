/-
  A part of the proof: TI, SH, TJ, TK, TOd, TW, TX, TS, TYp, TU, ShelfI, TQ, TN.
-/
import Derived.Test.YthhfmppealmblaaGreatDoorM39
import Derived.Test.YthhfmppealmblaaGreatDoorM38
import Derived.Test.YthhfmppealmblaaGreatDoorM35
import Derived.Test.YthhfmppealmblaaGreatDoorM21
import Derived.Deep.RegionHeld3
import Derived.Test.YthhfmppealmblaaGreatDoorM30
import Derived.Test.YthhfmppealmblaaGreatDoorM12
import Derived.Test.YthhfmppealmblaaGreatDoorM01
import Derived.Shelf.Sort.Plain
import Derived.Shelf.Slices.In.SortNone
namespace Go.Proofs.YthhfmppealmblaaGreatDoor
def DrwP (l:List Ev) (k:Int) (ms:List Nat) (i:Nat):Prop:=∃ j∈ms,onV (l.take (j+1)) (k,0,(i:Int))=1
def FlP (B:(Th→Int)→Pp→Bool) (l:List Ev) (k:Int) (ms:List Nat) (i:Nat):Prop:=∃ j∈ms,onV (l.take (j+1)) (k,0,(i:Int))=1∧B (offF k i (onV (l.take (j+1))))≠B (onV (l.take (j+1)))
theorem drwP_snoc {l:List Ev} {k:Int} {ms:List Nat} {j i:Nat}:DrwP l k (ms++[j]) i ↔ DrwP l k ms i∨onV (l.take (j+1)) (k,0,(i:Int))=1:=by
 unfold DrwP
 constructor
 ·rintro ⟨x,hx,h⟩
  rcases List.mem_append.1 hx with hx | hx
  ·exact .inl ⟨x,hx,h⟩
  ·rw [List.mem_singleton] at hx
   subst hx
   exact .inr h
 ·rintro (⟨x,hx,h⟩ | h)
  ·exact ⟨x,List.mem_append.2 (.inl hx),h⟩
  ·exact ⟨j,by simp,h⟩
theorem flP_snoc {B:(Th→Int)→Pp→Bool} {l:List Ev} {k:Int} {ms:List Nat} {j i:Nat}:FlP B l k (ms++[j]) i ↔ FlP B l k ms i∨onV (l.take (j+1)) (k,0,(i:Int))=1∧B (offF k i (onV (l.take (j+1))))≠B (onV (l.take (j+1))):=by
 unfold FlP
 constructor
 ·rintro ⟨x,hx,h⟩
  rcases List.mem_append.1 hx with hx | hx
  ·exact .inl ⟨x,hx,h⟩
  ·rw [List.mem_singleton] at hx
   subst hx
   exact .inr h
 ·rintro (⟨x,hx,h⟩ | h)
  ·exact ⟨x,List.mem_append.2 (.inl hx),h⟩
  ·exact ⟨j,by simp,h⟩
theorem mom_tick {l:List Ev} (ha:Asc l) {j:Nat} (hj:j∈momI l l.length):(l.getD j ev0).1∈ticksL [] l∧upF l (l.getD j ev0).1=onV (l.take (j+1)):=by
 obtain ⟨hil,hm⟩:=mem_momI.1 hj
 rw [← ticks_mom ha]
 refine ⟨List.mem_map.2 ⟨j,hj,rfl⟩,?_⟩
 unfold upF
 rw [getD_at hil,upN_mom ha hil hm]
theorem tick_mom {l:List Ev} (ha:Asc l) {t:Int} (ht:t∈ticksL [] l):∃ j∈momI l l.length,upF l t=onV (l.take (j+1)):=by
 rw [← ticks_mom ha] at ht
 obtain ⟨j,hj,rfl⟩:=List.mem_map.1 ht
 exact ⟨j,hj,(mom_tick ha hj).2⟩
theorem idleP_mom {B:(Th→Int)→Pp→Bool} {l:List Ev} (ha:Asc l) {k:Int} {i:Nat}:IdleP B l k i ↔ DrwP l k (momI l l.length) i∧¬ FlP B l k (momI l l.length) i:=by
 unfold IdleP DrwP FlP
 constructor
 ·rintro ⟨⟨t,ht,h1⟩,h2⟩
  constructor
  ·obtain ⟨j,hj,e⟩:=tick_mom ha ht
   exact ⟨j,hj,by rw [← e];exact h1⟩
  ·rintro ⟨j,hj,h3,h4⟩
   obtain ⟨m1,m2⟩:=mom_tick ha hj
   refine h4 (funext fun p=>?_)
   have:=h2 _ m1 (by rw [m2];exact h3) p
   rwa [m2] at this
 ·rintro ⟨⟨j,hj,h1⟩,h2⟩
  obtain ⟨m1,m2⟩:=mom_tick ha hj
  refine ⟨⟨_,m1,by rw [m2];exact h1⟩,fun t ht h3 p=>?_⟩
  obtain ⟨j2,hj2,e⟩:=tick_mom ha ht
  rw [e] at h3 ⊢
  have h4:B (offF k i (onV (l.take (j2+1))))=B (onV (l.take (j2+1))):=Classical.byContradiction fun q=>h2 ⟨j2,hj2,h3,q⟩
  rw [h4]
def IdL (B:(Th→Int)→Pp→Bool) (l:List Ev) (k:Int) (n:Nat) (L:List Int):Prop:=L.Pairwise (· < ·)∧∀ x,x∈L ↔ ∃ i:Nat,x=(i:Int)∧i<n∧IdleP B l k i
theorem IdL.one {B:(Th→Int)→Pp→Bool} {l:List Ev} {k:Int} {n:Nat} {L M:List Int} (h:IdL B l k n L) (h':IdL B l k n M):L=M:=tks_same h.1 h'.1 fun x=>(h.2 x).trans (h'.2 x).symm
end Go.Proofs.YthhfmppealmblaaGreatDoor
namespace Go.Proofs.YthhfmppealmblaaGreatDoor
open Go.RowKit
set_option maxRecDepth 100000 in
set_option maxHeartbeats 3200000 in
theorem same_ints (l:List Int) (v u:Value) (w:World) (hv:ARd w v 1 (l.map iC)) (hu:ARd w u 1 (l.map iC)) (hl:l.length≤100000) :
  Calls Tryz.prog 35 #[v,u] w fun e w'=>e = .returned (.bool true)∧Below w.heap.size w w':=by
 obtain ⟨a,c,ev⟩:=hv.form
 obtain ⟨a2,c2,eu⟩:=hu.form
 rw [List.length_map] at ev eu
 subst ev
 subst eu
 have HV:=Lib.hid hv
 have HU:=Lib.hid hu
 go_enter Tryz.func35,Tryz.ntmps35
 go_wp2
 go_loopw [5] (fun x wr=>∃ k:Nat,k≤l.length∧x = .int .i64 k∧RowKit.Hid (Below w.heap.size w wr)) (fun x _=>l.length-(intOf x).toNat)
 case atStart=>exact ⟨0,by omega,rfl,Lib.hid (Below.refl _ _)⟩
 obtain ⟨k,hk,rfl,hW⟩:=hrel
 by_cases hlt:k<l.length
 ·obtain ⟨b,o,c',ev',hbl,hc⟩:=(HV.out.later hW.out).at k (by simpa using hlt)
  obtain ⟨b2,o2,c2',eu',hbl2,hc2⟩:=(HU.out.later hW.out).at k (by simpa using hlt)
  rw [List.getElem_map] at hc hc2
  rw [List.length_map] at ev' eu'
  have q0:wr.cell? ⟨b,o+k,none⟩=some (.int .i64 l[k]):=by have:=hc 0 _ rfl;rwa [Nat.mul_one] at this
  have r0:wr.cell? ⟨b2,o2+k,none⟩=some (.int .i64 l[k]):=by have:=hc2 0 _ rfl;rwa [Nat.mul_one] at this
  cases ev'
  cases eu'
  have hk2:(k:Int)<(l.length:Int):=by omega
  go_wp2_with fail
  go_quiet (fail)
  go_wp2
  go_roundw
  case rel=>exact ⟨k+1,by omega,by go_num,Lib.hid (below_drewN hW.out nq)⟩
  case measure=>simp [intOf];omega
 ·have hk2:¬ ((k:Int)<(l.length:Int)):=by omega
  go_wp2
  go_ret
  exact ⟨rfl,hW.out⟩
end Go.Proofs.YthhfmppealmblaaGreatDoor
namespace Go.Proofs.YthhfmppealmblaaGreatDoor
open Go.RowKit
def wthL (l:List Int) (n:Int):List Int:=l.filter fun x=>decide (x≠n)
def WthR (l:List Int) (n:Int) (w:World) (e:Ending) (w':World):Prop:=∃ v,e = .returned (.tuple #[v,.bool (decide (n∈l))])∧w'.ownsRow w.heap.size 3 1 v (wthL l n).length (iCs (wthL l n))∧Below w.heap.size w w'
theorem wthL_take {l:List Int} {n:Int} {i:Nat} (h:i<l.length):wthL (l.take (i+1)) n=wthL (l.take i) n++if l[i]≠n then [l[i]] else []:=by
 unfold wthL
 rw [List.take_succ_eq_append_getElem h,List.filter_append]
 congr 1
 by_cases q:l[i]≠n
 ·rw [if_pos q,List.filter_cons_of_pos (by simpa using q)];rfl
 ·rw [if_neg q,List.filter_cons_of_neg (by simpa using q)];rfl
theorem wthL_len (l:List Int) (n:Int):(wthL l n).length≤l.length:=List.length_filter_le _ _
theorem wthL_lt {l:List Int} {n:Int}:(wthL l n).length<l.length ↔ n∈l:=by
 unfold wthL
 induction l with
 | nil=>simp
 | cons a l ih =>
  have h1:=List.length_filter_le (fun x=>decide (x≠n)) l
  by_cases q:a=n
  ·rw [List.filter_cons_of_neg (by simpa using q),List.length_cons,q]
   simp only [List.mem_cons,true_or,iff_true]
   omega
  ·rw [List.filter_cons_of_pos (by simpa using q),List.length_cons,List.length_cons,List.mem_cons]
   constructor
   ·intro h
    exact .inr (ih.1 (by omega))
   ·rintro (h | h)
    ·exact absurd h.symm q
    ·have:=ih.2 h
     omega
set_option maxRecDepth 100000 in
set_option maxHeartbeats 12800000 in
theorem without_any (l:List Int) (n:Int) (vl:Value) (w:World) (hlv:ARd w vl 1 (l.map iC)) (hl:l.length≤100000) :
  Calls Tryz.prog 93 #[vl,.int .i64 n] w (WthR l n w):=by
 obtain ⟨i0,hi0,hz0,hz1,hz2⟩:=info_parts int64_info
 obtain ⟨al,cl,evl⟩:=hlv.intForm
 subst evl
 have HLV:=Lib.hid hlv
 have HR0:=Lib.hid (show w.ownsRow w.heap.size 3 1 (.slice none 0 0) (wthL (l.take 0) n).length (iCs (wthL (l.take 0) n)) from World.ownsRow_nil _ _ _ _)
 have HW0:=Lib.hid (Below.refl w.heap.size w)
 clear hlv
 go_enter Tryz.func93,Tryz.ntmps93
 go_wp2
 go_loopw [6,7] (fun v x wr=>∃ i:Nat,i≤l.length∧x = .int .i64 i∧RowKit.Hid (wr.ownsRow w.heap.size 3 1 v (wthL (l.take i) n).length (iCs (wthL (l.take i) n)))∧RowKit.Hid (Below w.heap.size w wr)) (fun _ x _=>l.length-(intOf x).toNat)
 case atStart=>exact ⟨0,Nat.zero_le _,rfl,HR0,HW0⟩
 clear HR0 HW0
 obtain ⟨i,hi,rfl,hrow,hW⟩:=hrel
 by_cases hil:i<l.length
 ·have hi2:(i:Int)<(l.length:Int):=by omega
  obtain ⟨b,o,c',ev,hbl,q0⟩:=(HLV.out.later hW.out).intAt i hil
  cases ev
  have HS:=Lib.hid (wthL_take (n:=n) hil)
  have hll:=wthL_len (l.take i) n
  rw [List.length_take] at hll
  have hsz:=hW.out.size
  obtain ⟨x,hx⟩:∃ x,l[i]=x:=⟨_,rfl⟩
  rw [hx] at q0 HS
  obtain ⟨L,hL⟩:∃ L,wthL (l.take i) n=L:=⟨_,rfl⟩
  rw [hL] at hrow HS hll
  by_cases hxn:x=n
  ·have HS2:=Lib.hid (show wthL (l.take (i+1)) n=L by rw [HS.out,if_neg (by simpa using hxn)];simp)
   subst hxn
   clear hL HS hx
   go_wp2
   go_roundw
   case rel=>exact ⟨i+1,by omega,by go_num,by rw [HS2.out];exact hrow,hW⟩
   case measure=>simp [intOf];omega
  ·have HS2:=Lib.hid (show wthL (l.take (i+1)) n=L++[x] by rw [HS.out,if_pos hxn])
   have d1:(x != n)=true:=by simpa using hxn
   clear hL HS hx hxn
   go_wp2_with (at_builtin;refine wpList_append_lies _ rfl _ _ 68 rfl w.heap.size 3 i0 _ 1 8 Tryz.underlying68 hi0 hz0 hz1 hz2 rfl (by omega) _ _ _ rfl (hrow.out.alloc _) ⟨wr.heap.size,0,none⟩ 1 1 [.int .i64 x] rfl rfl (World.news_of_block (cs:=#[.int .i64 x]) (t:=3) (fr:=(0,0)) (heap_alloc_new wr _)) (by simp [Value.oneCell']) (by omega) (by unfold maxLen;omega) (by omega) (by simp;omega) (wr.heap.size+1) (by simp) ?_;intro gg cap w8 hown8 hgrow hat8 hlt8)
   have HQ:=Lib.hid (show w8.ownsRow w.heap.size 3 1 (.slice (some ⟨gg,0,none⟩) (L.length+1) cap) (L++[x]).length (iCs (L++[x])) by rw [iCs_snoc,List.length_append,List.length_singleton];exact hown8)
   have HB8:RowKit.Hid (Below w.heap.size w w8):=Lib.hid ((hW.out.alloc hW.out.size _).grown hgrow (by have:=hW.out.size;simp;omega) (fun j e=>row_ge hrow.out e))
   clear hown8 hgrow hat8 hlt8
   go_wp2
   go_roundw
   case rel=>exact ⟨i+1,by omega,by go_num,by rw [HS2.out];simpa only [List.length_append] using HQ,HB8⟩
   case measure=>simp [intOf];omega
 have hie:i=l.length:=by omega
 subst hie
 have hi2:¬ (l.length:Int)<(l.length:Int):=by omega
 obtain ⟨av,cv,evv⟩:=row_formN hrow.out
 subst evv
 rw [List.take_length] at hrow ⊢
 have HR:=Lib.hid hrow.out
 have HBB:=Lib.hid (show decide (n∈l)=decide ((wthL l n).length<l.length) from decide_eq_decide.2 wthL_lt.symm)
 clear hrow
 go_wp2
 go_ret2
 exact ⟨_,by rw [HBB.out];rfl,HR.out,hW.out⟩
end Go.Proofs.YthhfmppealmblaaGreatDoor
namespace Go.Proofs.YthhfmppealmblaaGreatDoor
open Go.RowKit
theorem ppFormI {w:World} {v:Value} {l:List Pp} (h:ARd w v 2 (l.map ppC)):∃ a c,v = .slice a l.length c:=by
 obtain ⟨a,c,e⟩:=h.form
 exact ⟨a,c,by simpa using e⟩
set_option maxRecDepth 100000 in
set_option maxHeartbeats 3200000 in
theorem samep_any (a b:List Pp) (va vb:Value) (w:World) (ha:ARd w va 2 (a.map ppC)) (hb:ARd w vb 2 (b.map ppC)) (hl:a.length≤1000000) :
  Calls Tryz.prog 94 #[va,vb] w (BoR (decide (a=b)) w):=by
 obtain ⟨aa,ca,eva⟩:=ppFormI ha
 obtain ⟨ab,cb,evb⟩:=ppFormI hb
 subst eva evb
 have HA:=Lib.hid ha
 have HB:=Lib.hid hb
 clear ha hb
 go_enter Tryz.func94,Tryz.ntmps94
 by_cases hln:a.length=b.length
 case neg =>
  have q1:((a.length:Int)==(b.length:Int))=false:=by rw [beq_eq_false_iff_ne];omega
  have HE:RowKit.Hid (decide (a=b)=false):=Lib.hid (decide_eq_false (fun q=>hln (congrArg List.length q)))
  have HW:=Lib.hid (Below.refl w.heap.size w)
  clear hln
  go_wp2
  go_ret
  exact ⟨by rw [HE.out];rfl,HW.out⟩
 have q1:((a.length:Int)==(b.length:Int))=true:=by rw [beq_iff_eq];omega
 have HLN:=Lib.hid hln
 have HV0:RowKit.Hid (∀ j (h1:j<a.length) (h2:j<b.length),j<0→a[j]=b[j]):=Lib.hid (fun j _ _ h=>absurd h (Nat.not_lt_zero _))
 have HW0:=Lib.hid (Below.refl w.heap.size w)
 obtain ⟨bl,hbl⟩:∃ n,b.length=n:=⟨_,rfl⟩
 rw [hbl] at q1 ⊢
 have HBL:=Lib.hid hbl
 clear hln hbl
 go_wp2
 go_loopw [5] (fun x wr=>∃ i:Nat,i≤a.length∧x = .int .i64 i∧RowKit.Hid (∀ j (h1:j<a.length) (h2:j<b.length),j<i→a[j]=b[j])∧RowKit.Hid (Below w.heap.size w wr)) (fun x _=>a.length-(intOf x).toNat)
 case atStart=>exact ⟨0,Nat.zero_le _,rfl,HV0,HW0⟩
 clear HV0 HW0
 obtain ⟨i,hi,rfl,hV,hW⟩:=hrel
 by_cases hil:i<a.length
 ·have hi2:(i:Int)<(a.length:Int):=by omega
  have hib:i<b.length:=by rw [← HLN.out];exact hil
  have hi3:(i:Int)<(bl:Int):=by have:=HBL.out;omega
  obtain ⟨b1,o1,c1,ev,hbl,k0,k1⟩:=(HA.out.later hW.out).ppAt i hil
  cases ev
  obtain ⟨b2,o2,c2,ev,hbl2,m0,m1⟩:=(HB.out.later hW.out).ppAt i hib
  rw [HBL.out] at ev
  cases ev
  have HX:=Lib.hid (show a[i]=b[i]→∀ j (h1:j<a.length) (h2:j<b.length),j<i+1→a[j]=b[j] from fun h j h1 h2 hj=>by
   rcases Nat.lt_or_ge j i with q | q
   ·exact hV.out j h1 h2 q
   ·have:j=i:=by omega
    subst this
    exact h)
  have HY:=Lib.hid (show a[i]≠b[i]→a≠b from fun h q=>h (by subst q;rfl))
  obtain ⟨⟨x0,x1⟩,hx⟩:∃ x,a[i]=x:=⟨_,rfl⟩
  obtain ⟨⟨y0,y1⟩,hy⟩:∃ y,b[i]=y:=⟨_,rfl⟩
  rw [hx] at k0 k1 HX HY
  rw [hy] at m0 m1 HX HY
  dsimp only at k0 k1 m0 m1
  clear hx hy hV hbl hbl2 hib
  obtain ⟨bb,hbb⟩:∃ bb,decide (((x0,x1):Pp)=(y0,y1))=bb:=⟨_,rfl⟩
  have hne:=fun W=>nePp hbb W
  dsimp only at hne
  cases bb with
  | true =>
   have HN:=Lib.hid (HX.out (of_decide_eq_true hbb))
   clear hbb HX HY
   go_upto_region 6 with fail
   go_quiet (fail)
   have HW9:=Lib.hid (below_drewN hW.out nq)
   go_wp2
   go_roundw
   case rel=>exact ⟨i+1,by omega,by go_num,HN,HW9⟩
   case measure=>simp [intOf];omega
  | false =>
   have HN:RowKit.Hid (decide (a=b)=false):=Lib.hid (decide_eq_false (HY.out (of_decide_eq_false hbb)))
   clear hbb HX HY
   go_upto_region 6 with fail
   go_quiet (fail)
   have HW9:=Lib.hid (below_drewN hW.out nq)
   go_wp2
   go_ret
   exact ⟨by rw [HN.out];rfl,HW9.out⟩
 ·have hi2:¬ (i:Int)<(a.length:Int):=by omega
  have HN:RowKit.Hid (decide (a=b)=true):=Lib.hid (decide_eq_true (List.ext_getElem HLN.out (fun j h1 h2=>hV.out j h1 h2 (by omega))))
  go_wp2
  go_ret
  exact ⟨by rw [HN.out];rfl,hW.out⟩
theorem onL_off {k:Int} {i n:Nat} (f:Th→Int):onL (offF k i f) k n=wthL (onL f k n) (i:Int):=by
 unfold onL wthL
 rw [List.filter_filter]
 refine List.filter_congr fun x hx=>?_
 unfold offF
 by_cases e:x=(i:Int)
 ·subst e;simp
 ·have h1:¬ ((k,(0:Int),x)=(k,0,(i:Int))):=fun q=>e (by simpa using q)
  rw [if_neg h1]
  simp [e]
theorem onL_else {k k':Int} {i n:Nat} (f:Th→Int) (h:k≠k'):onL (offF k i f) k' n=onL f k' n:=by
 unfold onL
 refine List.filter_congr fun x hx=>?_
 unfold offF
 rw [if_neg (fun q=>h (congrArg (·.1) q).symm)]
theorem playedL_off {k:Int} {i:Nat} (f:Th→Int) (h:k≠1) (d:Int):playedL (offF k i f) d=playedL f d:=by
 unfold playedL
 refine List.filter_congr fun x hx=>?_
 unfold offF
 rw [if_neg (fun q=>h (congrArg (·.1) q).symm)]
theorem mem_onL_at {k:Int} {i n:Nat} {f:Th→Int} (h:i<n):(i:Int)∈onL f k n ↔ f (k,0,(i:Int))=1:=by
 unfold onL
 rw [List.mem_filter,decide_eq_true_iff]
 exact ⟨fun h=>h.2,fun h2=>⟨List.mem_map.2 ⟨i,List.mem_range.2 h,rfl⟩,h2⟩⟩
theorem HdRd.offStop {W':World} {vk vs vc u:Value} {S:Sp} {f:Th→Int} {i:Nat} (h:HdRd W' vk vs vc S f) (hu:ARd W' u 1 ((wthL (onL f 2 S.ss.length) (i:Int)).map iC)):HdRd W' vk u vc S (offF 2 i f):=by
 obtain ⟨⟨g,h1,h2⟩,h3,h4⟩:=h
 refine ⟨⟨g,h1,fun d hd=>?_⟩,?_,?_⟩
 ·rw [playedL_off f (by decide)];exact h2 d hd
 ·rw [onL_off];exact hu
 ·rw [onL_else f (by decide)];exact h4
theorem HdRd.offCou {W':World} {vk vs vc u:Value} {S:Sp} {f:Th→Int} {i:Nat} (h:HdRd W' vk vs vc S f) (hu:ARd W' u 1 ((wthL (onL f 3 S.cs.length) (i:Int)).map iC)):HdRd W' vk vs u S (offF 3 i f):=by
 obtain ⟨⟨g,h1,h2⟩,h3,h4⟩:=h
 refine ⟨⟨g,h1,fun d hd=>?_⟩,?_,?_⟩
 ·rw [playedL_off f (by decide)];exact h2 d hd
 ·rw [onL_else f (by decide)];exact h3
 ·rw [onL_off];exact hu
theorem OnOk.off {S:Sp} {f:Th→Int} {k:Int} {i:Nat} (h:OnOk S f):OnOk S (offF k i f):=by
 have h0:∀ t,offF k i f t≠0→f t≠0:=fun t ht=>by
  unfold offF at ht
  split at ht
  ·exact absurd rfl ht
  ·exact ht
 refine ⟨fun d x hx=>h.key d x (h0 _ hx),fun t ht=>?_,fun d x hx=>h.stop d x (h0 _ hx),fun d x hx=>h.cou d x (h0 _ hx)⟩
 unfold offF
 split
 ·exact .inl rfl
 ·exact h.bin t ht
theorem sndL_same {S:Sp} {B:(Th→Int)→Pp→Bool} (hB:SndIs S B) (g:∀ x∈S.ss,∀ key,∀ p∈playsL x key,p∈allFrom 0 S.rs) {f f':Th→Int}:sndL S B f=sndL S B f' ↔ B f=B f':=by
 constructor
 ·intro h
  funext p
  have hin:∀ f:Th→Int,B f p=true ↔ p∈sndL S B f:=fun f=>by
   unfold sndL
   rw [List.mem_filter]
   exact ⟨fun hb=>⟨snd_all g ((hB f p).1 hb),hb⟩,fun hb=>hb.2⟩
  rw [Bool.eq_iff_iff,hin,hin,h]
 ·intro h
  unfold sndL
  rw [h]
end Go.Proofs.YthhfmppealmblaaGreatDoor
namespace Go.Proofs.YthhfmppealmblaaGreatDoor
open Go.RowKit
def IdT (B:(Th→Int)→Pp→Bool) (F:Int→Th→Int) (k:Int) (i:Nat) (T:List Int):Prop:=(∃ t∈T,F t (k,0,(i:Int))=1)∧∀ t∈T,F t (k,0,(i:Int))=1→B (offF k i (F t))=B (F t)
noncomputable def idB (B:(Th→Int)→Pp→Bool) (F:Int→Th→Int) (k:Int) (T:List Int) (i:Nat):Bool:=@decide (IdT B F k i T) (Classical.propDecidable _)
theorem idB_iff {B:(Th→Int)→Pp→Bool} {F:Int→Th→Int} {k:Int} {T:List Int} {i:Nat}:idB B F k T i=true ↔ IdT B F k i T:=by
 unfold idB
 rw [@decide_eq_true_iff _ (Classical.propDecidable _)]
theorem idT_idle {B:(Th→Int)→Pp→Bool} {l:List Ev} {k:Int} {i:Nat}:IdT B (upF l) k i (ticksL [] l) ↔ IdleP B l k i:=by
 unfold IdT IdleP
 constructor
 ·rintro ⟨h1,h2⟩
  exact ⟨h1,fun t ht h3 p=>by rw [h2 t ht h3]⟩
 ·rintro ⟨h1,h2⟩
  exact ⟨h1,fun t ht h3=>funext fun p=>h2 t ht h3 p⟩
theorem onI_asc (b:Nat→Bool):∀ n,(onI b n).Pairwise (· < ·)
 | 0=>List.Pairwise.nil
 | n+1=>by
  rw [onI_succ]
  split
  ·rw [List.pairwise_append]
   refine ⟨onI_asc b n,List.pairwise_singleton _ _,fun x hx y hy=>?_⟩
   rw [List.mem_singleton] at hy
   subst hy
   unfold onI at hx
   obtain ⟨i,hi,rfl⟩:=List.mem_map.1 hx
   have:=List.mem_range.1 (List.mem_filter.1 hi).1
   omega
  ·rw [List.append_nil]
   exact onI_asc b n
theorem idL_on (B:(Th→Int)→Pp→Bool) (l:List Ev) (k:Int) (n:Nat):IdL B l k n (onI (idB B (upF l) k (ticksL [] l)) n):=by
 refine ⟨onI_asc _ n,fun x=>?_⟩
 unfold onI
 rw [List.mem_map]
 constructor
 ·rintro ⟨i,hi,rfl⟩
  obtain ⟨h1,h2⟩:=List.mem_filter.1 hi
  exact ⟨i,rfl,List.mem_range.1 h1,idT_idle.1 (idB_iff.1 h2)⟩
 ·rintro ⟨i,rfl,h1,h2⟩
  exact ⟨i,List.mem_filter.2 ⟨List.mem_range.2 h1,idB_iff.2 (idT_idle.2 h2)⟩,rfl⟩
def IdR (S:Sp) (B:(Th→Int)→Pp→Bool) (l:List Ev) (w:World) (e:Ending) (w':World):Prop:=∃ vs vc L M,e = .returned (.tuple #[vs,vc,.int .i64 (audE S l)])∧w'.ownsRow w.heap.size 3 1 vs L.length (iCs L)∧w'.ownsRow w.heap.size 3 1 vc M.length (iCs M)∧(audE S l=0→IdL B l 2 S.ss.length L∧IdL B l 3 S.cs.length M)∧(audE S l≠0→L=[]∧M=[])∧Below w.heap.size w w'
end Go.Proofs.YthhfmppealmblaaGreatDoor
namespace Go.Proofs.YthhfmppealmblaaGreatDoor
end Go.Proofs.YthhfmppealmblaaGreatDoor
namespace Go.Proofs.YthhfmppealmblaaGreatDoor
open Go.RowKit
theorem getD_T {T:List Int} {i:Nat} (h:i<T.length):T.getD i 0=T[i]:=by rw [List.getD_eq_getElem?_getD,List.getElem?_eq_getElem h];rfl
end Go.Proofs.YthhfmppealmblaaGreatDoor
namespace Go.Proofs.YthhfmppealmblaaGreatDoor
open Go.RowKit Go.Shelf
end Go.Proofs.YthhfmppealmblaaGreatDoor
namespace Go.Proofs.YthhfmppealmblaaGreatDoor
open Go.RowKit
theorem blk_off_row {W:World} {b base n k:Nat} {t t2:TypeId} {cs:Array Value} {v:Value} {xs:List Value} (h:Blk W b t cs) (hr:W.ownsRow base t2 k v n xs) (hne:t≠t2):v.ownBlock=none∨v.ownBlock≠some b:=by
 rcases hr.2 with ⟨rfl,_⟩ | ⟨g,cap,cur,rfl,_,hgg,_⟩
 ·exact .inl rfl
 ·refine .inr fun e=>?_
  have e':g=b:=Option.some.inj e
  subst e'
  unfold Blk at h
  rw [h] at hgg
  cases hgg
  exact hne rfl
end Go.Proofs.YthhfmppealmblaaGreatDoor
namespace Go.Proofs.YthhfmppealmblaaGreatDoor
def msA (ms:List Nat) (j i m:Nat):List Nat:=if m<i then ms++[j] else ms
def IdM (B:(Th→Int)→Pp→Bool) (l:List Ev) (k:Int) (n:Nat) (ms:List Nat) (j i:Nat) (Dm Df:List Int):Prop:=(∀ x,x∈Dm ↔ ∃ m:Nat,x=(m:Int)∧m<n∧DrwP l k (msA ms j i m) m∧¬ FlP B l k (msA ms j i m) m)∧∀ x,x∈Df ↔ ∃ m:Nat,x=(m:Int)∧m<n∧FlP B l k (msA ms j i m) m
theorem msA_ne {ms:List Nat} {j i m:Nat} (h:m≠i):msA ms j (i+1) m=msA ms j i m:=by
 unfold msA
 by_cases q:m<i
 ·rw [if_pos q,if_pos (by omega)]
 ·rw [if_neg q,if_neg (by omega)]
theorem msA_at {ms:List Nat} {j i:Nat}:msA ms j (i+1) i=ms++[j]:=if_pos (Nat.lt_succ_self i)
theorem IdM.step {B:(Th→Int)→Pp→Bool} {l:List Ev} {k:Int} {n:Nat} {ms:List Nat} {j i:Nat} {Dm Df Dm' Df':List Int} (h:IdM B l k n ms j i Dm Df) (hi:i<n) (hm:∀ x:Int,x∈Dm' ↔ if x=(i:Int) then DrwP l k (ms++[j]) i∧¬ FlP B l k (ms++[j]) i else x∈Dm) (hf:∀ x:Int,x∈Df' ↔ if x=(i:Int) then FlP B l k (ms++[j]) i else x∈Df):IdM B l k n ms j (i+1) Dm' Df':=by
 refine ⟨fun x=>?_,fun x=>?_⟩
 ·rw [hm x]
  by_cases e:x=(i:Int)
  ·rw [if_pos e]
   constructor
   ·intro q
    exact ⟨i,e,hi,by rw [msA_at];exact q⟩
   ·rintro ⟨m,e2,_,q⟩
    have:m=i:=by omega
    subst this
    rw [msA_at] at q
    exact q
  ·rw [if_neg e,h.1 x]
   constructor
   ·rintro ⟨m,e2,h2,q⟩
    exact ⟨m,e2,h2,by rw [msA_ne (by omega)];exact q⟩
   ·rintro ⟨m,e2,h2,q⟩
    rw [msA_ne (by omega)] at q
    exact ⟨m,e2,h2,q⟩
 ·rw [hf x]
  by_cases e:x=(i:Int)
  ·rw [if_pos e]
   constructor
   ·intro q
    exact ⟨i,e,hi,by rw [msA_at];exact q⟩
   ·rintro ⟨m,e2,_,q⟩
    have:m=i:=by omega
    subst this
    rw [msA_at] at q
    exact q
  ·rw [if_neg e,h.2 x]
   constructor
   ·rintro ⟨m,e2,h2,q⟩
    exact ⟨m,e2,h2,by rw [msA_ne (by omega)];exact q⟩
   ·rintro ⟨m,e2,h2,q⟩
    rw [msA_ne (by omega)] at q
    exact ⟨m,e2,h2,q⟩
theorem IdM.has {B:(Th→Int)→Pp→Bool} {l:List Ev} {k:Int} {n:Nat} {ms:List Nat} {j i:Nat} {Dm Df:List Int} (h:IdM B l k n ms j i Dm Df) (hi:i<n):((i:Int)∈Df ↔ FlP B l k ms i)∧((i:Int)∈Dm ↔ DrwP l k ms i∧¬ FlP B l k ms i):=by
 have e:msA ms j i i=ms:=if_neg (Nat.lt_irrefl i)
 constructor
 ·rw [h.2]
  constructor
  ·rintro ⟨m,e2,_,q⟩
   have:m=i:=by omega
   subst this
   rw [e] at q
   exact q
  ·intro q
   exact ⟨i,rfl,hi,by rw [e];exact q⟩
 ·rw [h.1]
  constructor
  ·rintro ⟨m,e2,_,q⟩
   have:m=i:=by omega
   subst this
   rw [e] at q
   exact q
  ·intro q
   exact ⟨i,rfl,hi,by rw [e];exact q⟩
theorem IdM.skip {B:(Th→Int)→Pp→Bool} {l:List Ev} {k:Int} {n:Nat} {ms:List Nat} {j i:Nat} {Dm Df:List Int} (h:IdM B l k n ms j i Dm Df) (hi:i<n) (hs:onV (l.take (j+1)) (k,0,(i:Int))≠1∨(i:Int)∈Df):IdM B l k n ms j (i+1) Dm Df:=by
 obtain ⟨h1,h2⟩:=h.has hi
 refine h.step hi (fun x=>?_) (fun x=>?_)
 ·by_cases e:x=(i:Int)
  ·rw [if_pos e,e,h2,drwP_snoc,flP_snoc]
   rcases hs with q | q
   ·exact ⟨fun z=>⟨.inl z.1,fun y=>y.elim z.2 (fun u=>q u.1)⟩,fun z=>⟨z.1.elim id (fun u=>absurd u q),fun y=>z.2 (.inl y)⟩⟩
   ·exact ⟨fun z=>absurd (h1.1 q) z.2,fun z=>absurd (.inl (h1.1 q)) z.2⟩
  ·rw [if_neg e]
 ·by_cases e:x=(i:Int)
  ·rw [if_pos e,e,h1,flP_snoc]
   rcases hs with q | q
   ·exact ⟨.inl,fun y=>y.elim id (fun u=>absurd u.1 q)⟩
   ·exact ⟨.inl,fun _=>h1.1 q⟩
  ·rw [if_neg e]
theorem IdM.zero {B:(Th→Int)→Pp→Bool} {l:List Ev} {k:Int} {n:Nat} (j:Nat):IdM B l k n [] j 0 [] []:=by
 refine ⟨fun x=>⟨fun h=>(by cases h),?_⟩,fun x=>⟨fun h=>(by cases h),?_⟩⟩
 ·rintro ⟨m,_,_,⟨y,hy,_⟩,_⟩
  unfold msA at hy
  rw [if_neg (Nat.not_lt_zero m)] at hy
  cases hy
 ·rintro ⟨m,_,_,⟨y,hy,_⟩⟩
  unfold msA at hy
  rw [if_neg (Nat.not_lt_zero m)] at hy
  cases hy
theorem IdM.next {B:(Th→Int)→Pp→Bool} {l:List Ev} {k:Int} {n:Nat} {ms:List Nat} {j:Nat} {Dm Df:List Int} (h:IdM B l k n ms j n Dm Df) (j':Nat):IdM B l k n (ms++[j]) j' 0 Dm Df:=by
 have e1:∀ m,m<n→msA ms j n m=ms++[j]:=fun m hm=>if_pos hm
 have e2:∀ m,msA (ms++[j]) j' 0 m=ms++[j]:=fun m=>if_neg (Nat.not_lt_zero m)
 refine ⟨fun x=>(h.1 x).trans ?_,fun x=>(h.2 x).trans ?_⟩
 ·constructor
  ·rintro ⟨m,a,b,q⟩
   rw [e1 m b] at q
   exact ⟨m,a,b,by rw [e2];exact q⟩
  ·rintro ⟨m,a,b,q⟩
   rw [e2] at q
   exact ⟨m,a,b,by rw [e1 m b];exact q⟩
 ·constructor
  ·rintro ⟨m,a,b,q⟩
   rw [e1 m b] at q
   exact ⟨m,a,b,by rw [e2];exact q⟩
  ·rintro ⟨m,a,b,q⟩
   rw [e2] at q
   exact ⟨m,a,b,by rw [e1 m b];exact q⟩
theorem IdM.keep {B:(Th→Int)→Pp→Bool} {l:List Ev} {k:Int} {n:Nat} {ms:List Nat} {j i:Nat} {Dm Df Dm':List Int} (h:IdM B l k n ms j i Dm Df) (hi:i<n) (hd:onV (l.take (j+1)) (k,0,(i:Int))=1) (hn:(i:Int) ∉ Df) (hc:B (offF k i (onV (l.take (j+1))))=B (onV (l.take (j+1)))) (hm:∀ x:Int,x∈Dm' ↔ x=(i:Int)∨x∈Dm):IdM B l k n ms j (i+1) Dm' Df:=by
 obtain ⟨h1,h2⟩:=h.has hi
 have hnf:¬ FlP B l k ms i:=fun q=>hn (h1.2 q)
 have hnf2:¬ FlP B l k (ms++[j]) i:=fun q=>(flP_snoc.1 q).elim hnf (fun u=>u.2 hc)
 refine h.step hi (fun x=>?_) (fun x=>?_)
 ·rw [hm x]
  by_cases e:x=(i:Int)
  ·rw [if_pos e]
   exact ⟨fun _=>⟨drwP_snoc.2 (.inr hd),hnf2⟩,fun _ => .inl e⟩
  ·rw [if_neg e]
   exact ⟨fun q=>q.elim (fun u=>absurd u e) id,.inr⟩
 ·by_cases e:x=(i:Int)
  ·rw [if_pos e,e]
   exact ⟨fun q=>absurd q hn,fun q=>absurd q hnf2⟩
  ·rw [if_neg e]
theorem IdM.fail {B:(Th→Int)→Pp→Bool} {l:List Ev} {k:Int} {n:Nat} {ms:List Nat} {j i:Nat} {Dm Df Dm' Df':List Int} (h:IdM B l k n ms j i Dm Df) (hi:i<n) (hd:onV (l.take (j+1)) (k,0,(i:Int))=1) (hc:B (offF k i (onV (l.take (j+1))))≠B (onV (l.take (j+1)))) (hm:∀ x:Int,x∈Dm' ↔ x≠(i:Int)∧x∈Dm) (hf:∀ x:Int,x∈Df' ↔ x=(i:Int)∨x∈Df):IdM B l k n ms j (i+1) Dm' Df':=by
 have hf2:FlP B l k (ms++[j]) i:=flP_snoc.2 (.inr ⟨hd,hc⟩)
 refine h.step hi (fun x=>?_) (fun x=>?_)
 ·rw [hm x]
  by_cases e:x=(i:Int)
  ·rw [if_pos e]
   exact ⟨fun q=>absurd e q.1,fun q=>absurd hf2 q.2⟩
  ·rw [if_neg e]
   exact ⟨fun q=>q.2,fun q=>⟨e,q⟩⟩
 ·rw [hf x]
  by_cases e:x=(i:Int)
  ·rw [if_pos e]
   exact ⟨fun _=>hf2,fun _ => .inl e⟩
  ·rw [if_neg e]
   exact ⟨fun q=>q.elim (fun u=>absurd u e) id,.inr⟩
end Go.Proofs.YthhfmppealmblaaGreatDoor
namespace Go.Proofs
open Go.Shelf
open Go.Sort Go.RowKit in
theorem Tryz.slices_Sort_int (blk off cap:Nat) (zs:List Int) (w:World) (hH:Holds (Value.int .i64) w blk off zs.toArray) (hblk:blk<w.heap.size) (hsz:zs.length<4611686018427387904) :
  Calls Tryz.prog 92 #[.slice (some ⟨blk,off,none⟩) zs.length cap] w fun e w' =>
   e = .returned (.tuple #[])∧∃ n os,w'=grow (putRow (Value.int .i64) (Sort.ahead w n) blk off (zs.mergeSort fun x y=>decide (x≤y)).toArray) os:=Any.slices_Sort_int Tryz.lays189 blk off cap zs w hH hblk hsz
open Go.RowKit Go.Sort in
theorem Tryz.slices_Sort_int_none (p:Option Addr) (cap:Nat) (w:World) :
  Calls Tryz.prog 92 #[.slice p 0 cap] w fun e w'=>e = .returned (.tuple #[])∧w'=w:=Any.slices_Sort_int_none Tryz.lays189 p cap w
end Go.Proofs
namespace Go.Proofs.YthhfmppealmblaaGreatDoor
open Go.RowKit
def ekI (n:Int):Value:=.int .i64 n
theorem now_ints {d:TypeDesc} (hd:∀ x y,Instr.sameNow d (ekI x) (ekI y)=some (x==y)) (x:Int):∀ (es:List MapEntry) (l:List Int) (i:Nat),es.map (·.key)=l.map ekI→Instr.findNow d (ekI x) es i=some (findAt x l es i)
 | [],[],i,_=>by simp [Instr.findNow,findAt]
 | [],k :: l,i,h=>by simp at h
 | e :: es,[],i,h=>by simp at h
 | e :: es,k :: l,i,h=>by
  rw [List.map_cons,List.map_cons,List.cons.injEq] at h
  have ih:=now_ints hd x es l (i+1) h.2
  rw [Instr.findNow,h.1,hd]
  by_cases hx:x=k
  ·subst hx
   simp [findAt]
  ·have:(x==k)=false:=by simpa using hx
   rw [this]
   simp only [findAt]
   rw [if_neg hx]
   exact ih
theorem chk_int (b:Bool) (x:Int) (w:World) (n:Nat):(Instr.checkKey b (n+1) 3 (ekI x)).run Tryz.prog w = .ok () w:=by
 unfold ekI
 simp [Instr.checkKey,run_underlying Tryz.underlying3,go_sem,Result.andThen]
theorem int_keys:MapK Tryz.prog 3 ekI where
 find x es l w h:=by
  have h1:=now_ints (d:=.int .i64) (fun x y=>by simp [ekI,Instr.sameNow]) x es l 0 h
  simp [Instr.findKey,run_underlying Tryz.underlying3,h1,Result.andThen]
 chk b x w:=chk_int b x w 9999
 bits x:=by unfold ekI;simp [Instr.sameBits]
theorem rgI_row {W:World} {b r base n k:Nat} {l left:List (Int × Value)} {t:TypeId} {v:Value} {xs:List Value} (hr:Rg ekI W b r l left) (h:W.ownsRow base t k v n xs):some b≠v.ownBlock∧some r≠v.ownBlock:=by
 obtain ⟨es,clock,since,seen,c0,hm,_,_,_,_,hit,_⟩:=hr
 rcases h.2 with ⟨rfl,_⟩ | ⟨g,cap,cur,rfl,_,hgg,_⟩
 ·exact ⟨by simp [Value.ownBlock],by simp [Value.ownBlock]⟩
 ·constructor
  ·intro e
   have e':b=g:=Option.some.inj e
   subst e'
   rw [hm] at hgg
   cases hgg
  ·intro e
   have e':r=g:=Option.some.inj e
   subst e'
   rw [hit] at hgg
   cases hgg
theorem strikeI_perm {left:List (Int × Value)} {x:Int} {v:Value} (hn:(left.map (·.1)).Nodup) (hx:(x,v)∈left) {done all:List (Int × Value)} (hp:(done++left).Perm all):((done++[(x,v)])++left.filter fun p=>!decide (p.1=x)).Perm all:=by
 refine List.Perm.trans ?_ hp
 rw [List.append_assoc]
 refine List.Perm.append_left _ ?_
 clear hp
 induction left with
 | nil=>cases hx
 | cons y left ih =>
  rw [List.map_cons,List.nodup_cons] at hn
  by_cases e:y.1=x
  ·have hy:y=(x,v):=by
    rcases List.mem_cons.1 hx with h | h
    ·exact h.symm
    ·exact absurd (by rw [e];exact List.mem_map.2 ⟨(x,v),h,rfl⟩) hn.1
   rw [List.filter_cons,if_neg (by simp [e]),hy,List.singleton_append]
   refine List.Perm.of_eq (congrArg _ ?_)
   rw [List.filter_eq_self]
   intro z hz
   have:z.1≠x:=fun q=>hn.1 (by rw [e,← q];exact List.mem_map.2 ⟨z,hz,rfl⟩)
   simp [this]
  ·have hx2:(x,v)∈left:=by
    rcases List.mem_cons.1 hx with h | h
    ·exact absurd (by rw [← h]) e
    ·exact h
   rw [List.filter_cons,if_pos (by simp [e])]
   exact (List.Perm.swap _ _ _).trans ((ih hn.2 hx2).cons y)
theorem strikeI_len {left:List (Int × Value)} {x:Int} {v:Value} (hx:(x,v)∈left):(left.filter fun p=>!decide (p.1=x)).length<left.length:=by
 induction left with
 | nil=>cases hx
 | cons y left ih =>
  rw [List.filter_cons]
  by_cases e:y.1=x
  ·rw [if_neg (by simp [e]),List.length_cons]
   have:=List.length_filter_le (fun p:Int × Value=>!decide (p.1=x)) left
   omega
  ·rw [if_pos (by simp [e]),List.length_cons,List.length_cons]
   have:=ih (by
    rcases List.mem_cons.1 hx with h | h
    ·exact absurd (by rw [← h]) e
    ·exact h)
   omega
def SoR (D:List (Int × Value)) (w:World) (e:Ending) (w':World):Prop:=∃ v L,e = .returned v∧w'.ownsRow w.heap.size 3 1 v L.length (iCs L)∧L.Pairwise (· < ·)∧(∀ x,x∈L ↔ x∈D.map (·.1))∧Below w.heap.size w w'
theorem sorted_asc {D:List Int} (hn:D.Nodup) {L:List Int} (hp:L.Perm D):(L.mergeSort fun x y=>decide (x≤y)).Pairwise (· < ·)∧∀ x,x∈(L.mergeSort fun x y=>decide (x≤y)) ↔ x∈D:=by
 have h1:=List.mergeSort_perm L (fun x y=>decide (x≤y))
 have h2:(L.mergeSort fun x y=>decide (x≤y)).Pairwise (fun a b=>decide (a≤b)=true):=List.pairwise_mergeSort (fun a b c h1 h2=>by simp only [decide_eq_true_eq] at *;omega) (fun a b=>by simp only [Bool.or_eq_true,decide_eq_true_eq];omega) L
 have h3:(L.mergeSort fun x y=>decide (x≤y)).Nodup:=(h1.trans hp).nodup_iff.2 hn
 refine ⟨List.Pairwise.imp₂ (fun a b (h:decide (a≤b)=true) (h':a≠b)=>?_) h2 h3,fun x=>(h1.trans hp).mem_iff⟩
 have:=of_decide_eq_true h
 omega
theorem sortI_heap {W:World} {g n:Nat} {d:Array Int} {os:Array Obj} {cur:Array Value} {e:TypeId} {fr:Nat × Nat} (h:W.heap[g]?=some (.cells cur e fr)) :
  (Sort.grow (Sort.putRow (Value.int .i64) (Sort.ahead W n) g 0 d) os).heap[g]?=some (.cells (Sort.putCells (Value.int .i64) 0 d cur) e fr):=by
 have hlt:=(Array.getElem?_eq_some_iff.1 h).1
 show (((Sort.mapBlock (Sort.ahead W n) g _).heap)++os)[g]?=_
 rw [Array.getElem?_append_left (by simpa [Sort.mapBlock] using hlt)]
 show ((Sort.ahead W n).heap.modify g _)[g]?=_
 rw [Array.getElem?_modify,if_pos rfl]
 show Option.map _ (W.heap[g]?)=_
 simp only [h,Option.map_some]
 rfl
theorem sortI_row {W:World} {base g:Nat} {t:TypeId} {m cap n:Nat} {d d':Array Int} {os:Array Obj} (hs:d'.size=d.size) (h:W.ownsRow base t 1 (.slice (some ⟨g,0,none⟩) m cap) d.size (iCs d.toList)) :
  (Sort.grow (Sort.putRow (Value.int .i64) (Sort.ahead W n) g 0 d') os).ownsRow base t 1 (.slice (some ⟨g,0,none⟩) m cap) d'.size (iCs d'.toList):=by
 obtain ⟨hl,⟨e,_⟩ | ⟨g',cap',cur,e,hbg,hg,hn,hmx,hz,hx⟩⟩:=h
 ·cases e
 ·cases e
  have hle:d'.size≤cur.size:=by omega
  refine ⟨by simp [iCs],.inr ⟨g,cap,_,by rw [hs],hbg,sortI_heap hg,by rw [hs];exact hn,hmx,by simp [Sort.putCells,hz],?_⟩⟩
  apply List.ext_getElem?
  intro j
  rw [List.getElem?_take,Array.getElem?_toList]
  unfold iCs
  rw [List.getElem?_map,Array.getElem?_toList]
  by_cases ht:j<d'.size
  ·rw [if_pos (by omega)]
   simp only [Sort.putCells,Array.getElem?_mapIdx]
   rw [Array.getElem?_eq_getElem (by omega),Option.map_some,if_pos ⟨Nat.zero_le _,by omega⟩,Nat.sub_zero,getElem!_pos _ j ht,Array.getElem?_eq_getElem ht]
   rfl
  ·rw [if_neg (by omega),Array.getElem?_eq_none (by omega)]
   rfl
theorem sortI_grown {W:World} {g n:Nat} {d:Array Int} {os:Array Obj}:W.grownBy (Sort.grow (Sort.putRow (Value.int .i64) (Sort.ahead W n) g 0 d) os) (some g) where
 os:=rfl
 tape:=rfl
 output:=rfl
 size:=by
  show _≤(((Sort.mapBlock (Sort.ahead W n) g _).heap)++os).size
  simp [Sort.mapBlock,Sort.ahead]
 block i hi hne:=by
  show (((Sort.mapBlock (Sort.ahead W n) g _).heap)++os)[i]?=_
  rw [Array.getElem?_append_left (by simpa [Sort.mapBlock,Sort.ahead] using hi)]
  show ((Sort.ahead W n).heap.modify g _)[i]?=_
  rw [Array.getElem?_modify,if_neg (fun e=>hne (by rw [e]))]
  rfl
theorem holdsI_row {W:World} {base g:Nat} {t:TypeId} {m cap:Nat} {L:List Int} (h:W.ownsRow base t 1 (.slice (some ⟨g,0,none⟩) m cap) L.length (iCs L)):Sort.Holds (Value.int .i64) W g 0 L.toArray∧g<W.heap.size:=by
 obtain ⟨hl,⟨e,_⟩ | ⟨g',cap',cur,e,hbg,hg,hn,hmx,hz,hx⟩⟩:=h
 ·cases e
 ·cases e
  refine ⟨fun j hj=>?_,(Array.getElem?_eq_some_iff.1 hg).1⟩
  have hj':j<L.length:=by simpa using hj
  have hc:cur[j]?=some (.int .i64 L[j]):=by
   have h1:=congrArg (fun l=>l[j]?) hx
   simp only [List.getElem?_take,Array.getElem?_toList] at h1
   rw [if_pos (by omega)] at h1
   rw [h1]
   unfold iCs
   rw [List.getElem?_map,List.getElem?_eq_getElem hj']
   rfl
  constructor
  ·simp only [World.cell?,hg,Nat.zero_add]
   rw [getElem!_pos L.toArray j hj,List.getElem_toArray]
   exact hc
  ·simp only [World.frozen?,hg]
   rfl
theorem sortI_any (L:List Int) (hn:L.length≤1000000000) (base:Nat) (v:Value) (w:World) (h:w.ownsRow base 3 1 v L.length (iCs L)) :
  Calls Tryz.prog 92 #[v] w fun e w'=>e = .returned (.tuple #[])∧w'.ownsRow base 3 1 v (L.mergeSort fun x y=>decide (x≤y)).length (iCs (L.mergeSort fun x y=>decide (x≤y)))∧w.grownBy w' v.ownBlock:=by
 rcases h.2 with ⟨hv,h0⟩ | ⟨g,cap,cur,hv,hbg,hg,hrest⟩
 ·have hl0:L=[]:=List.length_eq_zero_iff.1 h0
  subst hl0
  have hcon:=Tryz.slices_Sort_int_none none 0 w
  rw [← hv] at hcon
  refine hcon.mono ?_
  rintro e w' ⟨rfl,rfl⟩
  exact ⟨rfl,by simpa using h,World.grownBy.refl _ _⟩
 ·have h':=h
  rw [hv] at h'
  have hH:=holdsI_row h'
  have hcon:=Tryz.slices_Sort_int g 0 cap L w hH.1 hH.2 (by omega)
  rw [← hv] at hcon
  refine hcon.mono ?_
  rintro e w' ⟨rfl,n,os,rfl⟩
  refine ⟨rfl,?_,?_⟩
  ·have h2:w.ownsRow base 3 1 (.slice (some ⟨g,0,none⟩) L.length cap) L.toArray.size (iCs L.toArray.toList):=by simpa using h'
   have:=sortI_row (n:=n) (os:=os) (d':=(L.mergeSort fun x y=>decide (x≤y)).toArray) (by simp) h2
   rw [hv]
   simpa using this
  ·rw [hv];exact sortI_grown
set_option maxRecDepth 100000 in
set_option maxHeartbeats 12800000 in
theorem sorted_any (MB:Nat) (D:List (Int × Value)) (w:World) (hm:Mp ekI w MB D) (hl:D.length≤100000) :
  Calls Tryz.prog 66 #[.map (some MB)] w (SoR D w):=by
 obtain ⟨i0,hi0,hz0,hz1,hz2⟩:=info_parts int64_info
 have HND:=Lib.hid hm.nodup
 go_enter Tryz.func66,Tryz.ntmps66
 go_wp2_with (at_range;refine wpList_range_mp _ rfl _ 139 rfl 3 4 Tryz.underlying139 rfl hm ?_;intro w5 hrg5 hg5 hs5)
 try go_frame
 have hst:RowKit.Hid (w5.ownsRow (w.heap.size+1) 3 1 (.slice none 0 0) (([]:List (Int × Value)).map (·.1)).length (iCs (([]:List (Int × Value)).map (·.1)))):=Lib.hid (World.ownsRow_nil _ _ _ _)
 have hrefl:RowKit.Hid (Below w.heap.size w w5):=Lib.hid ⟨hg5.os,hg5.tape,hg5.output,hg5.size,fun k hk=>hg5.block k hk (by simp)⟩
 have HRG5:=Lib.hid hrg5
 clear hg5 hrg5 hm hs5
 go_loopw [3] (fun v wi=>∃ done left:List (Int × Value),RowKit.Hid (Rg ekI wi MB w.heap.size D left)∧RowKit.Hid ((done++left).Perm D)∧RowKit.Hid (wi.ownsRow (w.heap.size+1) 3 1 v (done.map (·.1)).length (iCs (done.map (·.1))))∧RowKit.Hid (Below w.heap.size w wi)) (fun _ wi=>wi.rangeLeft MB w.heap.size)
 case atStart=>exact ⟨[],D,HRG5,Lib.hid (List.Perm.refl _),hst,hrefl⟩
 clear HRG5 hst hrefl
 obtain ⟨done,left,hrg,hperm,hout,hB⟩:=hrel
 have hdl:done.length≤100000:=by
  have:=hperm.out.length_eq
  rw [List.length_append] at this
  omega
 have hszB:=hB.out.size
 go_wp2_with (at_next;refine wpList_next_mp _ rfl _ rfl rfl hrg.out ?_ ?_)
 ·intro hleft
  have hp:=hperm.out
  rw [hleft,List.append_nil] at hp
  have HSA:=Lib.hid (sorted_asc HND.out (hp.map (·.1)))
  have HSO:=Lib.hid (sortI_any (done.map (·.1)) (by rw [List.length_map];omega) (w.heap.size+1) u3 wr hout.out)
  have HGE:=Lib.hid (fun j (e:u3.ownBlock=some j)=>row_ge hout.out e)
  clear hp hleft hperm hrg hout
  go_wp2_with fail
  refine (HSO.out).mono ?_
  rintro e w8 ⟨rfl,hr8,hg8⟩
  have HB8:=Lib.hid (hB.out.grown hg8 hB.out.size (fun j e=>Nat.le_of_succ_le (HGE.out j e)))
  have HO8:=Lib.hid (row_base hr8 (Nat.le_succ w.heap.size))
  clear hr8 hg8 HSO
  go_wp2
  go_ret
  exact ⟨u3,_,rfl,HO8.out,HSA.out.1,HSA.out.2,HB8.out⟩
 ·intro x v w6 hin hrg6 hg6 hs6 hen
  have HPS:=Lib.hid (strikeI_perm hrg.out.nodup hin hperm.out)
  have HLT:=Lib.hid (strikeI_len hin)
  have HLE:=Lib.hid hrg.out.left_eq
  have hB6:Below w.heap.size w w6:=hB.out.grown hg6 hB.out.size (fun j e=>by cases e;exact Nat.le_refl _)
  have HO6:=Lib.hid (hout.out.kept hg6 (.inr (Ne.symm (rgI_row hrg.out hout.out).2)))
  have HR6:=Lib.hid hrg6
  have HB6:=Lib.hid hB6
  have hsz6:=hB6.size
  have HRW:=Lib.hid (show (done++[(x,v)]).map (·.1)=done.map (·.1)++[x] by rw [List.map_append];rfl)
  clear hin hrg hperm hout hB hg6 hs6 hrg6 hB6
  simp only [ekI] at hen
  obtain ⟨L,hL⟩:∃ L,done.map (·.1)=L:=⟨_,rfl⟩
  have hLl:L.length≤100000:=by rw [← hL,List.length_map];exact hdl
  rw [hL] at HO6 HRW
  clear hL
  try go_frame
  go_wp2_with (at_builtin;refine wpList_append_lies _ rfl _ _ 68 rfl (w.heap.size+1) 3 i0 _ 1 8 Tryz.underlying68 hi0 hz0 hz1 hz2 rfl (by omega) _ _ _ rfl (HO6.out.alloc _) ⟨w6.heap.size,0,none⟩ 1 1 [.int .i64 x] rfl rfl (World.news_of_block (cs:=#[.int .i64 x]) (t:=3) (fr:=(0,0)) (heap_alloc_new w6 _)) (by simp [Value.oneCell']) (by omega) (by unfold maxLen;omega) (by omega) (by simp;omega) (w6.heap.size+1) (by simp) ?_;intro gg cap w8 hown8 hgrow hat8 hlt8)
  have HQ:=Lib.hid (show w8.ownsRow (w.heap.size+1) 3 1 (.slice (some ⟨gg,0,none⟩) (L.length+1) cap) (L++[x]).length (iCs (L++[x])) by rw [iCs_snoc,List.length_append,List.length_singleton];exact hown8)
  have HB8:RowKit.Hid (Below w.heap.size w w8):=Lib.hid ((HB6.out.alloc HB6.out.size _).grown hgrow (by have:=HB6.out.size;simp;omega) (fun j e=>Nat.le_of_succ_le (row_ge HO6.out e)))
  have hr7:=HR6.out.below ((Below.refl _ w6).alloc (Nat.le_refl _) (.cells #[.int .i64 x] 3))
  have HG8:=Lib.hid (hr7.kept hgrow (rgI_row hr7 (HO6.out.alloc _)).1 (rgI_row hr7 (HO6.out.alloc _)).2)
  clear hown8 hgrow hat8 hlt8 hr7
  go_wp2
  refine ⟨⟨done++[(x,v)],_,HG8,HPS,by rw [HRW.out];exact HQ,HB8⟩,?_⟩
  rw [HG8.out.left_eq,HLE.out]
  exact HLT.out
end Go.Proofs.YthhfmppealmblaaGreatDoor
namespace Go.Proofs.YthhfmppealmblaaGreatDoor
open Go.RowKit
theorem mem_setM {p:Pp} {v:Value} {l:List Pp}:(p,v)∈setM l→p∈l∧v = .bool true:=by
 intro h
 unfold setM at h
 obtain ⟨q,hq,e⟩:=List.mem_map.1 h
 cases e
 exact ⟨hq,rfl⟩
theorem set_same {a b:List Pp} (ha:a.Nodup) (h:∀ p∈a,p∈b) (hl:a.length=b.length):∀ p,p∈a ↔ p∈b:=fun p =>
 ⟨h p,fun hp=>Classical.byContradiction fun hn=>by
  have h1:(p :: a).Nodup:=List.nodup_cons.2 ⟨hn,ha⟩
  have h2:=nodup_lenP h1 (fun x hx=>by
   rcases List.mem_cons.1 hx with rfl | hx
   ·exact hp
   ·exact h x hx)
  rw [List.length_cons] at h2
  omega⟩
theorem set_len {a b:List Pp} (ha:a.Nodup) (hb:b.Nodup) (h:∀ p,p∈a ↔ p∈b):a.length=b.length:=by
 have h1:=nodup_lenP ha (fun x hx=>(h x).1 hx)
 have h2:=nodup_lenP hb (fun x hx=>(h x).2 hx)
 omega
set_option maxRecDepth 100000 in
set_option maxHeartbeats 12800000 in
theorem sameM_any (ma mb:Nat) (a b:List Pp) (w:World) (hma:Mp ekP w ma (setM a)) (hmb:Mp ekP w mb (setM b)) (bb:Bool) (hbb:bb=true ↔ ∀ p,p∈a ↔ p∈b) :
  Calls Tryz.prog 65 #[.map (some ma),.map (some mb)] w (BoR bb w):=by
 have hna:=hma.nodup
 have hnb:=hmb.nodup
 rw [setM_keys] at hna hnb
 have HNA:=Lib.hid hna
 have HNB:=Lib.hid hnb
 have HBB:=Lib.hid hbb
 have HMB:=Lib.hid hmb
 have HMA:=Lib.hid hma
 clear hna hnb hbb hmb
 go_enter Tryz.func65,Tryz.ntmps65
 go_wp2_with (at_range;refine wpList_range_mp _ rfl _ 131 rfl 45 4 Tryz.underlying131 rfl hma ?_;intro w5 hrg5 hg5 hs5)
 try go_frame
 have hrefl:RowKit.Hid (Below w.heap.size w w5):=Lib.hid ⟨hg5.os,hg5.tape,hg5.output,hg5.size,fun k hk=>hg5.block k hk (by simp)⟩
 have HRG5:=Lib.hid hrg5
 have HV0:=Lib.hid (show ∀ p∈(([]:List (Pp × Value)).map (·.1)),p∈b from fun p h=>by cases h)
 clear hg5 hrg5 hma hs5
 go_loopw [] (fun wi=>∃ done left:List (Pp × Value),RowKit.Hid (Rg ekP wi ma w.heap.size (setM a) left)∧RowKit.Hid ((done++left).Perm (setM a))∧RowKit.Hid (∀ p∈done.map (·.1),p∈b)∧RowKit.Hid (Below w.heap.size w wi)) (fun wi=>wi.rangeLeft ma w.heap.size)
 case atStart=>exact ⟨[],setM a,HRG5,Lib.hid (List.Perm.refl _),HV0,hrefl⟩
 clear HRG5 hrefl HV0
 obtain ⟨done,left,hrg,hperm,hV,hB⟩:=hrel
 go_wp2_with (at_next;refine wpList_next_mp _ rfl _ rfl rfl hrg.out ?_ ?_)
 ·intro hleft
  have hp:=hperm.out
  rw [hleft,List.append_nil] at hp
  have hpk:(done.map (·.1)).Perm a:=by have h:=hp.map (·.1);rwa [setM_keys] at h
  have HSU:=Lib.hid (show ∀ p∈a,p∈b from fun p hpa=>hV.out p (hpk.mem_iff.2 hpa))
  have hmA:=hrg.out.mp
  have hmB:=HMB.out.below hB.out
  have hrA:=fun (ty:TypeId)=>run_len_mp (P:=Tryz.prog) hmA 131 ty 45 4 Tryz.underlying131
  have hrB:=fun (ty:TypeId)=>run_len_mp (P:=Tryz.prog) hmB 131 ty 45 4 Tryz.underlying131
  have HBW:=Lib.hid hB.out
  have e1:(setM a).length=a.length:=by unfold setM;rw [List.length_map]
  have e2:(setM b).length=b.length:=by unfold setM;rw [List.length_map]
  rw [e1] at hrA
  rw [e2] at hrB
  have HEQ:=Lib.hid (show bb=((a.length:Int)==(b.length:Int)) by
   rw [Bool.eq_iff_iff,HBB.out,beq_iff_eq]
   constructor
   ·intro h
    have:=set_len HNA.out HNB.out h
    omega
   ·intro h
    exact set_same HNA.out HSU.out (by omega))
  clear hp hpk hleft hperm hV hmA hmB hrg hB e1 e2
  go_wp2
  go_ret
  exact ⟨by rw [HEQ.out];rfl,HBW.out⟩
 ·intro x1 x2 v w6 hin hrg6 hg6 hs6 hen
  have hB6:Below w.heap.size w w6:=hB.out.grown hg6 hB.out.size (fun j e=>by cases e;exact Nat.le_refl _)
  have hal:Below w6.heap.size w6 (w6.alloc (.cells #[.int .i64 x1,.int .i64 x2] 45)):=(Below.refl _ _).alloc (Nat.le_refl _) _
  have hpa:=(mem_setM (hrg.out.sub _ hin)).1
  have hvt:=(mem_setM (hrg.out.sub _ hin)).2
  subst hvt
  have HPS:=Lib.hid (strike_perm hrg.out.nodup hin hperm.out)
  have HLT:=Lib.hid (strike_len hin)
  have HLE:=Lib.hid hrg.out.left_eq
  have HG7:=Lib.hid (hrg6.below hal)
  have HB7:=Lib.hid (below_step hB6 hal)
  have HX:=Lib.hid (Blk.new w6 45 #[.int .i64 x1,.int .i64 x2])
  have HPA:=Lib.hid hpa
  simp only [ekP] at hen
  clear hrg hperm hin hrg6 hg6 hs6 hB6 hal hpa hB
  try go_frame
  go_upto_region 4 with fail
  obtain ⟨X,hX⟩:∃ X,w6.heap.size=X:=⟨_,rfl⟩
  rw [hX] at HX ⊢
  generalize w6.alloc (.cells #[.int .i64 x1,.int .i64 x2] 45)=w7 at *
  clear hX
  have x0:w7.cell? ⟨X,0,none⟩=some (.int .i64 x1):=HX.out.cell 0
  have x1':w7.cell? ⟨X,1,none⟩=some (.int .i64 x2):=HX.out.cell 1
  have hmB:=HMB.out.below HB7.out
  obtain ⟨cc,hcc⟩:∃ cc,decide ((x1,x2)∈b)=cc:=⟨_,rfl⟩
  have hget:(mget (x1,x2) (setM b)).getD (.bool false) = .bool cc:=by rw [mget_set,← hcc];congr
  cases cc with
  | true =>
   have HV8:=Lib.hid (show ∀ p∈(done++[((x1,x2),Value.bool true)]).map (·.1),p∈b from fun p hp=>by
    rw [List.map_append,List.mem_append] at hp
    rcases hp with hp | hp
    ·exact hV.out p hp
    ·rw [List.map_cons,List.map_nil,List.mem_singleton] at hp
     rw [hp]
     exact of_decide_eq_true hcc)
   clear hcc hV
   go_wp2_with (at_lookup;refine wpList_lookup_mp _ rfl _ _ 131 rfl 4 pp_keys Tryz.underlying131 (Tryz.zeroValue4 _) rfl hmB (x1,x2) rfl ?_;rw [hget])
   refine ⟨⟨done++[((x1,x2),.bool true)],_,HG7,HPS,HV8,HB7⟩,?_⟩
   rw [HG7.out.left_eq,HLE.out]
   exact HLT.out
  | false =>
   have HBF:=Lib.hid (show bb=false by
    cases hb:bb with
    | false=>rfl
    | true=>exact absurd ((HBB.out.1 hb _).1 HPA.out) (of_decide_eq_false hcc))
   clear hcc hV
   go_wp2_with (at_lookup;refine wpList_lookup_mp _ rfl _ _ 131 rfl 4 pp_keys Tryz.underlying131 (Tryz.zeroValue4 _) rfl hmB (x1,x2) rfl ?_;rw [hget])
   go_ret
   exact ⟨by rw [HBF.out];rfl,HB7.out⟩
end Go.Proofs.YthhfmppealmblaaGreatDoor
