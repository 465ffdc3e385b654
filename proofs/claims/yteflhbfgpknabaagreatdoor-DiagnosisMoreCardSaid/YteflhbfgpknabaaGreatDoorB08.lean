/-
  A part of the proof: WL,WO,OD.
-/
import Derived.Test.YteflhbfgpknabaaGreatDoorB01
import Derived.Test.YteflhbfgpknabaaGreatDoorB07
import Derived.Deep.RegionWith
import Derived.Test.YteflhbfgpknabaaGreatDoorL22
import Derived.Test.YteflhbfgpknabaaGreatDoorL01
set_option maxRecDepth 100000
set_option maxHeartbeats 12800000
namespace Go.Proofs.YteflhbfgpknabaaGreatDoor
open Go.Lib (hid)
open Go.RowKit Go.Shelf
def PpV (W:World) (v:Value) (l:List Pp):Prop:=ARd W v 2 (l.map ppC)
theorem PpV.later {W W':World} {v:Value} {l:List Pp} (h:PpV W v l) (hb:Below W.heap.size W W'):PpV W' v l:=ARd.later h hb
def FtV (W:World) (v:Value) (l:List Ft):Prop:=ARd W v 3 (l.map ftC)
theorem FtV.later {W W':World} {v:Value} {l:List Ft} (h:FtV W v l) (hb:Below W.heap.size W W'):FtV W' v l:=ARd.later h hb
def StV (W:World) (v:Value) (M:List (List Ft)):Prop:=∃ g,StsRd W v M g
theorem StV.later {W W':World} {v:Value} {M:List (List Ft)} (h:StV W v M) (hb:Below W.heap.size W W'):StV W' v M:=h.elim fun g h=>⟨g,h.later hb⟩
def TlW (W:World) (v:Value) (t:Tl):Prop:=∃ a b c d,v = .agg #[a,b,c,d]∧TlV W a b c d t
theorem TlW.later {W W':World} {v:Value} {t:Tl} (h:TlW W v t) (hb:Below W.heap.size W W'):TlW W' v t:=by
 obtain ⟨a,b,c,d,e,h⟩:=h
 exact ⟨a,b,c,d,e,h.later hb⟩
def TlsV (W:World) (v:Value) (L:List Tl):Prop:=∃ gk gs gc gh,TlRd W v L gk gs gc gh
theorem TlsV.later {W W':World} {v:Value} {L:List Tl} (h:TlsV W v L) (hb:Below W.heap.size W W'):TlsV W' v L:=by
 obtain ⟨a,b,c,d,h⟩:=h
 exact ⟨a,b,c,d,h.later hb⟩
theorem new_below (W:World) (o:Obj):Below W.heap.size W (W.alloc o):=(Below.refl _ _).alloc (Nat.le_refl _) _
theorem new_pp1 (W:World) (p:Pp):PpV (W.alloc (.cells #[.int .i64 p.1,.int .i64 p.2] 78)) (.slice (some ⟨W.heap.size,0,none⟩) 1 1) [p] :=
 ard_of_blk (k:=2) (Blk.new _ _ _) (by intro r hr;obtain ⟨x,_,rfl⟩:=List.mem_map.1 hr;rfl) rfl _ _ rfl
theorem new_pp2 (W:World) (p q:Pp):PpV (W.alloc (.cells #[.int .i64 p.1,.int .i64 p.2,.int .i64 q.1,.int .i64 q.2] 78)) (.slice (some ⟨W.heap.size,0,none⟩) 2 2) [p,q] :=
 ard_of_blk (k:=2) (Blk.new _ _ _) (by intro r hr;obtain ⟨x,_,rfl⟩:=List.mem_map.1 hr;rfl) rfl _ _ rfl
theorem new_ft (W:World) (p:Ft):FtV (W.alloc (.cells #[.int .i64 p.1,.int .i64 p.2.1,.int .i64 p.2.2] 74)) (.slice (some ⟨W.heap.size,0,none⟩) 1 1) [p] :=
 ard_of_blk (k:=3) (Blk.new _ _ _) (by intro r hr;obtain ⟨x,_,rfl⟩:=List.mem_map.1 hr;rfl) rfl _ _ rfl
theorem new_st1 {W:World} {v:Value} {l:List Ft} (h:FtV W v l):StV (W.alloc (.cells #[v] 28)) (.slice (some ⟨W.heap.size,0,none⟩) 1 1) [l]:=by
 refine ⟨fun _=>v,⟨ard_of_blk (k:=1) (Blk.new _ _ _) (by intro r hr;obtain ⟨x,_,rfl⟩:=List.mem_map.1 hr;rfl) rfl _ _ rfl,fun i hi=>?_⟩⟩
 have:i=0:=by have:i<1:=hi;omega
 subst this
 exact h.later (new_below _ _)
theorem new_st0 (W:World):StV (W.alloc (.cells #[.slice none 0 0] 28)) (.slice (some ⟨W.heap.size,0,none⟩) 1 1) [[]] :=
 new_st1 ⟨_,_,rfl,fun i hi=>absurd hi (Nat.not_lt_zero i)⟩
theorem new_st2 {W:World} {v u:Value} {l m:List Ft} (h:FtV W v l) (h2:FtV W u m):StV (W.alloc (.cells #[v,u] 28)) (.slice (some ⟨W.heap.size,0,none⟩) 2 2) [l,m]:=by
 refine ⟨fun i=>if i=0 then v else u,⟨ard_of_blk (k:=1) (Blk.new _ _ _) (by intro r hr;obtain ⟨x,_,rfl⟩:=List.mem_map.1 hr;rfl) rfl _ _ rfl,fun i hi=>?_⟩⟩
 have hi':i<2:=hi
 match i,hi' with
 | 0,_ => exact h.later (new_below _ _)
 | 1,_ => exact h2.later (new_below _ _)
theorem new_tl1 {W:World} {a b c d:Value} {t:Tl} (h:TlV W a b c d t):TlsV (W.alloc (.cells #[a,b,c,d] 58)) (.slice (some ⟨W.heap.size,0,none⟩) 1 1) [t]:=by
 refine ⟨fun _=>a,fun _=>b,fun _=>c,fun _=>d,⟨ard_of_blk (k:=4) (Blk.new _ _ _) (by intro r hr;obtain ⟨x,_,rfl⟩:=List.mem_map.1 hr;rfl) rfl _ _ rfl,fun i hi=>?_,fun i hi=>?_⟩⟩
 ·have:i=0:=by have:i<1:=hi;omega
  subst this
  exact h.hd.later (new_below _ _)
 ·have:i=0:=by have:i<1:=hi;omega
  subst this
  exact h.pp.later (new_below _ _)
theorem new_tl2 {W:World} {a b c d a' b' c' d':Value} {t t':Tl} (h:TlV W a b c d t) (h':TlV W a' b' c' d' t'):TlsV (W.alloc (.cells #[a,b,c,d,a',b',c',d'] 58)) (.slice (some ⟨W.heap.size,0,none⟩) 2 2) [t,t']:=by
 refine ⟨fun i=>if i=0 then a else a',fun i=>if i=0 then b else b',fun i=>if i=0 then c else c',fun i=>if i=0 then d else d',⟨ard_of_blk (k:=4) (Blk.new _ _ _) (by intro r hr;obtain ⟨x,_,rfl⟩:=List.mem_map.1 hr;rfl) rfl _ _ rfl,fun i hi=>?_,fun i hi=>?_⟩⟩
 ·have hi':i<2:=hi
  match i,hi' with
  | 0,_ => exact h.hd.later (new_below _ _)
  | 1,_ => exact h'.hd.later (new_below _ _)
 ·have hi':i<2:=hi
  match i,hi' with
  | 0,_ => exact h.pp.later (new_below _ _)
  | 1,_ => exact h'.pp.later (new_below _ _)
theorem exH_sm (k:Int):HnSm (exH k):=⟨by show 1≤1000;omega,fun d=>by
 rcases d with _ | d
 ·show 1≤1000;omega
 ·show 0≤1000;omega,by show 1≤1000;omega,by show 0≤1000;omega⟩
theorem exT1_sm:∀ t∈exT1,HnSm t.h∧t.l.length≤1000000:=fun t ht=>by
 simp only [exT1,List.mem_singleton] at ht;subst ht;exact ⟨exH_sm 60,by show 1≤1000000;omega⟩
theorem exT2_sm:∀ t∈exT2,HnSm t.h∧t.l.length≤1000000:=fun t ht=>by
 simp only [exT2,List.mem_singleton] at ht;subst ht;exact ⟨exH_sm 60,by show 2≤1000000;omega⟩
theorem exT3_sm:∀ t∈exT3,HnSm t.h∧t.l.length≤1000000:=fun t ht=>by
 simp only [exT3,List.mem_singleton] at ht;subst ht;exact ⟨exH_sm 60,by show 2≤1000000;omega⟩
theorem exT4_sm:∀ t∈exT4,HnSm t.h∧t.l.length≤1000000:=fun t ht=>by
 simp only [exT4,List.mem_cons,List.mem_nil_iff,or_false] at ht;rcases ht with rfl | rfl
 ·exact ⟨exH_sm 60,by show 2≤1000000;omega⟩
 ·exact ⟨exH_sm 61,by show 2≤1000000;omega⟩
theorem least_v {N:List (List Ft)} {L:List Tl} (hL:trlE exD L=0) (hN:LeaP exD (sndB exD) (trs L) 2 N 0) (hsm:∀ t∈L,HnSm t.h∧t.l.length≤1000000) (hll:L.length≤1000000) {wv tv:Value} {w:World} (hD:Deb w) (ht:Tabs w) (hw:StV w wv N) (htv:TlsV w tv L):Calls Tryz.prog 31 #[wv,tv] w (BoolR true w):=by
 obtain ⟨g,hw⟩:=hw
 obtain ⟨gk,gs,gc,gh,htv⟩:=htv
 exact least30_any N wv g L tv gk gs gc gh hL hN hsm hll w hD ht hw htv
theorem shown30_any (w:World) (hD:Deb w) (ht:Tabs w):Calls Tryz.prog 9 #[] w (BoolR true w):=by
 have HT:=hid ht
 have HD:=hid hD
 clear ht hD
 go_enter Tryz.func9,Tryz.ntmps9
 go_upto_region 3 with fail
 have HB:=hid (show Below w.heap.size w (((((w.alloc (.cells #[.int .i64 0,.int .i64 60] 78)).alloc (.cells #[.int .i64 0,.int .i64 61] 78)).alloc (.cells #[.int .i64 1,.int .i64 60] 78)).alloc (.cells #[.int .i64 1,.int .i64 61] 78)).alloc (.cells #[.int .i64 3,.int .i64 1,.int .i64 0] 74)) from (((((Below.refl _ w).alloc (Nat.le_refl _) _).alloc (by simp) _).alloc (by simp;omega) _).alloc (by simp;omega) _).alloc (by simp;omega) _)
 have HDR:=hid (new_ft ((((w.alloc (.cells #[.int .i64 0,.int .i64 60] 78)).alloc (.cells #[.int .i64 0,.int .i64 61] 78)).alloc (.cells #[.int .i64 1,.int .i64 60] 78)).alloc (.cells #[.int .i64 1,.int .i64 61] 78)) (3,1,0))
 have k1:=((((Blk.new w 78 #[.int .i64 0,.int .i64 60]).alloc (.cells #[.int .i64 0,.int .i64 61] 78)).alloc (.cells #[.int .i64 1,.int .i64 60] 78)).alloc (.cells #[.int .i64 1,.int .i64 61] 78)).alloc (.cells #[.int .i64 3,.int .i64 1,.int .i64 0] 74)
 have k2:=(((Blk.new (w.alloc (.cells #[.int .i64 0,.int .i64 60] 78)) 78 #[.int .i64 0,.int .i64 61]).alloc (.cells #[.int .i64 1,.int .i64 60] 78)).alloc (.cells #[.int .i64 1,.int .i64 61] 78)).alloc (.cells #[.int .i64 3,.int .i64 1,.int .i64 0] 74)
 have k3:=((Blk.new ((w.alloc (.cells #[.int .i64 0,.int .i64 60] 78)).alloc (.cells #[.int .i64 0,.int .i64 61] 78)) 78 #[.int .i64 1,.int .i64 60]).alloc (.cells #[.int .i64 1,.int .i64 61] 78)).alloc (.cells #[.int .i64 3,.int .i64 1,.int .i64 0] 74)
 have k4:=(Blk.new (((w.alloc (.cells #[.int .i64 0,.int .i64 60] 78)).alloc (.cells #[.int .i64 0,.int .i64 61] 78)).alloc (.cells #[.int .i64 1,.int .i64 60] 78)) 78 #[.int .i64 1,.int .i64 61]).alloc (.cells #[.int .i64 3,.int .i64 1,.int .i64 0] 74)
 simp only [World.size_alloc] at k2 k3 k4 HDR
 generalize ((((w.alloc (.cells #[.int .i64 0,.int .i64 60] 78)).alloc (.cells #[.int .i64 0,.int .i64 61] 78)).alloc (.cells #[.int .i64 1,.int .i64 60] 78)).alloc (.cells #[.int .i64 1,.int .i64 61] 78)).alloc (.cells #[.int .i64 3,.int .i64 1,.int .i64 0] 74)=W0 at *
 have HC1:=hid (fun z (hz:Below W0.heap.size W0 z)=>(show _∧_ from ⟨(k1.below hz).cell 0,(k1.below hz).cell 1⟩))
 have HC2:=hid (fun z (hz:Below W0.heap.size W0 z)=>(show _∧_ from ⟨(k2.below hz).cell 0,(k2.below hz).cell 1⟩))
 have HC3:=hid (fun z (hz:Below W0.heap.size W0 z)=>(show _∧_ from ⟨(k3.below hz).cell 0,(k3.below hz).cell 1⟩))
 have HC4:=hid (fun z (hz:Below W0.heap.size W0 z)=>(show _∧_ from ⟨(k4.below hz).cell 0,(k4.below hz).cell 1⟩))
 simp only [List.getElem?_toArray,List.getElem?_cons_zero,List.getElem?_cons_succ] at HC1 HC2 HC3 HC4
 clear k1 k2 k3 k4
 have hmxx:Tryz.prog.follows .mixedOrders=true:=by kernel_rfl
 refine wp_plain (wp_region_flow (fun x=>{ tmps:=#[(x 0),.pointer (some ⟨w.heap.size,0,none⟩),.pointer (some ⟨w.heap.size+1,0,none⟩),.pointer (some ⟨w.heap.size+1+1,0,none⟩),.pointer (some ⟨w.heap.size+1+1+1,0,none⟩),.slice (some ⟨w.heap.size+1+1+1+1,0,none⟩) 1 1,.agg #[.int .i64 0,.int .i64 60],.agg #[.int .i64 0,.int .i64 61],.agg #[.int .i64 1,.int .i64 60],.agg #[.int .i64 1,.int .i64 61],.agg #[.int .i64 3,.int .i64 1,.int .i64 0],.slice (some ⟨w.heap.size+1+1+1+1,0,none⟩) 1 1,(x 12),(x 13),(x 14),(x 15),(x 16),(x 17),(x 18),(x 19),(x 20),(x 21),(x 22),(x 23),(x 24),(x 25),(x 26),(x 27),(x 28),(x 29),(x 30),(x 31),(x 32),(x 33),(x 34),(x 35),(x 36),(x 37),(x 38),(x 39),(x 40),(x 41),(x 42),(x 43),(x 44),(x 45),(x 46),(x 47),(x 48),(x 49),(x 50),(x 51),(x 52),(x 53),(x 54)],defers:=[] }) (fun i v z=>match i with
  | 0=>StV z v [[]]
  | 1=>v = .agg #[.int .i64 0,.int .i64 60]
  | 2=>PpV z v [(0,60)]
  | 3=>TlW z v ⟨exH 60,[(0,60)]⟩
  | 4=>TlsV z v exT1
  | 5=>v = .bool true
  | 6=>v = .bool true
  | 7=>v = .agg #[.int .i64 1,.int .i64 0,.int .i64 61]
  | 8=>FtV z v [(1,0,61)]
  | 9=>StV z v [[(1,0,61)]]
  | 10=>v = .agg #[.int .i64 0,.int .i64 60]
  | 11=>v = .agg #[.int .i64 0,.int .i64 61]
  | 12=>PpV z v [(0,60),(0,61)]
  | 13=>TlW z v ⟨exH 60,[(0,60),(0,61)]⟩
  | 14=>TlsV z v exT2
  | 15=>v = .bool true
  | 16=>v = .bool true
  | 17=>v = .bool true
  | 18=>v = .agg #[.int .i64 1,.int .i64 1,.int .i64 60]
  | 19=>FtV z v [(1,1,60)]
  | 20=>FtV z v [(3,1,0)]
  | 21=>StV z v [[(1,1,60)],[(3,1,0)]]
  | 22=>v = .agg #[.int .i64 0,.int .i64 60]
  | 23=>v = .agg #[.int .i64 1,.int .i64 60]
  | 24=>PpV z v [(0,60),(1,60)]
  | 25=>TlW z v ⟨exH 60,[(0,60),(1,60)]⟩
  | 26=>TlsV z v exT3
  | 27=>v = .bool true
  | 28=>v = .bool true
  | 29=>v = .bool true
  | 30=>FtV z v [(3,1,0)]
  | 31=>StV z v [[(3,1,0)]]
  | 32=>v = .agg #[.int .i64 0,.int .i64 60]
  | 33=>v = .agg #[.int .i64 1,.int .i64 60]
  | 34=>PpV z v [(0,60),(1,60)]
  | 35=>TlW z v ⟨exH 60,[(0,60),(1,60)]⟩
  | 36=>v = .agg #[.int .i64 0,.int .i64 61]
  | 37=>v = .agg #[.int .i64 1,.int .i64 61]
  | 38=>PpV z v [(0,61),(1,61)]
  | 39=>TlW z v ⟨exH 61,[(0,61),(1,61)]⟩
  | 40=>TlsV z v exT4
  | 41=>v = .bool true
  | 42=>v = .bool true
  | 43=>v = .bool true
  | _=>True) (fun n=>(#[.bool false,.pointer (some ⟨w.heap.size,0,none⟩),.pointer (some ⟨w.heap.size+1,0,none⟩),.pointer (some ⟨w.heap.size+1+1,0,none⟩),.pointer (some ⟨w.heap.size+1+1+1,0,none⟩),.slice (some ⟨w.heap.size+1+1+1+1,0,none⟩) 1 1,.agg #[.int .i64 0,.int .i64 60],.agg #[.int .i64 0,.int .i64 61],.agg #[.int .i64 1,.int .i64 60],.agg #[.int .i64 1,.int .i64 61],.agg #[.int .i64 3,.int .i64 1,.int .i64 0],.slice (some ⟨w.heap.size+1+1+1+1,0,none⟩) 1 1,undef,undef,undef,undef,undef,undef,undef,undef,undef,undef,undef,undef,undef,undef,undef,undef,undef,undef,undef,undef,undef,undef,undef,undef,undef,undef,undef,undef,undef,undef,undef,undef,undef,undef,undef,undef,undef,undef,undef,undef,undef,undef,undef]:Array Value).getD n undef) rfl hmxx (by kernel_rfl) (by kernel_rfl) ?mono ?put ?step ?done)
 case mono =>
  intro i v z z' h hb
  match i,h with
  | 0,h | 2,h | 3,h | 4,h | 8,h | 9,h | 12,h | 13,h | 14,h | 19,h | 20,h | 21,h | 24,h | 25,h | 26,h | 30,h | 31,h | 34,h | 35,h | 38,h | 39,h | 40,h => exact h.later hb
  | 1,h | 5,h | 6,h | 7,h | 10,h | 11,h | 15,h | 16,h | 17,h | 18,h | 22,h | 23,h | 27,h | 28,h | 29,h | 32,h | 33,h | 36,h | 37,h | 41,h | 42,h | 43,h => exact h
  | _+44,_=>trivial
 case put =>
  intro i o d ho hd x v
  match i,ho with
  | 0,ho | 1,ho | 2,ho | 3,ho | 4,ho | 5,ho | 6,ho | 7,ho | 8,ho | 9,ho | 10,ho | 11,ho | 12,ho | 13,ho | 14,ho | 15,ho | 16,ho | 17,ho | 18,ho | 19,ho | 20,ho | 21,ho | 22,ho | 23,ho | 24,ho | 25,ho | 26,ho | 27,ho | 28,ho | 29,ho | 30,ho | 31,ho | 32,ho | 33,ho | 34,ho | 35,ho | 36,ho | 37,ho | 38,ho | 39,ho | 40,ho | 41,ho | 42,ho | 43,ho => obtain rfl:=oj ho;obtain rfl:=oj hd;rfl
  | n+44,ho=>exact absurd (Array.getElem?_eq_some_iff.1 ho).1 (by simp)
 case step =>
  intro i o ho x z hz hdep K hK
  match i,ho with
  | 0,ho =>
   obtain rfl:=oj ho
   clear hdep ho
   dsimp only at hK ⊢
   refine wpOp_step rfl (fun K2 hK2=>?_)
   go_simp
   exact hK2 _ _ (hK _ _ (new_below _ _) (new_st0 _))
  | 1,ho =>
   obtain rfl:=oj ho
   obtain ⟨y0,y1⟩:=HC1.out z hz
   clear hdep ho
   dsimp only at hK ⊢
   refine wpOp_step rfl (fun K2 hK2=>?_)
   go_simp
   exact hK2 _ _ (hK _ _ (Below.refl _ _) rfl)
  | 2,ho =>
   obtain rfl:=oj ho
   have q1:x 13 = .agg #[.int .i64 0,.int .i64 60]:=hdep 1 (by kernel_rfl) _ _ rfl rfl
   clear hdep ho
   dsimp only at hK ⊢
   simp only [q1] at hK ⊢
   refine wpOp_step rfl (fun K2 hK2=>?_)
   go_simp
   exact hK2 _ _ (hK _ _ (new_below _ _) (new_pp1 _ (0,60)))
  | 3,ho =>
   obtain rfl:=oj ho
   have q2:PpV z (x 14) [(0,60)]:=hdep 2 (by kernel_rfl) _ _ rfl rfl
   clear hdep ho
   dsimp only at hK ⊢
   refine wpOp_step rfl (fun K2 hK2=>?_)
   go_simp
   refine (trial30_any 60 _ [(0,60)] z q2).mono ?_
   rintro e z1 ⟨a,b,c,rfl,h,hb⟩
   exact hK2 _ _ (hK _ _ hb ⟨a,b,c,_,rfl,h⟩)
  | 4,ho =>
   obtain rfl:=oj ho
   have q3:TlW z (x 15) ⟨exH 60,[(0,60)]⟩:=hdep 3 (by kernel_rfl) _ _ rfl rfl
   obtain ⟨a3,b3,c3,d3,e3,h3⟩:=q3
   clear hdep ho
   dsimp only at hK ⊢
   simp only [e3] at hK ⊢
   refine wpOp_step rfl (fun K2 hK2=>?_)
   go_simp
   exact hK2 _ _ (hK _ _ (new_below _ _) (new_tl1 h3))
  | 5,ho =>
   obtain rfl:=oj ho
   have q0:StV z (x 12) [[]]:=hdep 0 (by kernel_rfl) _ _ rfl rfl
   have q4:TlsV z (x 16) exT1:=hdep 4 (by kernel_rfl) _ _ rfl rfl
   clear hdep ho
   dsimp only at hK ⊢
   refine wpOp_step rfl (fun K2 hK2=>?_)
   go_simp
   refine (least_v exT_ok.1 ex_lea1 exT1_sm (by decide) (HD.out.below (below_step HB.out hz)) (HT.out.below (below_step HB.out hz)) q0 q4).mono ?_
   rintro e z1 ⟨rfl,hb⟩
   exact hK2 _ _ (hK _ _ hb rfl)
  | 6,ho =>
   obtain rfl:=oj ho
   have q5:x 17 = .bool true:=hdep 5 (by kernel_rfl) _ _ rfl rfl
   clear hdep ho
   dsimp only at hK ⊢
   simp only [q5] at hK ⊢
   refine wpOp_step rfl (fun K2 hK2=>?_)
   go_simp
   exact hK2 _ _ (hK _ _ (Below.refl _ _) rfl)
  | 7,ho =>
   obtain rfl:=oj ho
   have q6:x 18 = .bool true:=hdep 6 (by kernel_rfl) _ _ rfl rfl
   clear hdep ho
   dsimp only at hK ⊢
   simp only [q6] at hK ⊢
   refine wpOp_step rfl (fun K2 hK2=>?_)
   go_simp
   exact hK2 _ _ (hK _ _ (Below.refl _ _) rfl)
  | 8,ho =>
   obtain rfl:=oj ho
   have q6:x 18 = .bool true:=hdep 6 (by kernel_rfl) _ _ rfl rfl
   have q7:x 19 = .agg #[.int .i64 1,.int .i64 0,.int .i64 61]:=hdep 7 (by kernel_rfl) _ _ rfl rfl
   clear hdep ho
   dsimp only at hK ⊢
   simp only [q6,q7] at hK ⊢
   refine wpOp_step rfl (fun K2 hK2=>?_)
   go_simp
   exact hK2 _ _ (hK _ _ (new_below _ _) (new_ft _ (1,0,61)))
  | 9,ho =>
   obtain rfl:=oj ho
   have q6:x 18 = .bool true:=hdep 6 (by kernel_rfl) _ _ rfl rfl
   have q8:FtV z (x 20) [(1,0,61)]:=hdep 8 (by kernel_rfl) _ _ rfl rfl
   obtain ⟨a8,c8,e8⟩:=ARd.ftForm q8
   rw [e8] at q8
   clear hdep ho
   dsimp only at hK ⊢
   simp only [q6,e8] at hK ⊢
   refine wpOp_step rfl (fun K2 hK2=>?_)
   go_simp
   exact hK2 _ _ (hK _ _ (new_below _ _) (new_st1 q8))
  | 10,ho =>
   obtain rfl:=oj ho
   have q6:x 18 = .bool true:=hdep 6 (by kernel_rfl) _ _ rfl rfl
   obtain ⟨y0,y1⟩:=HC1.out z hz
   clear hdep ho
   dsimp only at hK ⊢
   simp only [q6] at hK ⊢
   refine wpOp_step rfl (fun K2 hK2=>?_)
   go_simp
   exact hK2 _ _ (hK _ _ (Below.refl _ _) rfl)
  | 11,ho =>
   obtain rfl:=oj ho
   have q6:x 18 = .bool true:=hdep 6 (by kernel_rfl) _ _ rfl rfl
   obtain ⟨y0,y1⟩:=HC2.out z hz
   clear hdep ho
   dsimp only at hK ⊢
   simp only [q6] at hK ⊢
   refine wpOp_step rfl (fun K2 hK2=>?_)
   go_simp
   exact hK2 _ _ (hK _ _ (Below.refl _ _) rfl)
  | 12,ho =>
   obtain rfl:=oj ho
   have q6:x 18 = .bool true:=hdep 6 (by kernel_rfl) _ _ rfl rfl
   have q10:x 22 = .agg #[.int .i64 0,.int .i64 60]:=hdep 10 (by kernel_rfl) _ _ rfl rfl
   have q11:x 23 = .agg #[.int .i64 0,.int .i64 61]:=hdep 11 (by kernel_rfl) _ _ rfl rfl
   clear hdep ho
   dsimp only at hK ⊢
   simp only [q6,q10,q11] at hK ⊢
   refine wpOp_step rfl (fun K2 hK2=>?_)
   go_simp
   exact hK2 _ _ (hK _ _ (new_below _ _) (new_pp2 _ (0,60) (0,61)))
  | 13,ho =>
   obtain rfl:=oj ho
   have q6:x 18 = .bool true:=hdep 6 (by kernel_rfl) _ _ rfl rfl
   have q12:PpV z (x 24) [(0,60),(0,61)]:=hdep 12 (by kernel_rfl) _ _ rfl rfl
   clear hdep ho
   dsimp only at hK ⊢
   simp only [q6] at hK ⊢
   refine wpOp_step rfl (fun K2 hK2=>?_)
   go_simp
   refine (trial30_any 60 _ [(0,60),(0,61)] z q12).mono ?_
   rintro e z1 ⟨a,b,c,rfl,h,hb⟩
   exact hK2 _ _ (hK _ _ hb ⟨a,b,c,_,rfl,h⟩)
  | 14,ho =>
   obtain rfl:=oj ho
   have q6:x 18 = .bool true:=hdep 6 (by kernel_rfl) _ _ rfl rfl
   have q13:TlW z (x 25) ⟨exH 60,[(0,60),(0,61)]⟩:=hdep 13 (by kernel_rfl) _ _ rfl rfl
   obtain ⟨a13,b13,c13,d13,e13,h13⟩:=q13
   clear hdep ho
   dsimp only at hK ⊢
   simp only [q6,e13] at hK ⊢
   refine wpOp_step rfl (fun K2 hK2=>?_)
   go_simp
   exact hK2 _ _ (hK _ _ (new_below _ _) (new_tl1 h13))
  | 15,ho =>
   obtain rfl:=oj ho
   have q6:x 18 = .bool true:=hdep 6 (by kernel_rfl) _ _ rfl rfl
   have q9:StV z (x 21) [[(1,0,61)]]:=hdep 9 (by kernel_rfl) _ _ rfl rfl
   have q14:TlsV z (x 26) exT2:=hdep 14 (by kernel_rfl) _ _ rfl rfl
   clear hdep ho
   dsimp only at hK ⊢
   simp only [q6] at hK ⊢
   refine wpOp_step rfl (fun K2 hK2=>?_)
   go_simp
   refine (least_v exT_ok.2.1 ex_lea2 exT2_sm (by decide) (HD.out.below (below_step HB.out hz)) (HT.out.below (below_step HB.out hz)) q9 q14).mono ?_
   rintro e z1 ⟨rfl,hb⟩
   exact hK2 _ _ (hK _ _ hb rfl)
  | 16,ho =>
   obtain rfl:=oj ho
   have q6:x 18 = .bool true:=hdep 6 (by kernel_rfl) _ _ rfl rfl
   have q15:x 27 = .bool true:=hdep 15 (by kernel_rfl) _ _ rfl rfl
   clear hdep ho
   dsimp only at hK ⊢
   simp only [q6,q15] at hK ⊢
   refine wpOp_step rfl (fun K2 hK2=>?_)
   go_simp
   exact hK2 _ _ (hK _ _ (Below.refl _ _) rfl)
  | 17,ho =>
   obtain rfl:=oj ho
   have q16:x 28 = .bool true:=hdep 16 (by kernel_rfl) _ _ rfl rfl
   clear hdep ho
   dsimp only at hK ⊢
   simp only [q16] at hK ⊢
   refine wpOp_step rfl (fun K2 hK2=>?_)
   go_simp
   exact hK2 _ _ (hK _ _ (Below.refl _ _) rfl)
  | 18,ho =>
   obtain rfl:=oj ho
   have q17:x 29 = .bool true:=hdep 17 (by kernel_rfl) _ _ rfl rfl
   clear hdep ho
   dsimp only at hK ⊢
   simp only [q17] at hK ⊢
   refine wpOp_step rfl (fun K2 hK2=>?_)
   go_simp
   exact hK2 _ _ (hK _ _ (Below.refl _ _) rfl)
  | 19,ho =>
   obtain rfl:=oj ho
   have q17:x 29 = .bool true:=hdep 17 (by kernel_rfl) _ _ rfl rfl
   have q18:x 30 = .agg #[.int .i64 1,.int .i64 1,.int .i64 60]:=hdep 18 (by kernel_rfl) _ _ rfl rfl
   clear hdep ho
   dsimp only at hK ⊢
   simp only [q17,q18] at hK ⊢
   refine wpOp_step rfl (fun K2 hK2=>?_)
   go_simp
   exact hK2 _ _ (hK _ _ (new_below _ _) (new_ft _ (1,1,60)))
  | 20,ho =>
   obtain rfl:=oj ho
   have q17:x 29 = .bool true:=hdep 17 (by kernel_rfl) _ _ rfl rfl
   clear hdep ho
   dsimp only at hK ⊢
   simp only [q17] at hK ⊢
   refine wpOp_step rfl (fun K2 hK2=>?_)
   go_simp
   exact hK2 _ _ (hK _ _ (Below.refl _ _) (HDR.out.later hz))
  | 21,ho =>
   obtain rfl:=oj ho
   have q17:x 29 = .bool true:=hdep 17 (by kernel_rfl) _ _ rfl rfl
   have q19:FtV z (x 31) [(1,1,60)]:=hdep 19 (by kernel_rfl) _ _ rfl rfl
   obtain ⟨a19,c19,e19⟩:=ARd.ftForm q19
   rw [e19] at q19
   have q20:FtV z (x 32) [(3,1,0)]:=hdep 20 (by kernel_rfl) _ _ rfl rfl
   obtain ⟨a20,c20,e20⟩:=ARd.ftForm q20
   rw [e20] at q20
   clear hdep ho
   dsimp only at hK ⊢
   simp only [q17,e19,e20] at hK ⊢
   refine wpOp_step rfl (fun K2 hK2=>?_)
   go_simp
   exact hK2 _ _ (hK _ _ (new_below _ _) (new_st2 q19 q20))
  | 22,ho =>
   obtain rfl:=oj ho
   have q17:x 29 = .bool true:=hdep 17 (by kernel_rfl) _ _ rfl rfl
   obtain ⟨y0,y1⟩:=HC1.out z hz
   clear hdep ho
   dsimp only at hK ⊢
   simp only [q17] at hK ⊢
   refine wpOp_step rfl (fun K2 hK2=>?_)
   go_simp
   exact hK2 _ _ (hK _ _ (Below.refl _ _) rfl)
  | 23,ho =>
   obtain rfl:=oj ho
   have q17:x 29 = .bool true:=hdep 17 (by kernel_rfl) _ _ rfl rfl
   obtain ⟨y0,y1⟩:=HC3.out z hz
   clear hdep ho
   dsimp only at hK ⊢
   simp only [q17] at hK ⊢
   refine wpOp_step rfl (fun K2 hK2=>?_)
   go_simp
   exact hK2 _ _ (hK _ _ (Below.refl _ _) rfl)
  | 24,ho =>
   obtain rfl:=oj ho
   have q17:x 29 = .bool true:=hdep 17 (by kernel_rfl) _ _ rfl rfl
   have q22:x 34 = .agg #[.int .i64 0,.int .i64 60]:=hdep 22 (by kernel_rfl) _ _ rfl rfl
   have q23:x 35 = .agg #[.int .i64 1,.int .i64 60]:=hdep 23 (by kernel_rfl) _ _ rfl rfl
   clear hdep ho
   dsimp only at hK ⊢
   simp only [q17,q22,q23] at hK ⊢
   refine wpOp_step rfl (fun K2 hK2=>?_)
   go_simp
   exact hK2 _ _ (hK _ _ (new_below _ _) (new_pp2 _ (0,60) (1,60)))
  | 25,ho =>
   obtain rfl:=oj ho
   have q17:x 29 = .bool true:=hdep 17 (by kernel_rfl) _ _ rfl rfl
   have q24:PpV z (x 36) [(0,60),(1,60)]:=hdep 24 (by kernel_rfl) _ _ rfl rfl
   clear hdep ho
   dsimp only at hK ⊢
   simp only [q17] at hK ⊢
   refine wpOp_step rfl (fun K2 hK2=>?_)
   go_simp
   refine (trial30_any 60 _ [(0,60),(1,60)] z q24).mono ?_
   rintro e z1 ⟨a,b,c,rfl,h,hb⟩
   exact hK2 _ _ (hK _ _ hb ⟨a,b,c,_,rfl,h⟩)
  | 26,ho =>
   obtain rfl:=oj ho
   have q17:x 29 = .bool true:=hdep 17 (by kernel_rfl) _ _ rfl rfl
   have q25:TlW z (x 37) ⟨exH 60,[(0,60),(1,60)]⟩:=hdep 25 (by kernel_rfl) _ _ rfl rfl
   obtain ⟨a25,b25,c25,d25,e25,h25⟩:=q25
   clear hdep ho
   dsimp only at hK ⊢
   simp only [q17,e25] at hK ⊢
   refine wpOp_step rfl (fun K2 hK2=>?_)
   go_simp
   exact hK2 _ _ (hK _ _ (new_below _ _) (new_tl1 h25))
  | 27,ho =>
   obtain rfl:=oj ho
   have q17:x 29 = .bool true:=hdep 17 (by kernel_rfl) _ _ rfl rfl
   have q21:StV z (x 33) [[(1,1,60)],[(3,1,0)]]:=hdep 21 (by kernel_rfl) _ _ rfl rfl
   have q26:TlsV z (x 38) exT3:=hdep 26 (by kernel_rfl) _ _ rfl rfl
   clear hdep ho
   dsimp only at hK ⊢
   simp only [q17] at hK ⊢
   refine wpOp_step rfl (fun K2 hK2=>?_)
   go_simp
   refine (least_v exT_ok.2.2.1 ex_lea3 exT3_sm (by decide) (HD.out.below (below_step HB.out hz)) (HT.out.below (below_step HB.out hz)) q21 q26).mono ?_
   rintro e z1 ⟨rfl,hb⟩
   exact hK2 _ _ (hK _ _ hb rfl)
  | 28,ho =>
   obtain rfl:=oj ho
   have q17:x 29 = .bool true:=hdep 17 (by kernel_rfl) _ _ rfl rfl
   have q27:x 39 = .bool true:=hdep 27 (by kernel_rfl) _ _ rfl rfl
   clear hdep ho
   dsimp only at hK ⊢
   simp only [q17,q27] at hK ⊢
   refine wpOp_step rfl (fun K2 hK2=>?_)
   go_simp
   exact hK2 _ _ (hK _ _ (Below.refl _ _) rfl)
  | 29,ho =>
   obtain rfl:=oj ho
   have q28:x 40 = .bool true:=hdep 28 (by kernel_rfl) _ _ rfl rfl
   clear hdep ho
   dsimp only at hK ⊢
   simp only [q28] at hK ⊢
   refine wpOp_step rfl (fun K2 hK2=>?_)
   go_simp
   exact hK2 _ _ (hK _ _ (Below.refl _ _) rfl)
  | 30,ho =>
   obtain rfl:=oj ho
   have q29:x 41 = .bool true:=hdep 29 (by kernel_rfl) _ _ rfl rfl
   clear hdep ho
   dsimp only at hK ⊢
   simp only [q29] at hK ⊢
   refine wpOp_step rfl (fun K2 hK2=>?_)
   go_simp
   exact hK2 _ _ (hK _ _ (Below.refl _ _) (HDR.out.later hz))
  | 31,ho =>
   obtain rfl:=oj ho
   have q29:x 41 = .bool true:=hdep 29 (by kernel_rfl) _ _ rfl rfl
   have q30:FtV z (x 42) [(3,1,0)]:=hdep 30 (by kernel_rfl) _ _ rfl rfl
   obtain ⟨a30,c30,e30⟩:=ARd.ftForm q30
   rw [e30] at q30
   clear hdep ho
   dsimp only at hK ⊢
   simp only [q29,e30] at hK ⊢
   refine wpOp_step rfl (fun K2 hK2=>?_)
   go_simp
   exact hK2 _ _ (hK _ _ (new_below _ _) (new_st1 q30))
  | 32,ho =>
   obtain rfl:=oj ho
   have q29:x 41 = .bool true:=hdep 29 (by kernel_rfl) _ _ rfl rfl
   obtain ⟨y0,y1⟩:=HC1.out z hz
   clear hdep ho
   dsimp only at hK ⊢
   simp only [q29] at hK ⊢
   refine wpOp_step rfl (fun K2 hK2=>?_)
   go_simp
   exact hK2 _ _ (hK _ _ (Below.refl _ _) rfl)
  | 33,ho =>
   obtain rfl:=oj ho
   have q29:x 41 = .bool true:=hdep 29 (by kernel_rfl) _ _ rfl rfl
   obtain ⟨y0,y1⟩:=HC3.out z hz
   clear hdep ho
   dsimp only at hK ⊢
   simp only [q29] at hK ⊢
   refine wpOp_step rfl (fun K2 hK2=>?_)
   go_simp
   exact hK2 _ _ (hK _ _ (Below.refl _ _) rfl)
  | 34,ho =>
   obtain rfl:=oj ho
   have q29:x 41 = .bool true:=hdep 29 (by kernel_rfl) _ _ rfl rfl
   have q32:x 44 = .agg #[.int .i64 0,.int .i64 60]:=hdep 32 (by kernel_rfl) _ _ rfl rfl
   have q33:x 45 = .agg #[.int .i64 1,.int .i64 60]:=hdep 33 (by kernel_rfl) _ _ rfl rfl
   clear hdep ho
   dsimp only at hK ⊢
   simp only [q29,q32,q33] at hK ⊢
   refine wpOp_step rfl (fun K2 hK2=>?_)
   go_simp
   exact hK2 _ _ (hK _ _ (new_below _ _) (new_pp2 _ (0,60) (1,60)))
  | 35,ho =>
   obtain rfl:=oj ho
   have q29:x 41 = .bool true:=hdep 29 (by kernel_rfl) _ _ rfl rfl
   have q34:PpV z (x 46) [(0,60),(1,60)]:=hdep 34 (by kernel_rfl) _ _ rfl rfl
   clear hdep ho
   dsimp only at hK ⊢
   simp only [q29] at hK ⊢
   refine wpOp_step rfl (fun K2 hK2=>?_)
   go_simp
   refine (trial30_any 60 _ [(0,60),(1,60)] z q34).mono ?_
   rintro e z1 ⟨a,b,c,rfl,h,hb⟩
   exact hK2 _ _ (hK _ _ hb ⟨a,b,c,_,rfl,h⟩)
  | 36,ho =>
   obtain rfl:=oj ho
   have q29:x 41 = .bool true:=hdep 29 (by kernel_rfl) _ _ rfl rfl
   obtain ⟨y0,y1⟩:=HC2.out z hz
   clear hdep ho
   dsimp only at hK ⊢
   simp only [q29] at hK ⊢
   refine wpOp_step rfl (fun K2 hK2=>?_)
   go_simp
   exact hK2 _ _ (hK _ _ (Below.refl _ _) rfl)
  | 37,ho =>
   obtain rfl:=oj ho
   have q29:x 41 = .bool true:=hdep 29 (by kernel_rfl) _ _ rfl rfl
   obtain ⟨y0,y1⟩:=HC4.out z hz
   clear hdep ho
   dsimp only at hK ⊢
   simp only [q29] at hK ⊢
   refine wpOp_step rfl (fun K2 hK2=>?_)
   go_simp
   exact hK2 _ _ (hK _ _ (Below.refl _ _) rfl)
  | 38,ho =>
   obtain rfl:=oj ho
   have q29:x 41 = .bool true:=hdep 29 (by kernel_rfl) _ _ rfl rfl
   have q36:x 48 = .agg #[.int .i64 0,.int .i64 61]:=hdep 36 (by kernel_rfl) _ _ rfl rfl
   have q37:x 49 = .agg #[.int .i64 1,.int .i64 61]:=hdep 37 (by kernel_rfl) _ _ rfl rfl
   clear hdep ho
   dsimp only at hK ⊢
   simp only [q29,q36,q37] at hK ⊢
   refine wpOp_step rfl (fun K2 hK2=>?_)
   go_simp
   exact hK2 _ _ (hK _ _ (new_below _ _) (new_pp2 _ (0,61) (1,61)))
  | 39,ho =>
   obtain rfl:=oj ho
   have q29:x 41 = .bool true:=hdep 29 (by kernel_rfl) _ _ rfl rfl
   have q38:PpV z (x 50) [(0,61),(1,61)]:=hdep 38 (by kernel_rfl) _ _ rfl rfl
   clear hdep ho
   dsimp only at hK ⊢
   simp only [q29] at hK ⊢
   refine wpOp_step rfl (fun K2 hK2=>?_)
   go_simp
   refine (trial30_any 61 _ [(0,61),(1,61)] z q38).mono ?_
   rintro e z1 ⟨a,b,c,rfl,h,hb⟩
   exact hK2 _ _ (hK _ _ hb ⟨a,b,c,_,rfl,h⟩)
  | 40,ho =>
   obtain rfl:=oj ho
   have q29:x 41 = .bool true:=hdep 29 (by kernel_rfl) _ _ rfl rfl
   have q35:TlW z (x 47) ⟨exH 60,[(0,60),(1,60)]⟩:=hdep 35 (by kernel_rfl) _ _ rfl rfl
   obtain ⟨a35,b35,c35,d35,e35,h35⟩:=q35
   have q39:TlW z (x 51) ⟨exH 61,[(0,61),(1,61)]⟩:=hdep 39 (by kernel_rfl) _ _ rfl rfl
   obtain ⟨a39,b39,c39,d39,e39,h39⟩:=q39
   clear hdep ho
   dsimp only at hK ⊢
   simp only [q29,e35,e39] at hK ⊢
   refine wpOp_step rfl (fun K2 hK2=>?_)
   go_simp
   exact hK2 _ _ (hK _ _ (new_below _ _) (new_tl2 h35 h39))
  | 41,ho =>
   obtain rfl:=oj ho
   have q29:x 41 = .bool true:=hdep 29 (by kernel_rfl) _ _ rfl rfl
   have q31:StV z (x 43) [[(3,1,0)]]:=hdep 31 (by kernel_rfl) _ _ rfl rfl
   have q40:TlsV z (x 52) exT4:=hdep 40 (by kernel_rfl) _ _ rfl rfl
   clear hdep ho
   dsimp only at hK ⊢
   simp only [q29] at hK ⊢
   refine wpOp_step rfl (fun K2 hK2=>?_)
   go_simp
   refine (least_v exT_ok.2.2.2 ex_lea4 exT4_sm (by decide) (HD.out.below (below_step HB.out hz)) (HT.out.below (below_step HB.out hz)) q31 q40).mono ?_
   rintro e z1 ⟨rfl,hb⟩
   exact hK2 _ _ (hK _ _ hb rfl)
  | 42,ho =>
   obtain rfl:=oj ho
   have q29:x 41 = .bool true:=hdep 29 (by kernel_rfl) _ _ rfl rfl
   have q41:x 53 = .bool true:=hdep 41 (by kernel_rfl) _ _ rfl rfl
   clear hdep ho
   dsimp only at hK ⊢
   simp only [q29,q41] at hK ⊢
   refine wpOp_step rfl (fun K2 hK2=>?_)
   go_simp
   exact hK2 _ _ (hK _ _ (Below.refl _ _) rfl)
  | 43,ho =>
   obtain rfl:=oj ho
   have q42:x 54 = .bool true:=hdep 42 (by kernel_rfl) _ _ rfl rfl
   clear hdep ho
   dsimp only at hK ⊢
   simp only [q42] at hK ⊢
   refine wpOp_step rfl (fun K2 hK2=>?_)
   go_simp
   exact hK2 _ _ (hK _ _ (Below.refl _ _) rfl)
  | n+44,ho=>exact absurd (Array.getElem?_eq_some_iff.1 ho).1 (by simp)
 case done =>
  intro x z hz hres
  have q43:x 0 = .bool true:=hres 43 _ _ rfl rfl
  have HZ:=hid (below_step HB.out hz)
  clear hres hz
  dsimp only
  simp only [q43]
  go_wp2
  go_ret
  exact ⟨rfl,HZ.out⟩
structure CsIn (W:World) (v1 v2 v3 v4 fv vk vs vc tv hv:Value) (fp:Nat→Value) (S:Sp) (F:List Ft) (H:Hn) (L:List Tl) (Hs:List Hn) (gk gs gc gh hk hs hc:Nat→Value):Prop where
 m:CsM W v1 v2 v3 v4 fv vk vs vc tv hv fp S F H L Hs gk gs gc gh hk hs hc
 dn:∀ x∈S.ds,x.name.size≤9223372036854775807
 rn:∀ x∈S.rs,x.name.size≤9223372036854775807
 sn:∀ x∈S.ss,x.name.size≤9223372036854775807
 cn:∀ x∈S.cs,x.name.size≤9223372036854775807
 cap:∀ i,i<S.ss.length→CapOk (fp i)
 ll:L.length≤9223372036854775807
 lh:Hs.length≤9223372036854775807
theorem CsIn.wk {W:World} {v1 v2 v3 v4 fv vk vs vc tv hv:Value} {fp:Nat→Value} {S:Sp} {F:List Ft} {H:Hn} {L:List Tl} {Hs:List Hn} {gk gs gc gh hk hs hc:Nat→Value} (h:CsIn W v1 v2 v3 v4 fv vk vs vc tv hv fp S F H L Hs gk gs gc gh hk hs hc) (p:FarP S F H L Hs):SpWk S :=
 ⟨h.dn,h.rn,h.sn,h.cn,fun x hx=>by have:=p.sp x hx;omega⟩
theorem snd_some (S:Sp):∃ B:(Th→Int)→Pp→Bool,SndIs S B:=by
 classical
 exact ⟨fun f p=>decide (Snd S f p),fun f p=>decide_eq_true_iff⟩
theorem case_cells {W0 z:World} {P:Nat} {a b c d e f g h i j k:Value} (hK:Blk W0 P 36 #[a,b,c,d,e,f,g,h,i,j,k]) (hz:Below W0.heap.size W0 z) :
  z.cell? ⟨P,0,none⟩=some a∧z.cell? ⟨P,1,none⟩=some b∧z.cell? ⟨P,2,none⟩=some c∧z.cell? ⟨P,3,none⟩=some d∧z.cell? ⟨P,4,none⟩=some e∧z.cell? ⟨P,5,none⟩=some f∧z.cell? ⟨P,6,none⟩=some g∧z.cell? ⟨P,7,none⟩=some h∧z.cell? ⟨P,8,none⟩=some i∧z.cell? ⟨P,9,none⟩=some j∧z.cell? ⟨P,10,none⟩=some k :=
 ⟨(hK.below hz).cell 0,(hK.below hz).cell 1,(hK.below hz).cell 2,(hK.below hz).cell 3,(hK.below hz).cell 4,(hK.below hz).cell 5,(hK.below hz).cell 6,(hK.below hz).cell 7,(hK.below hz).cell 8,(hK.below hz).cell 9,(hK.below hz).cell 10⟩
end Go.Proofs.YteflhbfgpknabaaGreatDoor
namespace Go.Proofs.YteflhbfgpknabaaGreatDoor
open Go.Lib (hid)
open Go.ChangeShapes Go.WideShapes Go.RowKit Go.Deep
section
variable {H : Type} {enc : TypeId × Value → H} {P : Program} {w : World} {base : Nat} {spare : Nat → Bool} {held : Bool}
theorem max_len:maxLen=9223372036854775807:=by decide
theorem slice_rowsB {α:Type} {t e:TypeId} {fuel k:Nat} {cs:List Value} {x:DataW H × List MemPlace} (cells:α→List Value) (Good:α→Prop) (ht:P.underlying t=some (.slice e)) (hC:P.cellsOf e=k) (hk:0<k)
  (each:∀ n cs' y,DataW.trod enc P w base spare held n e cs'=some y→∃ r:α,cs'=cells r∧Good r) (h:DataW.trod enc P w base spare held fuel t cs=some x) :
  ∃ (v:Value) (rows:List α),cs=[v]∧ARd w v k (rows.map cells)∧(∀ r∈rows,Good r)∧rows.length≤maxLen∧∀ a n c,v = .slice a n c→n≤c:=by
 obtain ⟨v,rows,hc,hr,hg⟩:=slice_rows cells Good ht hC hk each h
 rcases open_slice ht h with ⟨hc2,_⟩ | ⟨a,len,cap,m,n,D,Pl,hc2,_,hl,hm,_⟩
 ·obtain ⟨a',c',hv⟩:=hr.form
  rw [hc2,hv] at hc
  simp only [List.cons.injEq,Value.slice.injEq,and_true] at hc
  obtain ⟨_,h2,_⟩:=hc
  rw [List.length_map] at h2
  refine ⟨v,rows,by rw [hc2,hv,List.length_map,← h2];simp_all,hr,hg,by rw [← h2];exact Nat.zero_le _,fun a n c e=>?_⟩
  rw [hv] at e
  simp only [Value.slice.injEq,List.length_map] at e
  omega
 ·obtain ⟨a',c',hv⟩:=hr.form
  have hc3:=hc
  rw [hc2,hv] at hc3
  simp only [List.cons.injEq,Value.slice.injEq,and_true,List.length_map] at hc3
  obtain ⟨_,h2,h3⟩:=hc3
  refine ⟨v,rows,hc,hr,hg,by omega,fun a n c e=>?_⟩
  rw [hv] at e
  simp only [Value.slice.injEq,List.length_map] at e
  omega
theorem fld_stringD {t:TypeId} {fs:Array Field} {n:Nat} {cs:List Value} {y:DataW H × List MemPlace} (ht:P.underlying t=some (.struct fs)) (h:DataW.trod enc P w base spare held n t cs=some y) (i:Nat) (f:Field) (hf:fs[i]?=some f)
  (hu:P.underlying f.type=some .string):∃ z:ByteArray,cs[f.offset]?=some (.string z)∧z.size≤9223372036854775807:=by
 obtain ⟨m,z,hz⟩:=fld ht h i f hf
 obtain ⟨k,hk,_,hw⟩:=DataW.trod_string hu hz
 refine ⟨k,?_,by rw [← max_len];exact hw⟩
 have h0:((cs.drop f.offset).take (P.cellsOf f.type))[0]?=some (.string k):=by rw [hk];rfl
 rw [List.getElem?_take] at h0
 split at h0
 ·rw [List.getElem?_drop,Nat.add_zero] at h0;exact h0
 ·cases h0
end
section
variable {H : Type} {enc : TypeId × Value → H} {W : World} {base : Nat} {spare : Nat → Bool} {held : Bool}
theorem c1_dv:Tryz.prog.cellsOf 22=1:=by kernel_rfl
theorem c1_rk:Tryz.prog.cellsOf 23=1:=by kernel_rfl
theorem c1_st:Tryz.prog.cellsOf 24=1:=by kernel_rfl
theorem c1_cp:Tryz.prog.cellsOf 25=1:=by kernel_rfl
theorem c1_ft:Tryz.prog.cellsOf 28=1:=by kernel_rfl
theorem c1_pp:Tryz.prog.cellsOf 50=1:=by kernel_rfl
theorem c1_tl:Tryz.prog.cellsOf 33=1:=by kernel_rfl
theorem c1_hn:Tryz.prog.cellsOf 34=1:=by kernel_rfl
theorem c1_rw:Tryz.prog.cellsOf 29=1:=by kernel_rfl
theorem c1_is:Tryz.prog.cellsOf 30=1:=by kernel_rfl
theorem c1_i:Tryz.prog.cellsOf 3=1:=by kernel_rfl
theorem cD_sp:Tryz.prog.cellsOf 27=4:=by kernel_rfl
theorem cD_hn:Tryz.prog.cellsOf 32=3:=by kernel_rfl
theorem cD_tl:Tryz.prog.cellsOf 58=4:=by kernel_rfl
theorem cD_ft:Tryz.prog.cellsOf 74=3:=by kernel_rfl
theorem cD_pp:Tryz.prog.cellsOf 78=2:=by kernel_rfl
theorem cD_cs:Tryz.prog.cellsOf 36=11:=by kernel_rfl
theorem list2D {cs:List Value} {a b:Value} (hl:cs.length=2) (h0:cs[0]?=some a) (h1:cs[1]?=some b):cs=[a,b]:=by
 match cs,hl with
 | [_,_],_=>simp at h0 h1;rw [h0,h1]
theorem int_openD (n:Nat) (cs:List Value) (y:DataW H × List MemPlace) (h:DataW.trod enc Tryz.prog W base spare held n 3 cs=some y):∃ k:Int,cs=iC k∧True:=by
 obtain ⟨k,hk,_,hw⟩:=DataW.trod_int Tryz.underlying3 h
 exact ⟨k,hk,trivial⟩
theorem dvD_open (n:Nat) (cs:List Value) (y:DataW H × List MemPlace) (h:DataW.trod enc Tryz.prog W base spare held n 109 cs=some y):∃ d:Dv,cs=dvC d∧d.name.size≤9223372036854775807:=by
 have hl:=(len_struct Tryz.underlying109 h).trans cO_dv
 obtain ⟨a,ha,wa⟩:=fld_stringD Tryz.underlying109 h 0 _ rfl Tryz.underlying9
 obtain ⟨b,hb,_⟩:=fld_int Tryz.underlying109 h 1 _ rfl Tryz.underlying3
 obtain ⟨c,hc,_⟩:=fld_int Tryz.underlying109 h 2 _ rfl Tryz.underlying3
 exact ⟨⟨a,b,c⟩,list3 hl ha hb hc,wa⟩
theorem rkD_open (n:Nat) (cs:List Value) (y:DataW H × List MemPlace) (h:DataW.trod enc Tryz.prog W base spare held n 63 cs=some y):∃ r:Rk,cs=rkC r∧r.name.size≤9223372036854775807:=by
 have hl:=(len_struct Tryz.underlying63 h).trans cO_rk
 obtain ⟨a,ha,wa⟩:=fld_stringD Tryz.underlying63 h 0 _ rfl Tryz.underlying9
 obtain ⟨b,hb,wb⟩:=fld_int Tryz.underlying63 h 1 _ rfl Tryz.underlying3
 obtain ⟨c,d,hc,hd,wc,wd⟩:=fld_two Tryz.underlying63 h 2 _ _ _ rfl Tryz.underlying61 rfl rfl Tryz.underlying3 Tryz.underlying3
 obtain ⟨e,he,we⟩:=fld_int Tryz.underlying63 h 3 _ rfl Tryz.underlying3
 obtain ⟨f,hf,wf⟩:=fld_int Tryz.underlying63 h 4 _ rfl Tryz.underlying3
 exact ⟨⟨a,b,c,d,e,f⟩,list6 hl ha hb hc hd he hf,wa⟩
theorem cpD_open (n:Nat) (cs:List Value) (y:DataW H × List MemPlace) (h:DataW.trod enc Tryz.prog W base spare held n 145 cs=some y):∃ r:Cp,cs=cpC r∧r.name.size≤9223372036854775807:=by
 have hl:=(len_struct Tryz.underlying145 h).trans cO_cp
 obtain ⟨a,ha,wa⟩:=fld_stringD Tryz.underlying145 h 0 _ rfl Tryz.underlying9
 obtain ⟨b,hb,wb⟩:=fld_int Tryz.underlying145 h 1 _ rfl Tryz.underlying3
 obtain ⟨c,hc,wc⟩:=fld_int Tryz.underlying145 h 2 _ rfl Tryz.underlying3
 obtain ⟨d,hd,wd⟩:=fld_int Tryz.underlying145 h 3 _ rfl Tryz.underlying3
 obtain ⟨e,he,we⟩:=fld_int Tryz.underlying145 h 4 _ rfl Tryz.underlying3
 obtain ⟨f,hf⟩:=fld_bool Tryz.underlying145 h 5 _ rfl Tryz.underlying4
 exact ⟨⟨a,b,c,d,e,f⟩,list6 hl ha hb hc hd he hf,wa⟩
theorem ptD_open (n:Nat) (cs:List Value) (y:DataW H × List MemPlace) (h:DataW.trod enc Tryz.prog W base spare held n 105 cs=some y):∃ p:Pt,cs=ptC p∧True:=by
 obtain ⟨p,h1,_⟩:=pt_open n cs y h
 exact ⟨p,h1,trivial⟩
theorem stD_open (n:Nat) (cs:List Value) (y:DataW H × List MemPlace) (h:DataW.trod enc Tryz.prog W base spare held n 66 cs=some y) :
  ∃ r:St × Value,cs=stC r.1 r.2∧r.1.name.size≤9223372036854775807∧ARd W r.2 4 (r.1.parts.map ptC)∧CapOk r.2:=by
 have hl:=(len_struct Tryz.underlying66 h).trans cO_st
 obtain ⟨a,ha,wa⟩:=fld_stringD Tryz.underlying66 h 0 _ rfl Tryz.underlying9
 obtain ⟨b,hb,wb⟩:=fld_int Tryz.underlying66 h 1 _ rfl Tryz.underlying3
 obtain ⟨c,d,hc,hd,wc,wd⟩:=fld_two Tryz.underlying66 h 2 _ _ _ rfl Tryz.underlying61 rfl rfl Tryz.underlying3 Tryz.underlying3
 obtain ⟨m,z,hz⟩:=fld Tryz.underlying66 h 3 _ rfl
 obtain ⟨v,ps,hv,hps,_,_,hcp⟩:=slice_rowsB ptC (fun p=>True) Tryz.underlying64 cO_pt (by omega) ptD_open hz
 have h4:cs[4]?=some v:=by
  have h0:=congrArg (fun l=>l[0]?) hv
  simp only [List.getElem?_take] at h0
  split at h0
  ·rw [List.getElem?_drop] at h0;exact h0
  ·cases h0
 exact ⟨(⟨a,b,c,d,ps⟩,v),list5 hl ha hb hc hd h4,wa,hps,hcp⟩
theorem ftD_open (n:Nat) (cs:List Value) (y:DataW H × List MemPlace) (h:DataW.trod enc Tryz.prog W base spare held n 74 cs=some y):∃ x:Ft,cs=ftC x∧True:=by
 have hl:=(len_struct Tryz.underlying74 h).trans cD_ft
 obtain ⟨a,ha,_⟩:=fld_int Tryz.underlying74 h 0 _ rfl Tryz.underlying3
 obtain ⟨b,hb,_⟩:=fld_int Tryz.underlying74 h 1 _ rfl Tryz.underlying3
 obtain ⟨c,hc,_⟩:=fld_int Tryz.underlying74 h 2 _ rfl Tryz.underlying3
 exact ⟨(a,b,c),list3 hl ha hb hc,trivial⟩
theorem ppD_open (n:Nat) (cs:List Value) (y:DataW H × List MemPlace) (h:DataW.trod enc Tryz.prog W base spare held n 78 cs=some y):∃ x:Pp,cs=ppC x∧True:=by
 have hl:=(len_struct Tryz.underlying78 h).trans cD_pp
 obtain ⟨a,ha,_⟩:=fld_int Tryz.underlying78 h 0 _ rfl Tryz.underlying3
 obtain ⟨b,hb,_⟩:=fld_int Tryz.underlying78 h 1 _ rfl Tryz.underlying3
 exact ⟨(a,b),list2D hl ha hb,trivial⟩
theorem rowD_open (n:Nat) (cs:List Value) (y:DataW H × List MemPlace) (h:DataW.trod enc Tryz.prog W base spare held n 30 cs=some y):∃ r:List Int × Value,cs=[r.2]∧ARd W r.2 1 (r.1.map iC)∧CapOk r.2:=by
 obtain ⟨v,l,h1,h2,_,_,h5⟩:=slice_rowsB iC (fun _=>True) Tryz.underlying30 c1_i (by omega) int_openD h
 exact ⟨(l,v),h1,h2,h5⟩
theorem hand_cells {c0 c1 c2:Value} {y:DataW H × List MemPlace} {n:Nat} (h:DataW.trod enc Tryz.prog W base spare held n 32 [c0,c1,c2]=some y):∃ h:Hn,HnRd W c0 c1 c2 h:=by
 obtain ⟨m0,z0,h0⟩:=fld Tryz.underlying32 h 0 _ rfl
 obtain ⟨m1,z1,h1⟩:=fld Tryz.underlying32 h 1 _ rfl
 obtain ⟨m2,z2,h2⟩:=fld Tryz.underlying32 h 2 _ rfl
 simp [c1_rw] at h0
 simp [c1_is] at h1 h2
 obtain ⟨u0,rows,e0,r0,g0,_⟩:=slice_rowsB (fun r:List Int × Value=>[r.2]) (fun r=>ARd W r.2 1 (r.1.map iC)∧CapOk r.2) Tryz.underlying29 c1_is (by omega) rowD_open h0
 obtain ⟨⟨l1,u1⟩,e1,r1,_⟩:=rowD_open _ _ _ h1
 obtain ⟨⟨l2,u2⟩,e2,r2,_⟩:=rowD_open _ _ _ h2
 obtain rfl:c0=u0:=by simpa using e0
 obtain rfl:c1=u1:=by simpa using e1
 obtain rfl:c2=u2:=by simpa using e2
 refine ⟨⟨rows.map (·.1),l1,l2⟩,⟨fun d=>(rows.getD d ([],.nilFunc)).2,?_,fun d hd=>?_⟩,r1,r2⟩
 ·have e:((List.range (rows.map (fun r:List Int × Value=>r.1)).length).map fun d=>[(rows.getD d ([],.nilFunc)).2])=rows.map (fun r:List Int × Value=>[r.2]):=by
   apply List.ext_getElem
   ·simp
   ·intro i h1 h2
    have hi:i<rows.length:=by simpa using h2
    rw [List.getElem_map,List.getElem_map,List.getElem_range,getD_at hi]
  show ARd W c0 1 ((List.range (rows.map (fun r:List Int × Value=>r.1)).length).map _)
  rw [e]
  exact r0
 ·have hi:d<rows.length:=by simpa using hd
  have e1:(rows.map (fun r:List Int × Value=>r.1)).getD d []=rows[d].1:=by simp [hi]
  have e2:(rows.getD d ([],.nilFunc)).2=rows[d].2:=by rw [getD_at hi]
  show ARd W (rows.getD d ([],.nilFunc)).2 1 (((rows.map (fun r:List Int × Value=>r.1)).getD d []).map iC)∧CapOk (rows.getD d ([],.nilFunc)).2
  rw [e1,e2]
  exact g0 _ (List.getElem_mem hi)
theorem three_of {cs:List Value} (h:cs.length=3):∃ a b c,cs=[a,b,c]:=by
 match cs,h with
 | [a,b,c],_=>exact ⟨a,b,c,rfl⟩
theorem four_of {cs:List Value} (h:cs.length=4):∃ a b c d,cs=[a,b,c,d]:=by
 match cs,h with
 | [a,b,c,d],_=>exact ⟨a,b,c,d,rfl⟩
theorem hnD_open (n:Nat) (cs:List Value) (y:DataW H × List MemPlace) (h:DataW.trod enc Tryz.prog W base spare held n 32 cs=some y):∃ r:Hn × Value × Value × Value,cs=[r.2.1,r.2.2.1,r.2.2.2]∧HnRd W r.2.1 r.2.2.1 r.2.2.2 r.1:=by
 obtain ⟨a,b,c,rfl⟩:=three_of ((len_struct Tryz.underlying32 h).trans cD_hn)
 obtain ⟨x,hx⟩:=hand_cells h
 exact ⟨(x,a,b,c),rfl,hx⟩
theorem tlD_open (n:Nat) (cs:List Value) (y:DataW H × List MemPlace) (h:DataW.trod enc Tryz.prog W base spare held n 58 cs=some y):∃ r:Tl × Value × Value × Value × Value,cs=[r.2.1,r.2.2.1,r.2.2.2.1,r.2.2.2.2]∧HnRd W r.2.1 r.2.2.1 r.2.2.2.1 r.1.h∧ARd W r.2.2.2.2 2 (r.1.l.map ppC):=by
 obtain ⟨a,b,c,d,rfl⟩:=four_of ((len_struct Tryz.underlying58 h).trans cD_tl)
 obtain ⟨m0,z0,h0⟩:=fld Tryz.underlying58 h 0 _ rfl
 obtain ⟨m1,z1,h1⟩:=fld Tryz.underlying58 h 1 _ rfl
 simp [cD_hn] at h0
 simp [c1_pp] at h1
 obtain ⟨x,hx⟩:=hand_cells h0
 obtain ⟨u,l,e1,r1,_⟩:=slice_rowsB ppC (fun _=>True) Tryz.underlying50 cD_pp (by omega) ppD_open h1
 obtain rfl:d=u:=by simpa using e1
 exact ⟨(⟨x,l⟩,a,b,c,d),rfl,hx,r1⟩
theorem spec_cells {c0 c1 c2 c3:Value} {y:DataW H × List MemPlace} {n:Nat} (h:DataW.trod enc Tryz.prog W base spare held n 27 [c0,c1,c2,c3]=some y) :
  ∃ (S:Sp) (f:Nat→Value),SpRd W c0 c1 c2 c3 f S∧(∀ x∈S.ds,x.name.size≤9223372036854775807)∧(∀ x∈S.rs,x.name.size≤9223372036854775807)∧(∀ x∈S.ss,x.name.size≤9223372036854775807)∧(∀ x∈S.cs,x.name.size≤9223372036854775807)∧∀ i,i<S.ss.length→CapOk (f i):=by
 obtain ⟨m0,z0,e1⟩:=fld Tryz.underlying27 h 0 _ rfl
 obtain ⟨m1,z1,e2⟩:=fld Tryz.underlying27 h 1 _ rfl
 obtain ⟨m2,z2,e3⟩:=fld Tryz.underlying27 h 2 _ rfl
 obtain ⟨m3,z3,e4⟩:=fld Tryz.underlying27 h 3 _ rfl
 simp [c1_dv] at e1
 simp [c1_rk] at e2
 simp [c1_st] at e3
 simp [c1_cp] at e4
 obtain ⟨u1,ds,h1,r1,g1⟩:=slice_rows dvC (fun d=>d.name.size≤9223372036854775807) Tryz.underlying22 cO_dv (by omega) dvD_open e1
 obtain ⟨u2,rs,h2,r2,g2⟩:=slice_rows rkC (fun d=>d.name.size≤9223372036854775807) Tryz.underlying23 cO_rk (by omega) rkD_open e2
 obtain ⟨u3,ss,h3,r3,g3⟩:=slice_rows (fun r:St × Value=>stC r.1 r.2) (fun r=>r.1.name.size≤9223372036854775807∧ARd W r.2 4 (r.1.parts.map ptC)∧CapOk r.2) Tryz.underlying24 cO_st (by omega) stD_open e3
 obtain ⟨u4,cps,h4,r4,g4⟩:=slice_rows cpC (fun d=>d.name.size≤9223372036854775807) Tryz.underlying25 cO_cp (by omega) cpD_open e4
 obtain rfl:c0=u1:=by simpa using h1
 obtain rfl:c1=u2:=by simpa using h2
 obtain rfl:c2=u3:=by simpa using h3
 obtain rfl:c3=u4:=by simpa using h4
 have hat:∀ i (hi:i<ss.length),((ss.map (fun r=>r.2)).getD i (.int .i64 0))=ss[i].2:=fun i hi=>by simp [hi]
 refine ⟨⟨ds,rs,ss.map (fun r=>r.1),cps⟩,fun i=>(ss.map (fun r=>r.2)).getD i (.int .i64 0),⟨r1,r2,?_,r4,?_⟩,g1,g2,fun x hx=>?_,g4,fun i hi=>?_⟩
 ·have e:((ss.map (fun r:St × Value=>r.1)).mapIdx fun i x=>stC x ((ss.map (fun r:St × Value=>r.2)).getD i (.int .i64 0)))=ss.map fun r=>stC r.1 r.2:=by
   apply List.ext_getElem
   ·simp
   ·intro i h1 h2
    have hi:i<ss.length:=by simpa using h2
    simp [hi]
  show ARd W c2 5 ((ss.map (fun r:St × Value=>r.1)).mapIdx _)
  rw [e]
  exact r3
 ·intro i hi
  have hi':i<ss.length:=by simpa using hi
  have hg:=(g3 ss[i] (List.getElem_mem hi')).2.1
  have e2:(ss.map (fun r:St × Value=>r.1))[i]'hi=ss[i].1:=by simp
  show ARd W ((ss.map (fun r:St × Value=>r.2)).getD i (.int .i64 0)) 4 (((ss.map (fun r:St × Value=>r.1))[i]'hi).parts.map ptC)
  rw [hat i hi',e2]
  exact hg
 ·obtain ⟨r,hr,rfl⟩:=List.mem_map.1 hx
  exact (g3 r hr).1
 ·have hi':i<ss.length:=by simpa using hi
  show CapOk ((ss.map (fun r:St × Value=>r.2)).getD i (.int .i64 0))
  rw [hat i hi']
  exact (g3 ss[i] (List.getElem_mem hi')).2.2
theorem array11 {α:Type} {cs:Array α} (h:cs.size=11):∃ c0 c1 c2 c3 c4 c5 c6 c7 c8 c9 c10,cs=#[c0,c1,c2,c3,c4,c5,c6,c7,c8,c9,c10]:=by
 obtain ⟨l⟩:=cs
 match l,h with
 | [c0,c1,c2,c3,c4,c5,c6,c7,c8,c9,c10],_=>exact ⟨c0,c1,c2,c3,c4,c5,c6,c7,c8,c9,c10,rfl⟩
theorem hands_cells {v:Value} {y:DataW H × List MemPlace} {n:Nat} (h:DataW.trod enc Tryz.prog W base spare held n 34 [v]=some y):∃ (Hs:List Hn) (a b c:Nat→Value),HnsRd W v Hs a b c∧Hs.length≤9223372036854775807:=by
 obtain ⟨u,rows,e,r,g,hl,_⟩:=slice_rowsB (fun r:Hn × Value × Value × Value=>[r.2.1,r.2.2.1,r.2.2.2]) (fun r=>HnRd W r.2.1 r.2.2.1 r.2.2.2 r.1) Tryz.underlying34 cD_hn (by omega) hnD_open h
 obtain rfl:v=u:=by simpa using e
 have z:Hn × Value × Value × Value:=(⟨[],[],[]⟩,.nilFunc,.nilFunc,.nilFunc)
 refine ⟨rows.map (·.1),fun i=>(rows.getD i z).2.1,fun i=>(rows.getD i z).2.2.1,fun i=>(rows.getD i z).2.2.2,⟨?_,fun i hi=>?_⟩,by rw [List.length_map,← max_len];exact hl⟩
 ·have e:((List.range (rows.map (fun r:Hn × Value × Value × Value=>r.1)).length).map fun i=>[(rows.getD i z).2.1,(rows.getD i z).2.2.1,(rows.getD i z).2.2.2])=rows.map (fun r:Hn × Value × Value × Value=>[r.2.1,r.2.2.1,r.2.2.2]):=by
   apply List.ext_getElem
   ·simp
   ·intro i h1 h2
    have hi:i<rows.length:=by simpa using h2
    rw [List.getElem_map,List.getElem_map,List.getElem_range,getD_at hi]
  rw [e]
  exact r
 ·have hi':i<rows.length:=by simpa using hi
  simp only [List.getElem_map]
  rw [getD_at hi']
  exact g _ (List.getElem_mem hi')
theorem trials_cells {v:Value} {y:DataW H × List MemPlace} {n:Nat} (h:DataW.trod enc Tryz.prog W base spare held n 33 [v]=some y):∃ (L:List Tl) (a b c d:Nat→Value),TlRd W v L a b c d∧L.length≤9223372036854775807:=by
 obtain ⟨u,rows,e,r,g,hl,_⟩:=slice_rowsB (fun r:Tl × Value × Value × Value × Value=>[r.2.1,r.2.2.1,r.2.2.2.1,r.2.2.2.2]) (fun r=>HnRd W r.2.1 r.2.2.1 r.2.2.2.1 r.1.h∧ARd W r.2.2.2.2 2 (r.1.l.map ppC)) Tryz.underlying33 cD_tl (by omega) tlD_open h
 obtain rfl:v=u:=by simpa using e
 have z:Tl × Value × Value × Value × Value:=(⟨⟨[],[],[]⟩,[]⟩,.nilFunc,.nilFunc,.nilFunc,.nilFunc)
 refine ⟨rows.map (·.1),fun i=>(rows.getD i z).2.1,fun i=>(rows.getD i z).2.2.1,fun i=>(rows.getD i z).2.2.2.1,fun i=>(rows.getD i z).2.2.2.2,⟨?_,fun i hi=>?_,fun i hi=>?_⟩,by rw [List.length_map,← max_len];exact hl⟩
 ·have e:((List.range (rows.map (fun r:Tl × Value × Value × Value × Value=>r.1)).length).map fun i=>[(rows.getD i z).2.1,(rows.getD i z).2.2.1,(rows.getD i z).2.2.2.1,(rows.getD i z).2.2.2.2])=rows.map (fun r:Tl × Value × Value × Value × Value=>[r.2.1,r.2.2.1,r.2.2.2.1,r.2.2.2.2]):=by
   apply List.ext_getElem
   ·simp
   ·intro i h1 h2
    have hi:i<rows.length:=by simpa using h2
    rw [List.getElem_map,List.getElem_map,List.getElem_range,getD_at hi]
  rw [e]
  exact r
 ·have hi':i<rows.length:=by simpa using hi
  simp only [List.getElem_map]
  rw [getD_at hi']
  exact (g _ (List.getElem_mem hi')).1
 ·have hi':i<rows.length:=by simpa using hi
  simp only [List.getElem_map]
  rw [getD_at hi']
  exact (g _ (List.getElem_mem hi')).2
theorem case_open {b0:Nat} {r:Reach} {v:Value} {d:DataW H} {p:List MemPlace} (hv:Value.okWide Tryz.prog W r b0 36 v) (h:DataW.Trod enc Tryz.prog W base spare held 36 v d p) :
  ∃ (v1 v2 v3 v4 fv vk vs vc tv hv:Value) (most:Int) (fp:Nat→Value) (S:Sp) (F:List Ft) (X:Hn) (L:List Tl) (Hs:List Hn) (gk gs gc gh hk hs hc:Nat→Value),v = .agg #[v1,v2,v3,v4,fv,vk,vs,vc,tv,.int .i64 most,hv]∧CsIn W v1 v2 v3 v4 fv vk vs vc tv hv fp S F X L Hs gk gs gc gh hk hs hc:=by
 obtain ⟨cs,rfl,hsz⟩:=okWide_struct Tryz.underlying36 hv
 obtain ⟨c0,c1,c2,c3,c4,c5,c6,c7,c8,c9,c10,rfl⟩:=array11 (hsz.trans cD_cs)
 obtain ⟨fuel,hf⟩:=h
 obtain ⟨m0,z0,h0⟩:=fld Tryz.underlying36 hf 0 _ rfl
 obtain ⟨m1,z1,h1⟩:=fld Tryz.underlying36 hf 1 _ rfl
 obtain ⟨m2,z2,h2⟩:=fld Tryz.underlying36 hf 2 _ rfl
 obtain ⟨m3,z3,h3⟩:=fld Tryz.underlying36 hf 3 _ rfl
 obtain ⟨k,hk,_⟩:=fld_int Tryz.underlying36 hf 4 _ rfl Tryz.underlying3
 obtain ⟨m5,z5,h5⟩:=fld Tryz.underlying36 hf 5 _ rfl
 simp [Value.cells] at hk
 simp [Value.cells,cD_sp] at h0
 simp [Value.cells,c1_ft] at h1
 simp [Value.cells,cD_hn] at h2
 simp [Value.cells,c1_tl] at h3
 simp [Value.cells,c1_hn] at h5
 obtain ⟨S,fp,hS,n1,n2,n3,n4,hcap⟩:=spec_cells h0
 obtain ⟨u,F,e1,r1,_⟩:=slice_rowsB ftC (fun _=>True) Tryz.underlying28 cD_ft (by omega) ftD_open h1
 obtain rfl:c4=u:=by simpa using e1
 obtain ⟨X,hX⟩:=hand_cells h2
 obtain ⟨L,a,b,c,d,hL,hl⟩:=trials_cells h3
 obtain ⟨Hs,a',b',c',hH,hlh⟩:=hands_cells h5
 subst hk
 exact ⟨c0,c1,c2,c3,c4,c5,c6,c7,c8,c10,k,fp,S,F,X,L,Hs,a,b,c,d,a',b',c',rfl,⟨hS,r1,hX,hL,hH⟩,n1,n2,n3,n4,hcap,hl,hlh⟩
end
end Go.Proofs.YteflhbfgpknabaaGreatDoor
