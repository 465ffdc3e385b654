/-
  A part of the proof: AL4, AH3, AH4, AH5, A7, AH6.
-/
import Derived.Test.YthhfmppealmblaaGreatDoorM21
import Derived.Test.YthhfmppealmblaaGreatDoorM23
import Derived.Deep.MidRow
import Derived.Test.YthhfmppealmblaaGreatDoorM13
namespace Go.Proofs.YthhfmppealmblaaGreatDoor
open Go.RowKit
theorem addQ_len {S:Sp} {m q:List Pl} (h:q.length≤m.length) (x:Pl):(addQ S m q x).length≤(addM S m x).length:=by
 by_cases c:keyOk S x=true∧x ∉ m
 ·rw [addM_yes c.1 c.2,addQ_yes c.1 c.2,List.length_append,List.length_append]
  omega
 ·have c2:keyOk S x=false∨x∈m:=by
   cases e:keyOk S x with
   | false=>exact .inl rfl
   | true=>exact .inr (Classical.byContradiction fun z=>c ⟨e,z⟩)
  rw [addM_no c2,addQ_no c2]
  exact h
theorem AcM.row {w:World} {B:Nat} {m q:List Pl} {W W':World} (h:AcM w B m q W) {base k:Nat} {v:Value} {xs:List Value} {o:Obj} (hr:W.ownsRow base 3 1 v k xs) (hb:w.heap.size≤base) (hg:(W.alloc o).grownBy W' v.ownBlock):AcM w B m q W':=by
 have h1:=h.low ((Below.refl _ W).alloc (Nat.le_refl _) o)
 rcases hr.2 with ⟨rfl,_⟩ | ⟨g,cap,cur,rfl,h2,h3,_⟩
 ·exact h1.low ⟨hg.os,hg.tape,hg.output,hg.size,fun i hi=>hg.block i hi (by simp [Value.ownBlock])⟩
 ·have hB:Blk (W.alloc o) g 3 cur:=(show Blk W g 3 cur from h3).alloc o
  exact h1.grown hB (by decide) (by decide) (by decide) (by decide) (Nat.le_trans hb h2) hg
theorem RwsI.adf {base n KB X:Nat} {vals:Nat→Value} {G:Nat→List Int} {W W':World} (h:RwsI base n KB vals G W) (hf:AdF X W W') (hx:∀ cs,¬ Blk W X 68 cs∧¬ Blk W X 3 cs):RwsI base n KB vals G W':=by
 obtain ⟨⟨cs,h1,h2,h3⟩,hr,ha,hk⟩:=h
 refine ⟨⟨cs,hf.2 _ _ _ h1 (by decide) (fun e=>by rw [e] at h1;exact (hx cs).1 h1),h2,h3⟩,fun d hd=>?_,ha,hk⟩
 obtain ⟨e1,⟨e2,e3⟩ | ⟨g,cap,cur,e2,e4,e5,e6⟩⟩:=hr d hd
 ·exact ⟨e1,.inl ⟨e2,e3⟩⟩
 ·exact ⟨e1,.inr ⟨g,cap,cur,e2,e4,hf.2 _ _ _ (show Blk W g 3 cur from e5) (by decide) (fun e=>by rw [e] at e5;exact (hx cur).2 e5),e6⟩⟩
theorem AcM.noX {w:World} {B:Nat} {m q:List Pl} {W:World} (h:AcM w B m q W) (cs:Array Value):¬ Blk W (w.heap.size+1+1+1) 68 cs∧¬ Blk W (w.heap.size+1+1+1) 3 cs:=by
 obtain ⟨v,h1,_⟩:=h.x4
 exact ⟨fun hb=>hb.ne h1 (by decide) rfl,fun hb=>hb.ne h1 (by decide) rfl⟩
theorem AcM.pop {w:World} {B:Nat} {m q:List Pl} {x:Pl} {W:World} (h:AcM w B m (x :: q) W):∃ g o cap,W.cell? ⟨w.heap.size+1+1+1,0,none⟩=some (.slice (some ⟨g,o,none⟩) (q.length+1) (cap+1))∧W.frozen? ⟨w.heap.size+1+1+1,0,none⟩=false∧W.cell? ⟨g,o,none⟩=some (.int .i64 x.1)∧W.cell? ⟨g,o+1,none⟩=some (.int .i64 x.2)∧q.length≤cap ∧
  ∀ W1 o2,Below W.heap.size W W1→(o2=o+2∨cap=0∧o2=o)→AcM w B m q (W1.setCell ⟨w.heap.size+1+1+1,0,none⟩ (.slice (some ⟨g,o2,none⟩) q.length cap)):=by
 obtain ⟨v,h1,h2⟩:=h.x4
 obtain ⟨g,o,cap,rfl,t1,t2,t3,t4⟩:=h2.tail
 refine ⟨g,o,cap,h1.cell 0,h1.frozen 0,t1,t2,t3,fun W1 o2 hb ho=>?_⟩
 have h3:=h.low hb
 have t5:QuI W (w.heap.size+1+1+1+1) (.slice (some ⟨g,o2,none⟩) q.length cap) q:=by
  rcases ho with rfl | ⟨rfl,rfl⟩
  ·exact t4
  ·have hq0:q=[]:=List.length_eq_zero_iff.1 (Nat.le_zero.1 t3)
   subst hq0
   rcases t4 with ⟨e,_⟩ | ⟨g2,o3,cap2,cs2,e,h5,h6,h7,h8,h9,h10⟩
   ·cases e
   ·cases e
    exact .inr ⟨g,o2,0,cs2,rfl,h5,h6,h7,h8,by omega,fun j u hj=>by cases hj⟩
 have hg:W1.grownBy (W1.setCell ⟨w.heap.size+1+1+1,0,none⟩ (.slice (some ⟨g,o2,none⟩) q.length cap)) (some (w.heap.size+1+1+1)):=set_grown _ _ _ _
 have h14:=h1.below hb
 refine ⟨h3.b.setCell (p:=⟨w.heap.size+1+1+1,0,none⟩) (by show w.heap.size≤w.heap.size+1+1+1;omega) _,h3.x1.other _ _ (by show w.heap.size≠w.heap.size+1+1+1;omega),h3.mp.kept hg (by simp),h3.x3.other _ _ (by show w.heap.size+1+1≠w.heap.size+1+1+1;omega),_,h14.set 0 _,(t5.below hb).kept hg ?_⟩
 rcases t5 with ⟨e,_⟩ | ⟨g2,o2,cap2,cs2,e,h5,_⟩
 ·cases e
 ·cases e
  refine .inr (fun e=>?_)
  simp only [Value.ownBlock,Option.some.injEq] at e
  exact (h5.ne h1 (by decide)) e
theorem AcM.start (w:World) (B:Nat):AcM w B [] [] ((((w.alloc (.cells #[.pointer (some ⟨B,0,none⟩)] 130)).alloc (.map #[] 0)).alloc (.cells #[.map (some (w.heap.size+1))] 178)).alloc (.cells #[.slice none 0 0] 230)):=by
 refine ⟨((((Below.refl _ w).alloc (Nat.le_refl _) _).alloc (by simp) _).alloc (by simp;omega) _).alloc (by simp;omega) _,(((Blk.new w 130 _).alloc _).alloc _).alloc _,?_,?_,_,?_,QuI.nil _ _⟩
 ·have h:=Mp.made (ek:=ekL) (w.alloc (.cells #[.pointer (some ⟨B,0,none⟩)] 130))
  rw [World.size_alloc] at h
  exact h.below (((Below.refl _ _).alloc (Nat.le_refl _) _).alloc (by simp) _)
 ·have h:=Blk.new ((w.alloc (.cells #[.pointer (some ⟨B,0,none⟩)] 130)).alloc (.map #[] 0)) 178 #[.map (some (w.heap.size+1))]
  rw [World.size_alloc,World.size_alloc] at h
  exact h.alloc _
 ·have h:=Blk.new (((w.alloc (.cells #[.pointer (some ⟨B,0,none⟩)] 130)).alloc (.map #[] 0)).alloc (.cells #[.map (some (w.heap.size+1))] 178)) 230 #[.slice none 0 0]
  rw [World.size_alloc,World.size_alloc,World.size_alloc] at h
  exact h
def keysV (f:Th→Int) (d:Nat):List Value:=(List.range 128).map fun (k:Nat)=>Value.bool (decide (f (1,(d:Int),(k:Int))=1))
theorem keysV_len (f:Th→Int) (d:Nat):(keysV f d).length=128:=by simp [keysV]
theorem keysV_at (f:Th→Int) (d:Nat) {k:Nat} (hk:k<128):(keysV f d)[k]?=some (.bool (decide (f (1,(d:Int),(k:Int))=1))):=by
 unfold keysV
 rw [List.getElem?_map,List.getElem?_range hk]
 rfl
theorem PlX.keys {f:Th→Int} {t:Int} {PB B:Nat} {W:World} (h:PlX f t PB W B) {d:Nat} (hd:d<6):W.rangeAt B (1+d * 128) (keysV f d):=by
 intro j v hj
 have hj2:j<128:=by
  have:=(List.getElem?_eq_some_iff.1 hj).1
  rwa [keysV_len] at this
 rw [keysV_at f d hj2] at hj
 cases hj
 have:=h.on (onIx_key (d:=d) (n:=j) hd hj2)
 unfold onCell at this
 rw [if_neg (show ¬ (1:Int)=4 by decide)] at this
 rw [Nat.add_assoc]
 exact this
theorem keys_info:(Tryz.prog.info? 113).map (·.size)=some 128:=by kernel_rfl
theorem run_keyAt (KA:Array Value) (k:Nat) (hk:k<128) (b:Bool) (h:KA[k]?=some (.bool b)) (w:World):(Instr.index 113 (.agg KA) (.int .i64 (k:Int))).run Tryz.prog w = .ok (.bool b) w:=by
 simp [Instr.index,go_sem,Tryz.sizeOf4,Tryz.isAgg4,h]
 intro h2
 omega
theorem takes_rd {W:World} {base n cap:Nat} {g:Nat} {L:List Int} (h:W.ownsRow base 3 1 (.slice (some ⟨g,0,none⟩) n cap) L.length (iCs L)) (hn:L.length=n) (h0:0<n) (only:Int) (ho:0≤only∧only≤2) :
  (only=0→ARd W (.slice (some ⟨g,0,none⟩) n cap) 1 ((takes only L).map iC)∧(takes only L).length=n)∧(only=1→ARd W (.slice (some ⟨g,0,none⟩) 1 cap) 1 ((takes only L).map iC)∧(takes only L).length=1)∧(only=2→ARd W (.slice (some ⟨g,n-1,none⟩) 1 (cap-(n-1))) 1 ((takes only L).map iC)∧(takes only L).length=1):=by
 have ha:=ARd.of_ints h
 rw [← hn] at ha
 refine ⟨fun e=>?_,fun e=>?_,fun e=>?_⟩
 ·subst e
  unfold takes
  rw [if_neg (by decide),if_neg (by decide)]
  exact ⟨by rw [← hn];exact ha,hn⟩
 ·subst e
  unfold takes
  rw [if_pos rfl]
  refine ⟨ha.pre (i:=1) (by omega) cap,?_⟩
  rw [List.length_take];omega
 ·subst e
  unfold takes
  rw [if_neg (by decide),if_pos rfl]
  have:=ha.suf (i:=L.length-1) (by omega) (cap-(n-1))
  rw [Nat.zero_add,show L.length-(L.length-1)=1 by omega] at this
  refine ⟨by rw [← hn];rw [← hn] at this;exact this,?_⟩
  rw [List.length_drop];omega
theorem mem_takes {only:Int} {L:List Int} {x:Int} (h:x∈takes only L):x∈L:=by
 unfold takes at h
 split at h
 ·exact List.mem_of_mem_take h
 ·split at h
  ·exact List.mem_of_mem_drop h
  ·exact h
theorem AcM.noC {w:World} {B:Nat} {m q:List Pl} {W:World} (h:AcM w B m q W) {P:Nat} {cs:Array Value} (hC:Blk W P 153 cs):P≠w.heap.size+1+1+1:=by
 obtain ⟨v,h1,_⟩:=h.x4
 exact hC.ne h1 (by decide)
def ActE (S:Sp) (f:Th→Int) (w:World) (e:Ending) (w':World):Prop:=∃ mb m,e = .returned (.map (some mb))∧w.heap.size≤mb∧Mp ekL w' mb (setM m)∧(∀ x,x∈m ↔ Acts S f x)∧Below w.heap.size w w'
end Go.Proofs.YthhfmppealmblaaGreatDoor
namespace Go.Proofs.YthhfmppealmblaaGreatDoor
open Go.RowKit
theorem HdRd.forms {W:World} {vk vs vc:Value} {S:Sp} {f:Th→Int} (h:HdRd W vk vs vc S f):(∃ a c,vk = .slice a S.ds.length c)∧(∃ a c,vs = .slice a (onL f 2 S.ss.length).length c)∧(∃ a c,vc = .slice a (onL f 3 S.cs.length).length c):=by
  obtain ⟨⟨g,h1,_⟩,h2,h3⟩:=h
  obtain ⟨a1,c1,e1⟩:=h1.form
  obtain ⟨a2,c2,e2⟩:=h2.form
  obtain ⟨a3,c3,e3⟩:=h3.form
  exact ⟨⟨a1,c1,by simpa using e1⟩,⟨a2,c2,by simpa using e2⟩,⟨a3,c3,by simpa using e3⟩⟩
structure HdS (w:World) (v1 v2 v3 v4:Value) (W:World):Prop where
  b:Below w.heap.size w W
  sp:Blk W w.heap.size 27 #[v1,v2,v3,v4]
  res:∃ cs,Blk W (w.heap.size+1) 70 cs∧cs.size=3
theorem HdS.low {w:World} {v1 v2 v3 v4:Value} {W W':World} (h:HdS w v1 v2 v3 v4 W) (hb:Below W.heap.size W W'):HdS w v1 v2 v3 v4 W':=by
  obtain ⟨cs,h1,h2⟩:=h.res
  exact ⟨below_step h.b hb,h.sp.below hb,cs,h1.below hb,h2⟩
theorem HdS.put {w:World} {v1 v2 v3 v4:Value} {W:World} (h:HdS w v1 v2 v3 v4 W) (i:Nat) (v:Value):HdS w v1 v2 v3 v4 (W.setCell ⟨w.heap.size+1,i,none⟩ v):=by
  obtain ⟨cs,h1,h2⟩:=h.res
  exact ⟨h.b.setCell (p:=⟨w.heap.size+1,i,none⟩) (Nat.le_succ _) v,h.sp.other _ _ (show w.heap.size≠w.heap.size+1 by omega),_,h1.set i v,by rw [Array.size_setIfInBounds];exact h2⟩
theorem HdS.all {w:World} {v1 v2 v3 v4:Value} {W:World} (h:HdS w v1 v2 v3 v4 W):HdS w v1 v2 v3 v4 W∧W.cell? ⟨w.heap.size,0,none⟩=some v1∧W.cell? ⟨w.heap.size,1,none⟩=some v2∧W.cell? ⟨w.heap.size,2,none⟩=some v3∧W.cell? ⟨w.heap.size,3,none⟩=some v4:=⟨h,h.sp.four⟩
theorem HdS.cells {w:World} {v1 v2 v3 v4:Value} {W:World} (h:HdS w v1 v2 v3 v4 W):(∃ u,W.cell? ⟨w.heap.size+1,0,none⟩=some u)∧(∃ u,W.cell? ⟨w.heap.size+1,1,none⟩=some u)∧(∃ u,W.cell? ⟨w.heap.size+1,2,none⟩=some u)∧W.frozen? ⟨w.heap.size+1,0,none⟩=false∧W.frozen? ⟨w.heap.size+1,1,none⟩=false∧W.frozen? ⟨w.heap.size+1,2,none⟩=false:=by
  obtain ⟨cs,h1,h2⟩:=h.res
  exact ⟨⟨_,(h1.cell 0).trans (Array.getElem?_eq_getElem (by omega))⟩,⟨_,(h1.cell 1).trans (Array.getElem?_eq_getElem (by omega))⟩,⟨_,(h1.cell 2).trans (Array.getElem?_eq_getElem (by omega))⟩,h1.frozen 0,h1.frozen 1,h1.frozen 2⟩
theorem hd_blk {W:World} {B:Nat} {cs:Array Value} (h:Blk W B 70 cs) (hs:cs.size=3) (a b c:Value):Blk (((W.setCell ⟨B,0,none⟩ a).setCell ⟨B,1,none⟩ b).setCell ⟨B,2,none⟩ c) B 70 #[a,b,c]:=by
  obtain ⟨l⟩:=cs
  have hl:∃ x y z,l=[x,y,z]:=by
    match l,hs with
    | [x,y,z],_=>exact ⟨x,y,z,rfl⟩
  obtain ⟨x,y,z,rfl⟩:=hl
  exact ((h.set 0 a).set 1 b).set 2 c
set_option maxRecDepth 100000 in
set_option maxHeartbeats 6400000 in
theorem hand34_any (v1 v2 v3 v4:Value) (S:Sp) (hc:(checkP S).2=0) (fp:Nat→Value) (l:List Ev) (vl:Value) (t:Int) (w:World) (hsp:SpRd w v1 v2 v3 v4 fp S) (hl:l.length≤1000000) (hlv:ARd w vl 5 (l.map evC)) (hp:∀ x∈l,Placed x) :
    Calls Tryz.prog 52 #[.agg #[v1,v2,v3,v4],vl,.int .i64 t] w (HdR S (upF l t) w):=by
  have HSP:=Lib.hid hsp
  have HC:=Lib.hid hc
  have HLV:=Lib.hid hlv
  have HP:=Lib.hid hp
  have b0:=(Blk.new w 27 #[v1,v2,v3,v4]).alloc (.cells #[.slice none 0 0,.slice none 0 0,.slice none 0 0] 70)
  have b1:=Blk.new (w.alloc (.cells #[v1,v2,v3,v4] 27)) 70 #[.slice none 0 0,.slice none 0 0,.slice none 0 0]
  rw [World.size_alloc] at b1
  have B0:=Lib.hid b0
  have B1:=Lib.hid b1
  have HB:=Lib.hid (below_two w (.cells #[v1,v2,v3,v4] 27) (.cells #[.slice none 0 0,.slice none 0 0,.slice none 0 0] 70))
  clear hsp hc hlv hp b0 b1
  go_enter Tryz.func52,Tryz.ntmps52
  go_wp2_with fail
  generalize (w.alloc (.cells #[v1,v2,v3,v4] 27)).alloc (.cells #[.slice none 0 0,.slice none 0 0,.slice none 0 0] 70)=W at *
  obtain ⟨s0,s1,s2,s3⟩:=B0.out.four
  have HS0:=Lib.hid (show HdS w v1 v2 v3 v4 W from ⟨HB.out,B0.out,_,B1.out,rfl⟩)
  have hdr:HdS w v1 v2 v3 v4 W.drew:=HS0.out.low ((Below.refl _ _).drew)
  have HUP:=Lib.hid (fun (W2:World) (hb:HdS w v1 v2 v3 v4 W2)=>up_any l vl t W2 hl (HLV.out.later hb.b) HP.out)
  have HHA:=Lib.hid (fun (W2:World) (c:Array Value) (ho:OnI (onV (l.take (upN l t))) c) (hb:HdS w v1 v2 v3 v4 W2)=>hand31_any v1 v2 v3 v4 S HC.out fp c _ ho W2 (HSP.out.later hb.b))
  clear HB B0 B1 HSP HC HLV HP
  go_region_held3 (fun w'=>HdS w v1 v2 v3 v4 w'∧w'.cell? ⟨w.heap.size,0,none⟩=some v1∧w'.cell? ⟨w.heap.size,1,none⟩=some v2∧w'.cell? ⟨w.heap.size,2,none⟩=some v3∧w'.cell? ⟨w.heap.size,3,none⟩=some v4) (first | exact hdr.all | assumption) (first | (go_at_call 55;(with_reducible refine (HUP.out _ (by first | exact And.left (by assumption) | exact hdr)).mono ?_);rintro e w2 ⟨c,rfl,hon2,hb2⟩;have hq:HdS w v1 v2 v3 v4 w2:=HdS.low (And.left (by assumption)) hb2;have hn:=hq.all;clear hb2 hq) | (go_at_call 54;(with_reducible refine (HHA.out _ _ (by assumption) (by first | exact And.left (by assumption) | exact hdr)).mono ?_);rintro e w3 ⟨vk,vs,vc,rfl,hhd,hb3⟩;have hq3:HdS w v1 v2 v3 v4 w3:=HdS.low (And.left (by assumption)) hb3;have hn3:=hq3.all;obtain ⟨⟨ak,ck,rfl⟩,⟨as',cs',rfl⟩,⟨ac,cc,rfl⟩⟩:=(hhd _ (fun _ _ _=>rfl)).forms;obtain ⟨⟨u0,r0⟩,⟨u1,r1⟩,⟨u2,r2⟩,f0,f1,f2⟩:=hq3.cells;have hn4:=(((hq3.put 0 (.slice ak S.ds.length ck)).put 1 (.slice as' (onL (onV (l.take (upN l t))) 2 S.ss.length).length cs')).put 2 (.slice ac (onL (onV (l.take (upN l t))) 3 S.cs.length).length cc)).all))
  all_goals
    (have hlt2:w.heap.size+1<w2.heap.size:=by
      obtain ⟨cs0,hb0,_⟩:=hn.1.res
      exact hb0.lt
     obtain ⟨cs3,hb3',hs3⟩:=hq3.res
     have HBL:=Lib.hid (hd_blk hb3' hs3 (.slice ak S.ds.length ck) (.slice as' (onL (onV (l.take (upN l t))) 2 S.ss.length).length cs') (.slice ac (onL (onV (l.take (upN l t))) 3 S.cs.length).length cc))
     have HN4:=Lib.hid hn4.1
     have HG:=Lib.hid (((set_grown w3 (w.heap.size+1) 0 (.slice ak S.ds.length ck)).trans (set_grown _ (w.heap.size+1) 1 (.slice as' (onL (onV (l.take (upN l t))) 2 S.ss.length).length cs'))).trans (set_grown _ (w.heap.size+1) 2 (.slice ac (onL (onV (l.take (upN l t))) 3 S.cs.length).length cc)))
     have HHD:=Lib.hid hhd
     clear hn hn3 hn4 hq3 r0 r1 r2 f0 f1 f2 s0 s1 s2 s3 hb3' hs3 hhd hdr HS0 HUP HHA
     go_wp2
     refine bodyPost_ret (v:=.agg #[.slice ak S.ds.length ck,.slice as' (onL (onV (l.take (upN l t))) 2 S.ss.length).length cs',.slice ac (onL (onV (l.take (upN l t))) 3 S.cs.length).length cc]) (results_cell_row rfl _ _ (w.heap.size+1) 70 _ (0,0) _ rfl HBL.out Tryz.underlying70 rfl (by kernel_rfl)) rfl ⟨_,_,_,rfl,fun W' ha=>HHD.out W' fun i h1 h2=>?_,HN4.out.b⟩
     rw [ha i (by omega) (Nat.lt_of_lt_of_le h2 HG.out.size)]
     exact HG.out.block i h2 (fun e=>by have:=Option.some.inj e;omega))
end Go.Proofs.YthhfmppealmblaaGreatDoor
namespace Go.Proofs.YthhfmppealmblaaGreatDoor
open Go.RowKit
theorem asc_onL (f:Th→Int) (k:Int) (n:Nat):(onL f k n).Pairwise (· < ·):=by
 unfold onL
 refine List.Pairwise.filter _ ?_
 rw [List.pairwise_map]
 exact List.pairwise_lt_range.imp fun h=>by omega
theorem asc_playedL (f:Th→Int) (d:Int):(playedL f d).Pairwise (· < ·):=by
 unfold playedL
 refine List.Pairwise.filter _ ?_
 rw [List.pairwise_map]
 exact List.pairwise_lt_range.imp fun h=>by omega
theorem len_playedL (f:Th→Int) (d:Int):(playedL f d).length≤128:=by rw [← playN_all];exact len_playN _ _ _
theorem OnOk.range {S:Sp} {f:Th→Int} (h:OnOk S f) {d:Nat} (hd:d<S.ds.length):∀ k∈playedL f d,S.ds[d].lo≤k∧k≤S.ds[d].hi:=by
 intro k hk
 have h1:=(mem_playedL.1 hk).2.2
 have h2:=(h.key d k (by rw [h1];decide)).1
 unfold keyOk at h2
 rw [Bool.and_eq_true,Bool.and_eq_true] at h2
 have h3:=h2.1.2
 simp only at h3
 unfold keyIn at h3
 rw [Int.toNat_natCast,List.getElem?_eq_getElem hd] at h3
 simp only [decide_eq_true_iff] at h3
 exact h3
set_option maxRecDepth 100000 in
set_option maxHeartbeats 3200000 in
theorem rising_ok (l:List Int) (v:Value) (lo up bad:Int) (w:World) (hv:ARd w v 1 (l.map iC)) (ha:l.Pairwise (· < ·)) (hb:∀ x∈l,lo≤x∧x≤up) (hl:l.length≤10000) :
  Calls Tryz.prog 114 #[v,.int .i64 lo,.int .i64 up,.int .i64 bad] w fun e w'=>e = .returned (.int .i64 0)∧∃ n,w'=w.drewN n:=by
 obtain ⟨a,c,rfl⟩:=hv.intForm
 have HV:=Lib.hid hv
 have HA:=Lib.hid ha
 have HB:=Lib.hid hb
 have H0:RowKit.Hid (∃ n,w=w.drewN n):=Lib.hid ⟨0,rfl⟩
 clear hv ha hb
 go_enter Tryz.func114,Tryz.ntmps114
 go_wp2
 go_loopw [9] (fun x wr=>∃ i:Nat,i≤l.length∧x = .int .i64 i∧RowKit.Hid (∃ n,wr=w.drewN n)) (fun x _=>l.length-(intOf x).toNat)
 case atStart=>exact ⟨0,Nat.zero_le _,rfl,H0⟩
 obtain ⟨i,hi,rfl,hW⟩:=hrel
 obtain ⟨nn,hnn⟩:=hW.out
 have hbw:Below w.heap.size w wr:=by rw [hnn];exact below_drewN (Below.refl _ _) _
 have HBW:=Lib.hid hbw
 have HNN:=Lib.hid hnn
 clear hnn hbw hW
 by_cases hil:i<l.length
 ·have hi2:(i:Int)<(l.length:Int):=by omega
  obtain ⟨b,o,c',ev,hbl,q0⟩:=(HV.out.later HBW.out).intAt i hil
  cases ev
  obtain ⟨h1,h2⟩:=HB.out _ (List.getElem_mem hil)
  obtain ⟨x,hx⟩:∃ x,l[i]=x:=⟨_,rfl⟩
  rw [hx] at q0 h1 h2
  have d1:decide (x<lo)=false:=decide_eq_false (by omega)
  have d2:decide (up<x)=false:=decide_eq_false (by omega)
  have HX:=Lib.hid hx
  clear hx h1 h2
  by_cases hz:i=0
  ·have d3:decide (0<i)=false:=decide_eq_false (by omega)
   have d4:decide ((0:Int)<(i:Int))=false:=decide_eq_false (by omega)
   clear hz
   go_wp2_with fail
   go_quiet (fail)
   have HN2:RowKit.Hid (∃ n,wr.drewN nq=w.drewN n):=Lib.hid ⟨nn+nq,by rw [HNN.out];exact World.drewN_drewN _ _ _⟩
   go_wp2
   go_roundw
   case rel=>exact ⟨i+1,by omega,by go_num,HN2⟩
   case measure=>simp [intOf];omega
  ·have d3:decide (0<i)=true:=decide_eq_true (by omega)
   have d4:decide ((0:Int)<(i:Int))=true:=decide_eq_true (by omega)
   obtain ⟨b',o',c',ev,_,q1⟩:=(HV.out.later HBW.out).intAt (i-1) (by omega)
   cases ev
   obtain ⟨y,hy⟩:∃ y,l[i-1]'(by omega)=y:=⟨_,rfl⟩
   have hlt:=List.pairwise_iff_getElem.1 HA.out (i-1) i (by omega) hil (by omega)
   rw [hy] at q1 hlt
   rw [HX.out] at hlt
   have d5:decide (x≤y)=false:=decide_eq_false (by omega)
   have e1:IntKind.i64.wrap ((i:Int)-1)=(i:Int)-1:=IntWalk.i64_in _ (by omega)
   have e2:0≤(i:Int)-1:=by omega
   have e3:((i:Int)-1).toNat=i-1:=by omega
   have e4:(i:Int)-1<(l.length:Int):=by omega
   have e5:1≤(i:Int):=by omega
   clear hy hlt
   go_wp2_with fail
   go_quiet (fail)
   have HN2:RowKit.Hid (∃ n,wr.drewN nq=w.drewN n):=Lib.hid ⟨nn+nq,by rw [HNN.out];exact World.drewN_drewN _ _ _⟩
   clear e1 e2 e3 e4 e5
   go_wp2
   go_roundw
   case rel=>exact ⟨i+1,by omega,by go_num,HN2⟩
   case measure=>simp [intOf];omega
 ·have hi2:¬ (i:Int)<(l.length:Int):=by omega
  go_wp2
  go_ret
  exact ⟨rfl,_,HNN.out⟩
theorem HdRd.keyAt {W:World} {vk vs vc:Value} {S:Sp} {f:Th→Int} (h:HdRd W vk vs vc S f) {d:Nat} (hd:d<S.ds.length):∃ b o c g,vk = .slice (some ⟨b,o,none⟩) S.ds.length c∧W.cell? ⟨b,o+d,none⟩=some g∧ARd W g 1 ((playedL f d).map iC):=by
 obtain ⟨⟨g,h1,h2⟩,_⟩:=h
 obtain ⟨b,o,c,e,_,hc⟩:=h1.at d (by simpa using hd)
 refine ⟨b,o,c,g d,by simpa using e,?_,h2 d hd⟩
 have:=hc 0 (g d) (by simp)
 simpa using this
set_option maxRecDepth 100000 in
set_option maxHeartbeats 6400000 in
theorem check12_ok (v1 v2 v3 v4:Value) (S:Sp) (ok:SpOk S) (hc:(checkP S).2=0) (fp:Nat→Value) (vk vs vc:Value) (f:Th→Int) (hf:OnOk S f) (w:World) (hsp:SpRd w v1 v2 v3 v4 fp S) (hh:HdRd w vk vs vc S f) :
  Calls Tryz.prog 83 #[.agg #[v1,v2,v3,v4],.agg #[vk,vs,vc]] w (NumR 0 w):=by
 obtain ⟨l1,_,l3,l4⟩:=sp_lens hc
 obtain ⟨⟨a1,c1,rfl⟩,_,⟨a3,c3,rfl⟩,⟨a4,c4,rfl⟩⟩:=hsp.forms
 obtain ⟨⟨ak,ck,rfl⟩,⟨as',cs',rfl⟩,⟨ac,cc,rfl⟩⟩:=hh.forms
 have HSP:=Lib.hid hsp
 have HOK:=Lib.hid ok
 have HF:=Lib.hid hf
 have HH:=Lib.hid hh
 have hcv:ckV (checkP S) = .tuple #[.agg #[.int .i64 (checkP S).1.1,.int .i64 (checkP S).1.2.1,.int .i64 (checkP S).1.2.2],.int .i64 0]:=by unfold ckV;rw [hc]
 obtain ⟨fl,hfl⟩:∃ fl,(checkP S).1=fl:=⟨_,rfl⟩
 rw [hfl] at hcv
 have HCV:=Lib.hid hcv
 have b0:=(Blk.new w 27 #[.slice a1 S.ds.length c1,v2,.slice a3 S.ss.length c3,.slice a4 S.cs.length c4]).alloc (.cells #[.slice ak S.ds.length ck,.slice as' (onL f 2 S.ss.length).length cs',.slice ac (onL f 3 S.cs.length).length cc] 70)
 have b1:=Blk.new (w.alloc (.cells #[.slice a1 S.ds.length c1,v2,.slice a3 S.ss.length c3,.slice a4 S.cs.length c4] 27)) 70 #[.slice ak S.ds.length ck,.slice as' (onL f 2 S.ss.length).length cs',.slice ac (onL f 3 S.cs.length).length cc]
 rw [World.size_alloc] at b1
 have B0:=Lib.hid b0
 have B1:=Lib.hid b1
 have HB:=Lib.hid (below_two w (.cells #[.slice a1 S.ds.length c1,v2,.slice a3 S.ss.length c3,.slice a4 S.cs.length c4] 27) (.cells #[.slice ak S.ds.length ck,.slice as' (onL f 2 S.ss.length).length cs',.slice ac (onL f 3 S.cs.length).length cc] 70))
 clear hsp ok hf hh hcv hfl hc b0 b1
 go_enter Tryz.func83,Tryz.ntmps83
 go_wp2_with fail
 generalize (w.alloc (.cells #[.slice a1 S.ds.length c1,v2,.slice a3 S.ss.length c3,.slice a4 S.cs.length c4] 27)).alloc (.cells #[.slice ak S.ds.length ck,.slice as' (onL f 2 S.ss.length).length cs',.slice ac (onL f 3 S.cs.length).length cc] 70)=W at *
 refine (rcheck_any _ _ _ _ S HOK.out _ fp (HSP.out.later HB.out)).mono ?_
 rw [HCV.out]
 rintro e W1 ⟨rfl,hb1⟩
 obtain ⟨W2,hw2⟩:∃ W2,W1.alloc (.cells #[.int .i64 fl.1,.int .i64 fl.2.1,.int .i64 fl.2.2] 100)=W2:=⟨_,rfl⟩
 have hb2:Below W1.heap.size W1 W2:=by rw [← hw2];exact (Below.refl _ _).alloc (Nat.le_refl _) _
 have HB2:=Lib.hid (below_step (below_step HB.out hb1) hb2)
 have C0:=Lib.hid ((B0.out.below hb1).below hb2)
 have C1:=Lib.hid ((B1.out.below hb1).below hb2)
 clear hb1 hb2 HB B0 B1
 obtain ⟨s0,s1,s2,s3⟩:=C0.out.four
 have h0:W2.cell? ⟨w.heap.size+1,0,none⟩=some (.slice ak S.ds.length ck):=C1.out.cell 0
 have hrefl:RowKit.Hid (Below W2.heap.size W2 W2):=Lib.hid (Below.refl _ _)
 go_wp2
 go_loopw [7] (fun x wr=>∃ i:Nat,i≤S.ds.length∧x = .int .i64 i∧RowKit.Hid (Below W2.heap.size W2 wr)) (fun x _=>S.ds.length-(intOf x).toNat)
 case atStart=>exact ⟨0,Nat.zero_le _,rfl,hrefl⟩
 clear s0 s1 s2 s3 h0 hrefl hw2
 obtain ⟨i,hi,rfl,hW⟩:=hrel
 have HBW:=Lib.hid (below_step HB2.out hW.out)
 obtain ⟨s0,s1,s2,s3⟩:=(C0.out.below hW.out).four
 have hC1:=C1.out.below hW.out
 have h0:wr.cell? ⟨w.heap.size+1,0,none⟩=some (.slice ak S.ds.length ck):=hC1.cell 0
 have h1:wr.cell? ⟨w.heap.size+1,1,none⟩=some (.slice as' (onL f 2 S.ss.length).length cs'):=hC1.cell 1
 have h2:wr.cell? ⟨w.heap.size+1,2,none⟩=some (.slice ac (onL f 3 S.cs.length).length cc):=hC1.cell 2
 clear hC1
 by_cases hil:i<S.ds.length
 ·have hi2:(i:Int)<(S.ds.length:Int):=by omega
  obtain ⟨b,o,c,ev,hbl,r0,r1,r2⟩:=(HSP.out.later HBW.out).dAt i hil
  cases ev
  obtain ⟨b',o',c',g,ev,g0,hg⟩:=(HH.out.later HBW.out).keyAt hil
  cases ev
  obtain ⟨av,cv,rfl⟩:=hg.intForm
  have HR:=Lib.hid (fun (nn:Nat)=>rising_ok (playedL f i) _ S.ds[i].lo S.ds[i].hi 7 (wr.drewN nn) (hg.later (below_drewN (Below.refl _ _) nn)) (asc_playedL f i) (HF.out.range hil) (Nat.le_trans (len_playedL f i) (by decide)))
  obtain ⟨lo,hlo⟩:∃ lo,lo=S.ds[i].lo:=⟨_,rfl⟩
  obtain ⟨up,hup⟩:∃ up,up=S.ds[i].hi:=⟨_,rfl⟩
  rw [← hlo] at r1 HR
  rw [← hup] at r2 HR
  clear hlo hup hg
  go_wp2_with fail
  go_quiet ((go_at_call 114;exact Calls.quiet_of (HR.out _)))
  have HB3:=Lib.hid (below_drewN hW.out nq)
  go_wp2
  go_roundw
  case rel=>exact ⟨i+1,by omega,by go_num,HB3⟩
  case measure=>simp [intOf];omega
 ·have hi2:¬ (i:Int)<(S.ds.length:Int):=by omega
  have hl2:=len_onL f 2 S.ss.length
  have hl3:=len_onL f 3 S.cs.length
  have HRS:=Lib.hid (fun (W3:World) (hb:Below W2.heap.size W2 W3)=>rising_ok (onL f 2 S.ss.length) _ 0 ((S.ss.length:Int)-1) 4 W3 ((HH.out.later (below_step HB2.out hb)).stops) (asc_onL f 2 _) (fun x hx=>by have:=mem_onL.1 hx;omega) (by omega))
  have HRC:=Lib.hid (fun (W3:World) (hb:Below W2.heap.size W2 W3)=>rising_ok (onL f 3 S.cs.length) _ 0 ((S.cs.length:Int)-1) 4 W3 ((HH.out.later (below_step HB2.out hb)).cous) (asc_onL f 3 _) (fun x hx=>by have:=mem_onL.1 hx;omega) (by omega))
  have e1:IntKind.i64.wrap ((S.ss.length:Int)-1)=(S.ss.length:Int)-1:=IntWalk.i64_in _ (by omega)
  have e2:IntKind.i64.wrap ((S.cs.length:Int)-1)=(S.cs.length:Int)-1:=IntWalk.i64_in _ (by omega)
  clear hl2 hl3
  go_wp2_with fail
  refine (HRS.out wr hW.out).mono ?_
  rintro e W3 ⟨rfl,n3,rfl⟩
  have hb3:=below_drewN hW.out n3
  have HB3:=Lib.hid (below_step HB2.out hb3)
  go_wp2_with fail
  refine (HRC.out _ hb3).mono ?_
  rintro e W4 ⟨rfl,n4,rfl⟩
  have HB4:=Lib.hid (below_drewN HB3.out n4)
  go_wp2
  go_ret
  exact numR rfl (by have:=HB4.out;rwa [World.drewN_drewN] at this)
end Go.Proofs.YthhfmppealmblaaGreatDoor
namespace Go.Proofs.YthhfmppealmblaaGreatDoor
open Go.RowKit
theorem append_int (W:World) (base:Nat) (V:Value) (xs:List Int) (hown:W.ownsRow base 3 1 V xs.length (iCs xs)) (v:Value) (l:List Int) (hv:ARd W v 1 (l.map iC)) (hl:xs.length+l.length≤1000000000) (hb:base≤W.heap.size) :
  ∃ V' w',(Builtin.append_ #[68,68] 68 #[V,v]).run Tryz.prog W = .ok V' w'∧w'.ownsRow base 3 1 V' (xs++l).length (iCs (xs++l))∧W.grownBy w' V.ownBlock:=by
 obtain ⟨i0,hi,hz0,hz1,hz2⟩:=info_parts int64_info
 obtain ⟨V',w',h1,h2,h3⟩:=append_src W base 68 3 i0 _ 1 8 Tryz.underlying68 hi hz0 hz1 hz2 rfl (by omega) (by omega) V xs.length (iCs xs) hown v (l.map iC) (by intro r hr;obtain ⟨p,_,rfl⟩:=List.mem_map.1 hr;rfl) (by rw [← iCs_flat];intro u hu;obtain ⟨p,_,rfl⟩:=List.mem_map.1 hu;rfl) hv (by simpa using hl) hb
 refine ⟨V',w',h1,?_,h3⟩
 rw [List.length_map,← iCs_flat] at h2
 rw [List.length_append]
 unfold iCs at h2 ⊢
 rw [List.map_append]
 exact h2
theorem ard_one (w:World) (x:Int):ARd (w.alloc (.cells #[.int .i64 x] 3)) (.slice (some ⟨w.heap.size,0,none⟩) 1 1) 1 ([x].map iC):=⟨_,1,rfl,fun i hi=>⟨w.heap.size,0,rfl,by simp,fun j u hj=>by
 have hi0:i=0:=by simpa using hi
 subst hi0
 have hj0:j=0:=by
  have:=(List.getElem?_eq_some_iff.1 hj).1
  simp [iC] at this
  exact this
 subst hj0
 have e:u = .int .i64 x:=by simpa [iC] using hj.symm
 rw [e]
 exact (Blk.new w 3 #[.int .i64 x]).cell 0⟩⟩
def IsR (l:List Int) (w:World) (e:Ending) (w':World):Prop:=∃ v,e = .returned v∧w'.ownsRow w.heap.size 3 1 v l.length (iCs l)∧Below w.heap.size w w'
set_option maxRecDepth 100000 in
set_option maxHeartbeats 3200000 in
theorem with_any (l:List Int) (v:Value) (n:Int) (w:World) (hv:ARd w v 1 (l.map iC)) (hl:l.length≤100000) :
  Calls Tryz.prog 118 #[v,.int .i64 n] w (IsR (l++[n]) w):=by
 have hb0:Below w.heap.size w (w.alloc (.cells #[] 3)):=(Below.refl _ _).alloc (Nat.le_refl _) _
 obtain ⟨V1,w1,hr1,o1,g1⟩:=append_int _ w.heap.size _ [] (row_empty w _) v l (hv.later hb0) (by simp;omega) hb0.size
 rw [List.nil_append] at o1
 have hb1:Below w.heap.size w w1:=hb0.grown g1 hb0.size (fun j e=>by simp [Value.ownBlock] at e;omega)
 have hb2:Below w.heap.size w (w1.alloc (.cells #[.int .i64 n] 3)):=hb1.alloc hb1.size _
 have o1':=row_later o1 ((Below.refl _ w1).alloc (Nat.le_refl _) (.cells #[.int .i64 n] 3))
 obtain ⟨V2,w2,hr2,o2,g2⟩:=append_int _ w.heap.size _ l o1' _ [n] (ard_one w1 n) (by simp;omega) hb2.size
 have HO:=Lib.hid o2
 have HB:=Lib.hid (hb2.grown g2 hb2.size (fun j e=>row_ge o1' e))
 clear hb0 o1 g1 hb1 hb2 o1' o2 g2
 go_enter Tryz.func118,Tryz.ntmps118
 go_wp2_with (first | (at_builtin;refine Lib.wpList_append_run _ rfl _ _ _ _ rfl _ _ rfl rfl _ _ hr1 ?_) | (at_builtin;refine Lib.wpList_append_run _ rfl _ _ _ _ rfl _ _ rfl rfl _ _ hr2 ?_))
 go_ret
 exact ⟨_,rfl,HO.out,HB.out⟩
set_option maxRecDepth 100000 in
set_option maxHeartbeats 3200000 in
theorem less_any (l m:List Int) (v u:Value) (w:World) (hv:ARd w v 1 (l.map iC)) (hu:ARd w u 1 (m.map iC)) (hl:l.length≤100000) :
  Calls Tryz.prog 156 #[v,u] w fun e w'=>(∃ b:Bool,e = .returned (.bool b))∧Below w.heap.size w w':=by
 obtain ⟨a,c,rfl⟩:=hv.intForm
 obtain ⟨a2,c2,rfl⟩:=hu.intForm
 have HV:=Lib.hid hv
 have HU:=Lib.hid hu
 have H0:=Lib.hid (Below.refl w.heap.size w)
 clear hv hu
 go_enter Tryz.func156,Tryz.ntmps156
 go_wp2
 go_loopw [5] (fun x wr=>∃ i:Nat,i≤l.length∧x = .int .i64 i∧RowKit.Hid (Below w.heap.size w wr)) (fun x _=>l.length-(intOf x).toNat)
 case atStart=>exact ⟨0,Nat.zero_le _,rfl,H0⟩
 clear H0
 obtain ⟨i,hi,rfl,hW⟩:=hrel
 by_cases hil:i<l.length
 ·have hi2:(i:Int)<(l.length:Int):=by omega
  have d1:decide (i<l.length)=true:=decide_eq_true hil
  by_cases him:i<m.length
  ·have him2:(i:Int)<(m.length:Int):=by omega
   have d2:decide (i<m.length)=true:=decide_eq_true him
   obtain ⟨b,o,c',ev,_,q0⟩:=(HV.out.later hW.out).intAt i hil
   cases ev
   obtain ⟨b2,o2,c',ev,_,q1⟩:=(HU.out.later hW.out).intAt i him
   cases ev
   obtain ⟨x,hx⟩:∃ x,l[i]=x:=⟨_,rfl⟩
   obtain ⟨y,hy⟩:∃ y,m[i]=y:=⟨_,rfl⟩
   rw [hx] at q0
   rw [hy] at q1
   clear hx hy
   by_cases hxy:x=y
   ·have hq:(x==y)=true:=by rw [beq_iff_eq];exact hxy
    clear hxy
    go_wp2_with fail
    go_quiet (fail)
    have HB:=Lib.hid (below_drewN hW.out nq)
    go_wp2
    go_roundw
    case rel=>exact ⟨i+1,by omega,by go_num,HB⟩
    case measure=>simp [intOf];omega
   ·have hq:(x==y)=false:=by rw [beq_eq_false_iff_ne];exact hxy
    clear hxy
    go_wp2_with fail
    go_quiet (fail)
    obtain ⟨W3,hW3⟩:∃ W3,wr.drewN nq=W3:=⟨_,rfl⟩
    have hb3:Below wr.heap.size wr W3:=by rw [← hW3];exact below_drewN (Below.refl _ _) _
    have HB:=Lib.hid (below_step hW.out hb3)
    rw [hW3]
    replace q0:=(hb3.cell (cell_size q0)).trans q0
    replace q1:=(hb3.cell (cell_size q1)).trans q1
    clear hW3 hb3
    go_wp2_with fail
    go_quiet (fail)
    have HB2:=Lib.hid (below_drewN HB.out nq)
    go_wp2
    go_ret
    exact ⟨⟨_,rfl⟩,HB2.out⟩
  ·have d2:decide (i<m.length)=false:=decide_eq_false him
   clear him
   go_wp2
   go_ret
   exact ⟨⟨_,rfl⟩,hW.out⟩
 ·have d1:decide (i<l.length)=false:=decide_eq_false hil
  clear hil
  go_wp2
  go_ret
  exact ⟨⟨_,rfl⟩,hW.out⟩
def firstB (only:Int) (n i:Nat):Bool:=decide (only=0) || (decide (only=1) && decide (i=0)) || (decide (only=2) && decide (i+1=n))
set_option maxRecDepth 100000 in
set_option maxHeartbeats 3200000 in
theorem first_any (nm:ByteArray) (fr to' sh only:Int) (thr:Bool) (a:Option Addr) (n c i:Nat) (hn:n≤100000) (w:World) :
  Calls Tryz.prog 116 #[.agg #[.string nm,.int .i64 fr,.int .i64 to',.int .i64 sh,.int .i64 only,.bool thr],.slice a n c,.int .i64 i] w (BoolR (firstB only n i) w):=by
 have HB:=Lib.hid (show Below w.heap.size w (w.alloc (.cells #[.string nm,.int .i64 fr,.int .i64 to',.int .i64 sh,.int .i64 only,.bool thr] 153)) from (Below.refl _ _).alloc (Nat.le_refl _) _)
 have e1:IntKind.i64.wrap ((n:Int)-1)=(n:Int)-1:=IntWalk.i64_in _ (by omega)
 by_cases h0:only=0
 ·have HQ:=Lib.hid (show firstB only n i=true by unfold firstB;rw [decide_eq_true h0];rfl)
  have q0:(only==0)=true:=by rw [beq_iff_eq];exact h0
  clear h0
  go_enter Tryz.func116,Tryz.ntmps116
  go_wp2
  go_ret
  exact boolR HQ.out HB.out
 have q0:(only==0)=false:=by rw [beq_eq_false_iff_ne];exact h0
 by_cases h1:only=1
 ·subst h1
  have HQ:=Lib.hid (show firstB 1 n i=decide (i=0) by unfold firstB;simp)
  by_cases hz:i=0
  ·have q1:((i:Int)==0)=true:=by rw [beq_iff_eq];omega
   have HZ:=Lib.hid (HQ.out.trans (decide_eq_true hz))
   clear hz
   go_enter Tryz.func116,Tryz.ntmps116
   go_wp2
   go_ret
   exact boolR HZ.out HB.out
  ·have q1:((i:Int)==0)=false:=by rw [beq_eq_false_iff_ne];omega
   have q2:(i==0)=false:=by rw [beq_eq_false_iff_ne];exact hz
   have HZ:=Lib.hid (HQ.out.trans (decide_eq_false hz))
   clear hz
   go_enter Tryz.func116,Tryz.ntmps116
   go_wp2
   go_ret
   exact boolR HZ.out HB.out
 have q1:(only==1)=false:=by rw [beq_eq_false_iff_ne];exact h1
 by_cases h2:only=2
 ·subst h2
  have HQ:=Lib.hid (show firstB 2 n i=decide (i+1=n) by unfold firstB;simp)
  by_cases hz:i+1=n
  ·have q2:((i:Int)==(n:Int)-1)=true:=by rw [beq_iff_eq];omega
   have HZ:=Lib.hid (HQ.out.trans (decide_eq_true hz))
   clear hz
   go_enter Tryz.func116,Tryz.ntmps116
   go_wp2
   go_ret
   exact boolR HZ.out HB.out
  ·have q2:((i:Int)==(n:Int)-1)=false:=by rw [beq_eq_false_iff_ne];omega
   have HZ:=Lib.hid (HQ.out.trans (decide_eq_false hz))
   clear hz
   go_enter Tryz.func116,Tryz.ntmps116
   go_wp2
   go_ret
   exact boolR HZ.out HB.out
 ·have q2:(only==2)=false:=by rw [beq_eq_false_iff_ne];exact h2
  have HQ:=Lib.hid (show firstB only n i=false by unfold firstB;simp [h0,h1,h2])
  clear h0 h1 h2
  go_enter Tryz.func116,Tryz.ntmps116
  go_wp2
  go_ret
  exact boolR HQ.out HB.out
end Go.Proofs.YthhfmppealmblaaGreatDoor
namespace Go.Proofs.YthhfmppealmblaaGreatDoor
abbrev Gr:=Pl→Option Nat
def addG (S:Sp) (G:Gr) (p:Pl) (n:Nat):Gr:=fun q=>if q=p∧keyOk S p=true∧G p=none then some n else G q
theorem addG_le {S:Sp} {G:Gr} {p q:Pl} {n j:Nat} (h:G q=some j):addG S G p n q=some j:=by
 unfold addG
 rw [if_neg,h]
 rintro ⟨rfl,_,h2⟩
 rw [h] at h2;cases h2
theorem addG_new {S:Sp} {G:Gr} {p q:Pl} {n j:Nat} (h:addG S G p n q=some j):G q=some j∨(G q=none∧q=p∧keyOk S p=true∧j=n):=by
 unfold addG at h
 split at h
 ·rename_i c
  obtain ⟨rfl,c2,c3⟩:=c
  exact .inr ⟨c3,rfl,c2,by cases h;rfl⟩
 ·exact .inl h
theorem addG_at {S:Sp} {G:Gr} {p:Pl} {n:Nat} (h:keyOk S p=true):addG S G p n p≠none:=by
 unfold addG
 cases e:G p with
 | none=>rw [if_pos ⟨rfl,h,rfl⟩];simp
 | some j=>rw [if_neg (fun c=>by cases c.2.2)];simp
theorem addG_same {S:Sp} {G:Gr} {p:Pl} {n j:Nat} (h:G p=some j):addG S G p n=G:=by
 funext q
 unfold addG
 rw [if_neg]
 rintro ⟨_,_,h2⟩
 rw [h] at h2;cases h2
theorem addG_out {S:Sp} {G:Gr} {p:Pl} {n:Nat} (h:keyOk S p=false):addG S G p n=G:=by
 funext q
 unfold addG
 rw [if_neg]
 rintro ⟨_,h2,_⟩
 rw [h] at h2;cases h2
def GLe (G G':Gr):Prop:=∀ q j,G q=some j→G' q=some j
theorem GLe.refl (G:Gr):GLe G G:=fun _ _ h=>h
theorem GLe.add {S:Sp} {A G:Gr} {p:Pl} {n:Nat} (h:GLe A G):GLe A (addG S G p n):=fun q j e=>addG_le (h q j e)
theorem GLe.some {G G':Gr} (h:GLe G G') {q:Pl} (hq:G q≠none):G' q≠none:=by
 cases e:G q with
 | none=>exact absurd e hq
 | some j=>rw [h q j e];simp
structure ChI (S:Sp) (f:Th→Int) (n:Nat) (G:Gr):Prop where
 ok:∀ q j,G q=some j→keyOk S q=true
 act:∀ q j,G q=some j→Acts S f q
 le:∀ q j,G q=some j→j≤n
 zero:∀ q,G q=some 0→q.2∈playedL f q.1
 closed:∀ q j,G q=some j→0<j→j<n→∀ i,i<S.cs.length→thrB S f q i=true→keyOk S (thrTo S q i)=true→G (thrTo S q i)≠none
def posP (k:Nat):Pl:=(((k / 128:Nat):Int),((k % 128:Nat):Int))
def fieldP:List Pl:=(List.range 768).map posP
theorem mem_fieldP {S:Sp} (hd:S.ds.length≤6) (hdv:∀ d∈S.ds,dvE d=0) {q:Pl} (h:keyOk S q=true):q∈fieldP:=by
 have:=keyOk_lt hd hdv h
 obtain ⟨d,k⟩:=q
 simp only at this
 unfold fieldP
 rw [List.mem_map]
 refine ⟨(d * 128+k).toNat,List.mem_range.2 (by omega),?_⟩
 unfold posP
 exact Prod.ext (by simp only;omega) (by simp only;omega)
def muB (G:Gr) (n:Nat) (q:Pl):Bool:=match G q with
 | none=>true
 | some j=>decide (n≤j)
def muG (G:Gr) (n:Nat):Nat:=(fieldP.filter (muB G n)).length
theorem filter_lt {α:Type} {P Q:α→Bool}:∀ {l:List α},(∀ x∈l,Q x=true→P x=true)→(∃ x∈l,P x=true∧Q x=false)→(l.filter Q).length<(l.filter P).length
 | [],_,⟨x,hx,_⟩=>by cases hx
 | a :: l,h,⟨x,hx,hp,hq⟩=>by
  have hle:∀ {m:List α},(∀ x∈m,Q x=true→P x=true)→(m.filter Q).length≤(m.filter P).length:=by
   intro m
   induction m with
   | nil=>intro _;exact Nat.le_refl _
   | cons b m ih =>
    intro hm
    have h1:=ih fun y hy=>hm y (List.mem_cons_of_mem _ hy)
    have h2:=hm b (by simp)
    cases eq:Q b with
    | true=>rw [List.filter_cons_of_pos eq,List.filter_cons_of_pos (h2 eq),List.length_cons,List.length_cons];omega
    | false =>
     rw [List.filter_cons_of_neg (by simp [eq])]
     cases ep:P b with
     | true=>rw [List.filter_cons_of_pos ep,List.length_cons];omega
     | false=>rw [List.filter_cons_of_neg (by simp [ep])];exact h1
  have ht:∀ y∈l,Q y=true→P y=true:=fun y hy=>h y (List.mem_cons_of_mem _ hy)
  rcases List.mem_cons.1 hx with rfl | hx
  ·rw [List.filter_cons_of_pos hp,List.filter_cons_of_neg (by simp [hq]),List.length_cons]
   have:=hle ht
   omega
  ·have ih:=filter_lt ht ⟨x,hx,hp,hq⟩
   cases eq:Q a with
   | true=>rw [List.filter_cons_of_pos eq,List.filter_cons_of_pos (h a (by simp) eq),List.length_cons,List.length_cons];omega
   | false =>
    rw [List.filter_cons_of_neg (by simp [eq])]
    cases ep:P a with
    | true=>rw [List.filter_cons_of_pos ep,List.length_cons];omega
    | false=>rw [List.filter_cons_of_neg (by simp [ep])];exact ih
theorem muG_lt {S:Sp} (hd:S.ds.length≤6) (hdv:∀ d∈S.ds,dvE d=0) {G G':Gr} {n:Nat} (hle:GLe G G') {q:Pl} (hq:G q=some n) (hok:keyOk S q=true):muG G' (n+1)<muG G n:=by
 unfold muG
 refine filter_lt (fun x _ hx=>?_) ⟨q,mem_fieldP hd hdv hok,?_,?_⟩
 ·unfold muB at hx ⊢
  cases e:G x with
  | none=>rfl
  | some j =>
   rw [hle x j e] at hx
   simp only [decide_eq_true_iff] at hx ⊢
   omega
 ·unfold muB;rw [hq];simp
 ·unfold muB;rw [hle q n hq];simp
structure ChR (S:Sp) (f:Th→Int) (n:Nat) (G0:Gr) (k:Nat) (more:Bool) (G:Gr):Prop where
 ok:∀ q j,G q=some j→keyOk S q=true
 act:∀ q j,G q=some j→Acts S f q
 le:∀ q j,G q=some j→j≤n+1
 zero:∀ q,G q=some 0→q.2∈playedL f q.1
 closed:∀ q j,G q=some j→0<j→j<n→∀ i,i<S.cs.length→thrB S f q i=true→keyOk S (thrTo S q i)=true→G (thrTo S q i)≠none
 since:GLe G0 G
 old:∀ q,G q=some n→G0 q=some n
 no:∀ q,G q=some (n+1)→more=true
 yes:more=true→∃ q,G q=some n
 done:∀ m,m<k→G (posP m)=some n→more=true∧∀ i,i<S.cs.length→thrB S f (posP m) i=true→keyOk S (thrTo S (posP m) i)=true→G (thrTo S (posP m) i)≠none
theorem ChI.start {S:Sp} {f:Th→Int} {n:Nat} {G:Gr} (h:ChI S f n G):ChR S f n G 0 false G :=
 ⟨h.ok,h.act,fun q j e=>Nat.le_succ_of_le (h.le q j e),h.zero,h.closed,GLe.refl G,fun _ e=>e,fun q e=>by have:=h.le q _ e;omega,fun e=>(by cases e),fun m hm=>absurd hm (Nat.not_lt_zero m)⟩
theorem ChR.skip {S:Sp} {f:Th→Int} {n k:Nat} {G0 G:Gr} {more:Bool} (h:ChR S f n G0 k more G) (hk:G (posP k)≠some n):ChR S f n G0 (k+1) more G :=
 ⟨h.ok,h.act,h.le,h.zero,h.closed,h.since,h.old,h.no,h.yes,fun m hm e=>by
  by_cases q:m=k
  ·subst q;exact absurd e hk
  ·exact h.done m (by omega) e⟩
structure ChK (S:Sp) (f:Th→Int) (n:Nat) (G0:Gr) (k:Nat) (i:Nat) (G:Gr):Prop where
 r:ChR S f n G0 k true G
 here:G (posP k)=some n
 suc:∀ c,c<i→c<S.cs.length→thrB S f (posP k) c=true→keyOk S (thrTo S (posP k) c)=true→G (thrTo S (posP k) c)≠none
theorem ChR.take {S:Sp} {f:Th→Int} {n k:Nat} {G0 G:Gr} {more:Bool} (h:ChR S f n G0 k more G) (hk:G (posP k)=some n):ChK S f n G0 k 0 G :=
 ⟨⟨h.ok,h.act,h.le,h.zero,h.closed,h.since,h.old,fun _ _=>rfl,fun _=>⟨_,hk⟩,fun m hm e=>⟨rfl,(h.done m hm e).2⟩⟩,hk,fun c hc=>absurd hc (Nat.not_lt_zero c)⟩
theorem ChK.skip {S:Sp} {f:Th→Int} {n k i:Nat} {G0 G:Gr} (h:ChK S f n G0 k i G) (hn:thrB S f (posP k) i=false):ChK S f n G0 k (i+1) G :=
 ⟨h.r,h.here,fun c hc hl ht=>by
  by_cases e:c=i
  ·subst e;rw [hn] at ht;cases ht
  ·exact h.suc c (by omega) hl ht⟩
theorem ChR.all {S:Sp} {f:Th→Int} {n:Nat} {G0 G:Gr} {more:Bool} (hd:S.ds.length≤6) (hdv:∀ d∈S.ds,dvE d=0) (h:ChR S f n G0 (S.ds.length * 128) more G) {q:Pl} (hq:G q=some n):more=true∧∀ i,i<S.cs.length→thrB S f q i=true→keyOk S (thrTo S q i)=true→G (thrTo S q i)≠none:=by
 have hok:=keyOk_lt hd hdv (h.ok q n hq)
 obtain ⟨d,k⟩:=q
 simp only at hok
 have e:posP (d * 128+k).toNat=(d,k):=by unfold posP;exact Prod.ext (by simp only;omega) (by simp only;omega)
 have:=h.done (d * 128+k).toNat (by omega) (by rw [e];exact hq)
 rw [e] at this
 exact this
theorem ChR.next {S:Sp} {f:Th→Int} {n:Nat} {G0 G:Gr} {more:Bool} (hd:S.ds.length≤6) (hdv:∀ d∈S.ds,dvE d=0) (h:ChR S f n G0 (S.ds.length * 128) more G):ChI S f (n+1) G :=
 ⟨h.ok,h.act,h.le,h.zero,fun q j e h0 hj=>by
  by_cases q2:j=n
  ·subst q2;exact (h.all hd hdv e).2
  ·exact h.closed q j e h0 (by omega)⟩
theorem ChR.fewer {S:Sp} {f:Th→Int} {n:Nat} {G0 G:Gr} {k:Nat} (hd:S.ds.length≤6) (hdv:∀ d∈S.ds,dvE d=0) (h:ChR S f n G0 k true G):muG G (n+1)<muG G0 n:=by
 obtain ⟨q,hq⟩:=h.yes rfl
 exact muG_lt hd hdv h.since (h.old q hq) (h.ok q n hq)
structure ChH (S:Sp) (f:Th→Int) (G:Gr):Prop where
 key:∀ d k,0≤d∧d<(S.ds.length:Int)→k∈playedL f d→G (d,k)≠none
 cou:∀ i (hi:i<S.cs.length),f (3,0,(i:Int))=1→∀ k∈takes S.cs[i].only (playedL f S.cs[i].frm),keyOk S (S.cs[i].to,k+S.cs[i].shift)=true→G (S.cs[i].to,k+S.cs[i].shift)≠none
theorem ChH.le {S:Sp} {f:Th→Int} {G G':Gr} (h:ChH S f G) (hl:GLe G G'):ChH S f G':=⟨fun d k h1 h2=>hl.some (h.key d k h1 h2),fun i hi h1 k h2 h3=>hl.some (h.cou i hi h1 k h2 h3)⟩
theorem chains_all {S:Sp} {f:Th→Int} {n:Nat} {G0 G:Gr} (hd:S.ds.length≤6) (hdv:∀ d∈S.ds,dvE d=0) (hc:∀ c∈S.cs,c.thr=true→c.only=0) (hn:0<n) (h:ChR S f n G0 (S.ds.length * 128) false G) (hh:ChH S f G) (q:Pl):G q≠none ↔ Acts S f q:=by
 constructor
 ·intro hq
  cases e:G q with
  | none=>exact absurd e hq
  | some j=>exact h.act q j e
 ·refine act_in (Q:=fun q=>G q≠none) hh.key hh.cou ?_ q
  intro i hi hon ht k hk ok
  cases e:G (S.cs[i].frm,k) with
  | none=>exact absurd e hk
  | some j =>
   have et:thrTo S (S.cs[i].frm,k) i=(S.cs[i].to,k+S.cs[i].shift):=by unfold thrTo;rw [List.getElem?_eq_getElem hi]
   by_cases h0:j=0
   ·subst h0
    have hz:=h.zero _ e
    simp only at hz
    refine hh.cou i hi hon k ?_ ok
    unfold takes
    rw [hc _ (List.getElem_mem hi) ht,if_neg (by decide),if_neg (by decide)]
    exact hz
   ·have hjn:j<n:=by
     have h1:=h.le _ _ e
     have h2:j≠n:=fun q2=>by subst q2;have:=(h.all hd hdv e).1;cases this
     have h3:j≠n+1:=fun q2=>by subst q2;have:=h.no _ e;cases this
     omega
    rw [← et]
    refine h.closed _ j e (by omega) hjn i hi ?_ (by rw [et];exact ok)
    unfold thrB
    rw [List.getElem?_eq_getElem hi]
    simp only [Bool.and_eq_true,decide_eq_true_iff]
    exact ⟨⟨hon,ht⟩,trivial⟩
end Go.Proofs.YthhfmppealmblaaGreatDoor
namespace Go.Proofs.YthhfmppealmblaaGreatDoor
open Go.RowKit
structure LsI (W:World) (v:Value) (j:Nat):Prop where
 ex:∃ l:List Int,l.length=j∧ARd W v 1 (l.map iC)
 at':v = .slice none 0 0∨∃ g o n c cs,v = .slice (some ⟨g,o,none⟩) n c∧Blk W g 3 cs
theorem LsI.nil (W:World):LsI W (.slice none 0 0) 0:=⟨⟨[],rfl,ARd.empty W 1⟩,.inl rfl⟩
theorem LsI.low {W W':World} {v:Value} {j:Nat} (h:LsI W v j) (hb:Below W.heap.size W W'):LsI W' v j:=by
 obtain ⟨⟨l,h1,h2⟩,h3⟩:=h
 refine ⟨⟨l,h1,h2.later hb⟩,h3.imp id ?_⟩
 rintro ⟨g,o,n,c,cs,e,hB⟩
 exact ⟨g,o,n,c,cs,e,hB.below hb⟩
theorem LsI.keep {W W':World} {v:Value} {j:Nat} (h:LsI W v j) {b:Nat} {t:TypeId} {ks:Array Value} (hk:Blk W b t ks) (ht:t≠3) (hg:W.grownBy W' (some b)):LsI W' v j:=by
 obtain ⟨⟨l,h1,h2⟩,h3⟩:=h
 rcases h3 with rfl | ⟨g,o,n,c,cs,rfl,hB⟩
 ·obtain ⟨a,c,e,_⟩:=h2
  rw [List.length_map] at e
  have this:l=[]:=by
   injection e with _ e2 _
   exact List.length_eq_zero_iff.1 e2.symm
  subst this
  exact ⟨⟨[],h1,ARd.empty W' 1⟩,.inl rfl⟩
 ·have hne:g≠b:=hB.ne hk ht.symm
  have hB':Blk W' g 3 cs:=hB.grown hg (fun e=>hne (Option.some.inj e).symm)
  obtain ⟨a,c2,e,hr⟩:=h2
  rw [List.length_map] at e
  cases e
  refine ⟨⟨l,h1,some ⟨g,o,none⟩,c,by rw [List.length_map],fun i hi=>?_⟩,.inr ⟨g,o,_,c,cs,rfl,hB'⟩⟩
  obtain ⟨b2,o2,e2,_,hc⟩:=hr i hi
  cases e2
  refine ⟨g,o,rfl,hB'.lt,fun k u hk2=>?_⟩
  have:=hc k u hk2
  rw [hB.cell] at this
  rw [hB'.cell]
  exact this
structure ChC (W:World) (cs:Array Value) (k:Nat) (g:Option Nat):Prop where
 c0:cs[4 * k]?=some (.bool g.isSome)
 c1:∃ a,cs[4 * k+1]?=some (.int .i64 a)
 c2:∃ a,cs[4 * k+2]?=some (.int .i64 a)
 c3:∃ v,cs[4 * k+3]?=some v∧LsI W v (g.getD 0)
structure GrI (base sz n LB:Nat) (rb:Nat→Nat) (G:Gr) (W:World):Prop where
 blk:∃ cs,Blk W LB 213 cs∧cs.size=sz∧∀ d,d<n→cs[d]?=some (.slice (some ⟨rb d,0,none⟩) 128 128)
 row:∀ d,d<n→∃ cs,Blk W (rb d) 212 cs∧cs.size=512∧∀ k,k<128→ChC W cs k (G ((d:Int),(k:Int)))
 inj:∀ d e,d<n→e<n→rb d=rb e→d=e
 new:base≤LB∧∀ d,d<n→base≤rb d
theorem ChC.low {W W':World} {cs:Array Value} {k:Nat} {g:Option Nat} (h:ChC W cs k g) (hb:Below W.heap.size W W'):ChC W' cs k g:=by
 obtain ⟨v,h1,h2⟩:=h.c3
 exact ⟨h.c0,h.c1,h.c2,v,h1,h2.low hb⟩
theorem GrI.low {base sz n LB:Nat} {rb:Nat→Nat} {G:Gr} {W W':World} (h:GrI base sz n LB rb G W) (hb:Below W.heap.size W W'):GrI base sz n LB rb G W':=by
 obtain ⟨⟨cs,h1,h2⟩,h3,h4,h5⟩:=h
 refine ⟨⟨cs,h1.below hb,h2⟩,fun d hd=>?_,h4,h5⟩
 obtain ⟨ks,k1,k2,k3⟩:=h3 d hd
 exact ⟨ks,k1.below hb,k2,fun k hk=>(k3 k hk).low hb⟩
theorem GrI.rowCell {base sz n LB:Nat} {rb:Nat→Nat} {G:Gr} {W:World} (h:GrI base sz n LB rb G W) {d:Nat} (hd:d<n):W.cell? ⟨LB,d,none⟩=some (.slice (some ⟨rb d,0,none⟩) 128 128):=by
 obtain ⟨⟨cs,h1,h2,h3⟩,_⟩:=h
 rw [h1.cell];exact h3 d hd
theorem GrI.at' {base sz n LB:Nat} {rb:Nat→Nat} {G:Gr} {W:World} (h:GrI base sz n LB rb G W) {d k:Nat} (hd:d<n) (hk:k<128):∃ a b v,W.cell? ⟨rb d,k * 4,none⟩=some (.bool (G ((d:Int),(k:Int))).isSome)∧W.cell? ⟨rb d,k * 4+1,none⟩=some (.int .i64 a)∧W.cell? ⟨rb d,k * 4+2,none⟩=some (.int .i64 b)∧W.cell? ⟨rb d,k * 4+3,none⟩=some v∧LsI W v ((G ((d:Int),(k:Int))).getD 0)∧(∀ i,W.frozen? ⟨rb d,i,none⟩=false):=by
 obtain ⟨cs,h1,_,h3⟩:=h.row d hd
 obtain ⟨c0,⟨a,c1⟩,⟨b,c2⟩,v,c3,hv⟩:=h3 k hk
 refine ⟨a,b,v,?_,?_,?_,?_,hv,h1.frozen⟩
 ·rw [h1.cell,Nat.mul_comm];exact c0
 ·rw [h1.cell,Nat.mul_comm];exact c1
 ·rw [h1.cell,Nat.mul_comm];exact c2
 ·rw [h1.cell,Nat.mul_comm];exact c3
def put4 (W:World) (b k:Nat) (x0 x1 x2 x3:Value):World:=(((W.setCell ⟨b,k * 4,none⟩ x0).setCell ⟨b,k * 4+1,none⟩ x1).setCell ⟨b,k * 4+2,none⟩ x2).setCell ⟨b,k * 4+3,none⟩ x3
theorem put4_grown (W:World) (b k:Nat) (x0 x1 x2 x3:Value):W.grownBy (put4 W b k x0 x1 x2 x3) (some b) :=
 (((set_grown W b _ x0).trans (set_grown _ b _ x1)).trans (set_grown _ b _ x2)).trans (set_grown _ b _ x3)
theorem put4_blk {W:World} {b:Nat} {t:TypeId} {cs:Array Value} (h:Blk W b t cs) (k:Nat) (x0 x1 x2 x3:Value):Blk (put4 W b k x0 x1 x2 x3) b t ((((cs.setIfInBounds (k * 4) x0).setIfInBounds (k * 4+1) x1).setIfInBounds (k * 4+2) x2).setIfInBounds (k * 4+3) x3):=(((h.set _ x0).set _ x1).set _ x2).set _ x3
theorem get4 {cs:Array Value} {k:Nat} (hs:4 * k+3<cs.size) (x0 x1 x2 x3:Value) (j:Nat):((((cs.setIfInBounds (k * 4) x0).setIfInBounds (k * 4+1) x1).setIfInBounds (k * 4+2) x2).setIfInBounds (k * 4+3) x3)[j]?=if j=4 * k then some x0 else if j=4 * k+1 then some x1 else if j=4 * k+2 then some x2 else if j=4 * k+3 then some x3 else cs[j]?:=by
 rw [Array.getElem?_setIfInBounds,Array.getElem?_setIfInBounds,Array.getElem?_setIfInBounds,Array.getElem?_setIfInBounds]
 simp only [Array.size_setIfInBounds]
 by_cases h0:j=4 * k
 ·rw [if_pos h0,if_neg (by omega),if_neg (by omega),if_neg (by omega),if_pos (by omega),if_pos (by omega)]
 ·rw [if_neg h0]
  by_cases h1:j=4 * k+1
  ·rw [if_pos h1,if_neg (by omega),if_neg (by omega),if_pos (by omega),if_pos (by omega)]
  ·rw [if_neg h1]
   by_cases h2:j=4 * k+2
   ·rw [if_pos h2,if_neg (by omega),if_pos (by omega),if_pos (by omega)]
   ·rw [if_neg h2]
    by_cases h3:j=4 * k+3
    ·rw [if_pos h3,if_pos (by omega),if_pos (by omega)]
    ·rw [if_neg h3,if_neg (by omega),if_neg (by omega),if_neg (by omega),if_neg (by omega)]
def setG (G:Gr) (p:Pl) (j:Nat):Gr:=fun q=>if q=p then some j else G q
theorem setG_add {S:Sp} {G:Gr} {p:Pl} {j:Nat} (hk:keyOk S p=true) (h:G p=none∨G p=some j):setG G p j=addG S G p j:=by
 funext q
 unfold setG addG
 by_cases e:q=p
 ·subst e
  rw [if_pos rfl]
  rcases h with h | h
  ·rw [if_pos ⟨rfl,hk,h⟩]
  ·rw [if_neg (fun z=>by rw [h] at z;cases z.2.2),h]
 ·rw [if_neg e,if_neg (fun z=>e z.1)]
theorem GrI.put {base sz n LB:Nat} {rb:Nat→Nat} {G:Gr} {W:World} (h:GrI base sz n LB rb G W) {d k:Nat} (hd:d<n) (hk:k<128) {a b:Int} {v:Value} {j:Nat} (hv:LsI W v j):GrI base sz n LB rb (setG G ((d:Int),(k:Int)) j) (put4 W (rb d) k (.bool true) (.int .i64 a) (.int .i64 b) v):=by
 obtain ⟨⟨cs,h1,h2⟩,h3,h4,h5⟩:=h
 obtain ⟨ks,k1,k2,k3⟩:=h3 d hd
 have hg:=put4_grown W (rb d) k (.bool true) (.int .i64 a) (.int .i64 b) v
 have hne:LB≠rb d:=h1.ne k1 (by decide)
 refine ⟨⟨cs,h1.grown hg (fun e=>hne (Option.some.inj e).symm),h2⟩,fun e he=>?_,h4,h5⟩
 by_cases q:e=d
 ·subst q
  refine ⟨_,put4_blk k1 k _ _ _ _,by simp only [Array.size_setIfInBounds];exact k2,fun m hm=>?_⟩
  have hg4:=get4 (cs:=ks) (k:=k) (by omega) (.bool true) (.int .i64 a) (.int .i64 b) v
  by_cases r:m=k
  ·subst r
   have e0:setG G ((e:Int),(m:Int)) j ((e:Int),(m:Int))=some j:=if_pos rfl
   rw [e0]
   exact ⟨by rw [hg4,if_pos rfl];rfl,⟨a,by rw [hg4,if_neg (by omega),if_pos rfl]⟩,⟨b,by rw [hg4,if_neg (by omega),if_neg (by omega),if_pos rfl]⟩,v,by rw [hg4,if_neg (by omega),if_neg (by omega),if_neg (by omega),if_pos rfl],hv.keep k1 (by decide) hg⟩
  ·have e0:setG G ((e:Int),(k:Int)) j ((e:Int),(m:Int))=G ((e:Int),(m:Int)):=if_neg (fun z=>r (by have:=congrArg Prod.snd z;simp only at this;omega))
   rw [e0]
   obtain ⟨c0,⟨a',c1⟩,⟨b',c2⟩,v',c3,hv'⟩:=k3 m hm
   exact ⟨by rw [hg4,if_neg (by omega),if_neg (by omega),if_neg (by omega),if_neg (by omega)];exact c0,⟨a',by rw [hg4,if_neg (by omega),if_neg (by omega),if_neg (by omega),if_neg (by omega)];exact c1⟩,⟨b',by rw [hg4,if_neg (by omega),if_neg (by omega),if_neg (by omega),if_neg (by omega)];exact c2⟩,v',by rw [hg4,if_neg (by omega),if_neg (by omega),if_neg (by omega),if_neg (by omega)];exact c3,hv'.keep k1 (by decide) hg⟩
 ·obtain ⟨es,e1,e2,e3⟩:=h3 e he
  have hne2:rb e≠rb d:=fun z=>q (h4 e d he hd z)
  refine ⟨es,e1.grown hg (fun z=>hne2 (Option.some.inj z).symm),e2,fun m hm=>?_⟩
  have e0:setG G ((d:Int),(k:Int)) j ((e:Int),(m:Int))=G ((e:Int),(m:Int)):=if_neg (fun z=>q (by have:=congrArg Prod.fst z;simp only at this;omega))
  rw [e0]
  obtain ⟨c0,c1,c2,v',c3,hv'⟩:=e3 m hm
  exact ⟨c0,c1,c2,v',c3,hv'.keep k1 (by decide) hg⟩
end Go.Proofs.YthhfmppealmblaaGreatDoor
