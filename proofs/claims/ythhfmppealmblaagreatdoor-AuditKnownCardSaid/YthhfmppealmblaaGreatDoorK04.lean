/-
  A part of the proof: APy.
-/
import Derived.Test.YthhfmppealmblaaGreatDoorK03
import Derived.Test.YthhfmppealmblaaGreatDoorN11
namespace Go.Proofs.YthhfmppealmblaaGreatDoor
open Go.RowKit
structure EvC (W:World) (eb eo:Nat) (x:Ev):Prop where
 lt:eb<W.heap.size
 c0:W.cell? ⟨eb,eo,none⟩=some (.int .i64 x.1)
 c1:W.cell? ⟨eb,eo+1,none⟩=some (.int .i64 x.2.1)
 c2:W.cell? ⟨eb,eo+2,none⟩=some (.int .i64 x.2.2.1)
 c3:W.cell? ⟨eb,eo+3,none⟩=some (.int .i64 x.2.2.2.1)
 c4:W.cell? ⟨eb,eo+4,none⟩=some (.int .i64 x.2.2.2.2)
theorem EvC.later {W W':World} {eb eo:Nat} {x:Ev} (h:EvC W eb eo x) (hb:Below W.heap.size W W'):EvC W' eb eo x :=
 ⟨Nat.lt_of_lt_of_le h.lt hb.size,(hb.cell h.lt).trans h.c0,(hb.cell h.lt).trans h.c1,(hb.cell h.lt).trans h.c2,(hb.cell h.lt).trans h.c3,(hb.cell h.lt).trans h.c4⟩
structure PyI (w0:World) (v1 v2 v3 v4:Value) (fp:Nat→Value) (S:Sp) (PB:Nat) (f:Th→Int) (t:Int) (B:Nat) (w:World):Prop where
 sp:SpRd w0 v1 v2 v3 v4 fp S
 pb:Blk w0 PB 27 #[v1,v2,v3,v4]
 px:PlX f t PB w B
 be:Below w0.heap.size w0 w
 new:w0.heap.size≤B
theorem PyI.below {w0:World} {v1 v2 v3 v4:Value} {fp:Nat→Value} {S:Sp} {PB:Nat} {f:Th→Int} {t:Int} {B:Nat} {w w':World} (h:PyI w0 v1 v2 v3 v4 fp S PB f t B w) (hb:Below w.heap.size w w'):PyI w0 v1 v2 v3 v4 fp S PB f t B w' :=
 ⟨h.sp,h.pb,h.px.below hb,below_step h.be hb,h.new⟩
theorem PyI.put {w0:World} {v1 v2 v3 v4:Value} {fp:Nat→Value} {S:Sp} {PB:Nat} {f g:Th→Int} {t u:Int} {B:Nat} {w:World} (h:PyI w0 v1 v2 v3 v4 fp S PB f t B w) (i:Nat) (v:Value) (hp:PlX g u PB (w.setCell ⟨B,i,none⟩ v) B):PyI w0 v1 v2 v3 v4 fp S PB g u B (w.setCell ⟨B,i,none⟩ v) :=
 ⟨h.sp,h.pb,hp,h.be.setCell (p:=⟨B,i,none⟩) h.new v,h.new⟩
theorem drewN_grown (w:World) (n:Nat) (r:Option Nat):w.grownBy (w.drewN n) r:=⟨rfl,rfl,rfl,Nat.le_refl _,fun _ _ _=>rfl⟩
theorem PyI.drewN {w0:World} {v1 v2 v3 v4:Value} {fp:Nat→Value} {S:Sp} {PB:Nat} {f:Th→Int} {t:Int} {B:Nat} {w:World} (h:PyI w0 v1 v2 v3 v4 fp S PB f t B w) (n:Nat):PyI w0 v1 v2 v3 v4 fp S PB f t B (w.drewN n):=h.below (below_drewN (Below.refl _ _) n)
theorem below_grown {w w':World} (h:Below w.heap.size w w') (r:Option Nat):w.grownBy w' r:=⟨h.os,h.tape,h.output,h.size,fun i hi _=>h.block i hi⟩
def PyR (w0:World) (v1 v2 v3 v4:Value) (fp:Nat→Value) (S:Sp) (PB:Nat) (f:Th→Int) (t:Int) (B:Nat) (x:Ev) (w:World) (e:Ending) (w':World):Prop :=
 (evR S t f x=0∧e = .returned (.bool true)∧PyI w0 v1 v2 v3 v4 fp S PB (onS f x) x.1 B w'∧w.grownBy w' (some B))∨(evR S t f x≠0∧e = .returned (.bool false)∧Below w0.heap.size w0 w'∧w.grownBy w' (some B))
theorem pyNo {w0:World} {v1 v2 v3 v4:Value} {fp:Nat→Value} {S:Sp} {PB:Nat} {f:Th→Int} {t:Int} {B:Nat} {x:Ev} {w w':World} (h:evR S t f x≠0) (hb:Below w0.heap.size w0 w') (hg:w.grownBy w' (some B)):PyR w0 v1 v2 v3 v4 fp S PB f t B x w (.returned (.bool false)) w':=.inr ⟨h,rfl,hb,hg⟩
theorem pyYes {w0:World} {v1 v2 v3 v4:Value} {fp:Nat→Value} {S:Sp} {PB:Nat} {f:Th→Int} {t:Int} {B:Nat} {x:Ev} {w w':World} (h:evR S t f x=0) (hi:PyI w0 v1 v2 v3 v4 fp S PB (onS f x) x.1 B w') (hg:w.grownBy w' (some B)):PyR w0 v1 v2 v3 v4 fp S PB f t B x w (.returned (.bool true)) w':=.inl ⟨h,rfl,hi,hg⟩
set_option maxRecDepth 100000 in
set_option maxHeartbeats 6400000 in
theorem py_t1 (w0:World) (v1 v2 v3 v4:Value) (S:Sp) (hc:(checkP S).2=0) (fp:Nat→Value) (PB B eb eo:Nat) (f:Th→Int) (t a k d n v:Int) (w:World) (hI:PyI w0 v1 v2 v3 v4 fp S PB f t B w) (he:EvC w0 eb eo (a,k,d,n,v)) (h:a<t) :
  Calls Tryz.prog 62 #[.pointer (some ⟨B,0,none⟩),.pointer (some ⟨eb,eo,none⟩)] w (PyR w0 v1 v2 v3 v4 fp S PB f t B (a,k,d,n,v) w):=by
 obtain ⟨_,c0,c1,c2,c3,c4⟩:=he.later hI.be
 have HI:=Lib.hid hI
 have HE:=Lib.hid he
 have HC:=Lib.hid hc
 have t0:=hI.px.tick
 simp only at c0 c1 c2 c3 c4
 clear hI he hc
 have dt23:decide (a<t)=true:=by rw [decide_eq_true_iff];omega
 go_enter Tryz.func62,Tryz.ntmps62
 go_wp2_with fail
 go_quiet (fail)
 go_wp2
 go_ret
 exact pyNo (by rw [evR_tick (by simp only;omega)];decide) (HI.out.drewN _).be (drewN_grown _ _ _)
set_option maxRecDepth 100000 in
set_option maxHeartbeats 6400000 in
theorem py_t2 (w0:World) (v1 v2 v3 v4:Value) (S:Sp) (hc:(checkP S).2=0) (fp:Nat→Value) (PB B eb eo:Nat) (f:Th→Int) (t a k d n v:Int) (w:World) (hI:PyI w0 v1 v2 v3 v4 fp S PB f t B w) (he:EvC w0 eb eo (a,k,d,n,v)) (h1:¬ a<t) (h:100000000<a) :
  Calls Tryz.prog 62 #[.pointer (some ⟨B,0,none⟩),.pointer (some ⟨eb,eo,none⟩)] w (PyR w0 v1 v2 v3 v4 fp S PB f t B (a,k,d,n,v) w):=by
 obtain ⟨_,c0,c1,c2,c3,c4⟩:=he.later hI.be
 have HI:=Lib.hid hI
 have HE:=Lib.hid he
 have HC:=Lib.hid hc
 have t0:=hI.px.tick
 simp only at c0 c1 c2 c3 c4
 clear hI he hc
 have df24:decide (a<t)=false:=by rw [decide_eq_false_iff_not];omega
 have dt25:decide (100000000<a)=true:=by rw [decide_eq_true_iff];omega
 go_enter Tryz.func62,Tryz.ntmps62
 go_wp2_with fail
 go_quiet (fail)
 go_wp2
 go_ret
 exact pyNo (by rw [evR_tick (by simp only;omega)];decide) (HI.out.drewN _).be (drewN_grown _ _ _)
set_option maxRecDepth 100000 in
set_option maxHeartbeats 6400000 in
theorem py_svlo (w0:World) (v1 v2 v3 v4:Value) (S:Sp) (hc:(checkP S).2=0) (fp:Nat→Value) (PB B eb eo:Nat) (f:Th→Int) (t a k d n v:Int) (w:World) (hI:PyI w0 v1 v2 v3 v4 fp S PB f t B w) (he:EvC w0 eb eo (a,k,d,n,v)) (h1:¬ a<t) (h2:¬ 100000000<a) (i:Nat) (hs:swI S k d n=some (1+i)) (hev:evR S t f (a,k,d,n,v)≠0) (h:v<0) :
  Calls Tryz.prog 62 #[.pointer (some ⟨B,0,none⟩),.pointer (some ⟨eb,eo,none⟩)] w (PyR w0 v1 v2 v3 v4 fp S PB f t B (a,k,d,n,v) w):=by
 obtain ⟨_,c0,c1,c2,c3,c4⟩:=he.later hI.be
 have HI:=Lib.hid hI
 have HE:=Lib.hid he
 have HC:=Lib.hid hc
 have t0:=hI.px.tick
 simp only at c0 c1 c2 c3 c4
 clear hI he hc
 have df26:decide (a<t)=false:=by rw [decide_eq_false_iff_not];omega
 have df27:decide (100000000<a)=false:=by rw [decide_eq_false_iff_not];omega
 have HS:=Lib.hid hs
 clear hs
 have HEV:=Lib.hid hev
 clear hev
 have dt28:decide (v<0)=true:=by rw [decide_eq_true_iff];omega
 go_enter Tryz.func62,Tryz.ntmps62
 go_wp2_with fail
 go_quiet (fail)
 obtain ⟨W,hW⟩:∃ W,w.drewN nq=W:=⟨_,rfl⟩
 have HW:=Lib.hid (show PyI w0 v1 v2 v3 v4 fp S PB f t B W by rw [← hW];exact HI.out.drewN _)
 have HG:=Lib.hid (show w.grownBy W (some B) by rw [← hW];exact drewN_grown _ _ _)
 rw [hW]
 obtain ⟨_,d0,_,_,_,_⟩:=HE.out.later HW.out.be
 simp only at d0
 have t1:=HW.out.px.tick
 have f1:=HW.out.px.free 877
 have HW1:=Lib.hid (HW.out.put 877 (.int .i64 a) (HW.out.px.setTick a))
 have HG1:=Lib.hid (HG.out.trans (set_grown W B 877 (.int .i64 a)))
 clear hW t0 c0 c1 c2 c3 c4
 go_wp2_with fail
 generalize W.setCell ⟨B,877,none⟩ (.int .i64 a)=W1 at *
 obtain ⟨_,_,x1,x2,x3,x4⟩:=HE.out.later HW1.out.be
 simp only at x1 x2 x3 x4
 refine (switched_any v1 v2 v3 v4 S HC.out fp B PB eb eo k d n W1 (HW1.out.sp.later HW1.out.be) (HW1.out.pb.below HW1.out.be) HW1.out.px.sp x1 x2 x3).mono ?_
 rintro e W2 ⟨rfl,hb2⟩
 rw [HS.out]
 have HW2:=Lib.hid (HW1.out.below hb2)
 have HG2:=Lib.hid (HG1.out.trans (below_grown hb2 (some B)))
 clear hb2 x1 x2 x3 x4 d0 t1 f1 HW1 HG1 HW HG
 obtain ⟨_,_,z1,z2,z3,z4⟩:=HE.out.later HW2.out.be
 simp only at z1 z2 z3 z4
 go_wp2_with fail
 go_quiet (fail)
 go_wp2
 go_ret
 exact pyNo HEV.out (HW2.out.drewN _).be (HG2.out.trans (drewN_grown _ _ _))
set_option maxRecDepth 100000 in
set_option maxHeartbeats 6400000 in
theorem py_svhi (w0:World) (v1 v2 v3 v4:Value) (S:Sp) (hc:(checkP S).2=0) (fp:Nat→Value) (PB B eb eo:Nat) (f:Th→Int) (t a k d n v:Int) (w:World) (hI:PyI w0 v1 v2 v3 v4 fp S PB f t B w) (he:EvC w0 eb eo (a,k,d,n,v)) (h1:¬ a<t) (h2:¬ 100000000<a) (i:Nat) (hs:swI S k d n=some (1+i)) (hev:evR S t f (a,k,d,n,v)≠0) (h:1<v) :
  Calls Tryz.prog 62 #[.pointer (some ⟨B,0,none⟩),.pointer (some ⟨eb,eo,none⟩)] w (PyR w0 v1 v2 v3 v4 fp S PB f t B (a,k,d,n,v) w):=by
 obtain ⟨_,c0,c1,c2,c3,c4⟩:=he.later hI.be
 have HI:=Lib.hid hI
 have HE:=Lib.hid he
 have HC:=Lib.hid hc
 have t0:=hI.px.tick
 simp only at c0 c1 c2 c3 c4
 clear hI he hc
 have df26:decide (a<t)=false:=by rw [decide_eq_false_iff_not];omega
 have df27:decide (100000000<a)=false:=by rw [decide_eq_false_iff_not];omega
 have HS:=Lib.hid hs
 clear hs
 have HEV:=Lib.hid hev
 clear hev
 have df29:decide (v<0)=false:=by rw [decide_eq_false_iff_not];omega
 have dt30:decide (1<v)=true:=by rw [decide_eq_true_iff];omega
 go_enter Tryz.func62,Tryz.ntmps62
 go_wp2_with fail
 go_quiet (fail)
 obtain ⟨W,hW⟩:∃ W,w.drewN nq=W:=⟨_,rfl⟩
 have HW:=Lib.hid (show PyI w0 v1 v2 v3 v4 fp S PB f t B W by rw [← hW];exact HI.out.drewN _)
 have HG:=Lib.hid (show w.grownBy W (some B) by rw [← hW];exact drewN_grown _ _ _)
 rw [hW]
 obtain ⟨_,d0,_,_,_,_⟩:=HE.out.later HW.out.be
 simp only at d0
 have t1:=HW.out.px.tick
 have f1:=HW.out.px.free 877
 have HW1:=Lib.hid (HW.out.put 877 (.int .i64 a) (HW.out.px.setTick a))
 have HG1:=Lib.hid (HG.out.trans (set_grown W B 877 (.int .i64 a)))
 clear hW t0 c0 c1 c2 c3 c4
 go_wp2_with fail
 generalize W.setCell ⟨B,877,none⟩ (.int .i64 a)=W1 at *
 obtain ⟨_,_,x1,x2,x3,x4⟩:=HE.out.later HW1.out.be
 simp only at x1 x2 x3 x4
 refine (switched_any v1 v2 v3 v4 S HC.out fp B PB eb eo k d n W1 (HW1.out.sp.later HW1.out.be) (HW1.out.pb.below HW1.out.be) HW1.out.px.sp x1 x2 x3).mono ?_
 rintro e W2 ⟨rfl,hb2⟩
 rw [HS.out]
 have HW2:=Lib.hid (HW1.out.below hb2)
 have HG2:=Lib.hid (HG1.out.trans (below_grown hb2 (some B)))
 clear hb2 x1 x2 x3 x4 d0 t1 f1 HW1 HG1 HW HG
 obtain ⟨_,_,z1,z2,z3,z4⟩:=HE.out.later HW2.out.be
 simp only at z1 z2 z3 z4
 go_wp2_with fail
 go_quiet (fail)
 go_wp2
 go_ret
 exact pyNo HEV.out (HW2.out.drewN _).be (HG2.out.trans (drewN_grown _ _ _))
set_option maxRecDepth 100000 in
set_option maxHeartbeats 6400000 in
theorem py_ssame (w0:World) (v1 v2 v3 v4:Value) (S:Sp) (hc:(checkP S).2=0) (fp:Nat→Value) (PB B eb eo:Nat) (f:Th→Int) (t a k d n v:Int) (w:World) (hI:PyI w0 v1 v2 v3 v4 fp S PB f t B w) (he:EvC w0 eb eo (a,k,d,n,v)) (h1:¬ a<t) (h2:¬ 100000000<a) (i:Nat) (u:Th) (hu:OnIx u i) (h4:u.1≠4) (hs:swI S k d n=some (1+i)) (hev:evR S t f (a,k,d,n,v)≠0) (hv:v=0∨v=1) (h:f u=v) :
  Calls Tryz.prog 62 #[.pointer (some ⟨B,0,none⟩),.pointer (some ⟨eb,eo,none⟩)] w (PyR w0 v1 v2 v3 v4 fp S PB f t B (a,k,d,n,v) w):=by
 obtain ⟨_,c0,c1,c2,c3,c4⟩:=he.later hI.be
 have HI:=Lib.hid hI
 have HE:=Lib.hid he
 have HC:=Lib.hid hc
 have t0:=hI.px.tick
 simp only at c0 c1 c2 c3 c4
 clear hI he hc
 have df26:decide (a<t)=false:=by rw [decide_eq_false_iff_not];omega
 have df27:decide (100000000<a)=false:=by rw [decide_eq_false_iff_not];omega
 have HS:=Lib.hid hs
 clear hs
 have HEV:=Lib.hid hev
 clear hev
 have H4:=Lib.hid h4
 obtain ⟨bb,hbb⟩:∃ bb,decide (f u=1)=bb:=⟨_,rfl⟩
 have HBB:=Lib.hid hbb
 have hq:(bb==(v==1))=true:=by
  rw [beq_iff_eq,← hbb,h]
  rcases hv with rfl | rfl <;> rfl
 have df31:decide (v<0)=false:=by rw [decide_eq_false_iff_not];omega
 have df32:decide (1<v)=false:=by rw [decide_eq_false_iff_not];omega
 clear hbb h4 h hv
 go_enter Tryz.func62,Tryz.ntmps62
 go_wp2_with fail
 go_quiet (fail)
 obtain ⟨W,hW⟩:∃ W,w.drewN nq=W:=⟨_,rfl⟩
 have HW:=Lib.hid (show PyI w0 v1 v2 v3 v4 fp S PB f t B W by rw [← hW];exact HI.out.drewN _)
 have HG:=Lib.hid (show w.grownBy W (some B) by rw [← hW];exact drewN_grown _ _ _)
 rw [hW]
 obtain ⟨_,d0,_,_,_,_⟩:=HE.out.later HW.out.be
 simp only at d0
 have t1:=HW.out.px.tick
 have f1:=HW.out.px.free 877
 have HW1:=Lib.hid (HW.out.put 877 (.int .i64 a) (HW.out.px.setTick a))
 have HG1:=Lib.hid (HG.out.trans (set_grown W B 877 (.int .i64 a)))
 clear hW t0 c0 c1 c2 c3 c4
 go_wp2_with fail
 generalize W.setCell ⟨B,877,none⟩ (.int .i64 a)=W1 at *
 obtain ⟨_,_,x1,x2,x3,x4⟩:=HE.out.later HW1.out.be
 simp only at x1 x2 x3 x4
 refine (switched_any v1 v2 v3 v4 S HC.out fp B PB eb eo k d n W1 (HW1.out.sp.later HW1.out.be) (HW1.out.pb.below HW1.out.be) HW1.out.px.sp x1 x2 x3).mono ?_
 rintro e W2 ⟨rfl,hb2⟩
 rw [HS.out]
 have HW2:=Lib.hid (HW1.out.below hb2)
 have HG2:=Lib.hid (HG1.out.trans (below_grown hb2 (some B)))
 clear hb2 x1 x2 x3 x4 d0 t1 f1 HW1 HG1 HW HG
 obtain ⟨_,_,z1,z2,z3,z4⟩:=HE.out.later HW2.out.be
 simp only at z1 z2 z3 z4
 have HU:=Lib.hid hu
 have q0:W2.cell? ⟨B,1+i,none⟩=some (.bool bb):=by
  rw [HW2.out.px.on HU.out,← HBB.out]
  unfold onCell
  rw [if_neg H4.out]
 clear hu
 go_wp2_with fail
 go_quiet (fail)
 go_wp2
 go_ret
 exact pyNo HEV.out (HW2.out.drewN _).be (HG2.out.trans (drewN_grown _ _ _))
set_option maxRecDepth 100000 in
set_option maxHeartbeats 6400000 in
theorem py_sput (w0:World) (v1 v2 v3 v4:Value) (S:Sp) (hc:(checkP S).2=0) (fp:Nat→Value) (PB B eb eo:Nat) (f:Th→Int) (t a k d n v:Int) (w:World) (hI:PyI w0 v1 v2 v3 v4 fp S PB f t B w) (he:EvC w0 eb eo (a,k,d,n,v)) (h1:¬ a<t) (h2:¬ 100000000<a) (i:Nat) (u:Th) (hu:OnIx u i) (h4:u.1≠4) (hs:swI S k d n=some (1+i)) (hev:evR S t f (a,k,d,n,v)=0) (hon:onS f (a,k,d,n,v)=fun x=>if x=u then v else f x) (hv:v=0∨v=1) (h:f u≠v) (hbn:f u=0∨f u=1) :
  Calls Tryz.prog 62 #[.pointer (some ⟨B,0,none⟩),.pointer (some ⟨eb,eo,none⟩)] w (PyR w0 v1 v2 v3 v4 fp S PB f t B (a,k,d,n,v) w):=by
 obtain ⟨_,c0,c1,c2,c3,c4⟩:=he.later hI.be
 have HI:=Lib.hid hI
 have HE:=Lib.hid he
 have HC:=Lib.hid hc
 have t0:=hI.px.tick
 simp only at c0 c1 c2 c3 c4
 clear hI he hc
 have df26:decide (a<t)=false:=by rw [decide_eq_false_iff_not];omega
 have df27:decide (100000000<a)=false:=by rw [decide_eq_false_iff_not];omega
 have HS:=Lib.hid hs
 clear hs
 have HEV:=Lib.hid hev
 clear hev
 have HBN:=Lib.hid hbn
 have HON:=Lib.hid hon
 clear hon
 have H4:=Lib.hid h4
 obtain ⟨bb,hbb⟩:∃ bb,decide (f u=1)=bb:=⟨_,rfl⟩
 have HBB:=Lib.hid hbb
 have hq:(bb==(v==1))=false:=by
  rw [beq_eq_false_iff_ne,← hbb]
  intro q
  have hb:=HBN.out
  rcases hv with rfl | rfl
  ·rcases hb with e | e
   ·exact h e
   ·rw [e] at q;cases q
  ·rcases hb with e | e
   ·rw [e] at q;cases q
   ·exact h e
 have HNB:=Lib.hid (show (!bb)=decide (v=1) by
  have hb:=HBN.out
  rcases hv with rfl | rfl
  ·rcases hb with e | e
   ·exact absurd e h
   ·rw [← hbb,e];rfl
  ·rcases hb with e | e
   ·rw [← hbb,e];rfl
   ·exact absurd e h)
 have df33:decide (v<0)=false:=by rw [decide_eq_false_iff_not];omega
 have df34:decide (1<v)=false:=by rw [decide_eq_false_iff_not];omega
 clear hbb h4 h hv hbn
 go_enter Tryz.func62,Tryz.ntmps62
 go_wp2_with fail
 go_quiet (fail)
 obtain ⟨W,hW⟩:∃ W,w.drewN nq=W:=⟨_,rfl⟩
 have HW:=Lib.hid (show PyI w0 v1 v2 v3 v4 fp S PB f t B W by rw [← hW];exact HI.out.drewN _)
 have HG:=Lib.hid (show w.grownBy W (some B) by rw [← hW];exact drewN_grown _ _ _)
 rw [hW]
 obtain ⟨_,d0,_,_,_,_⟩:=HE.out.later HW.out.be
 simp only at d0
 have t1:=HW.out.px.tick
 have f1:=HW.out.px.free 877
 have HW1:=Lib.hid (HW.out.put 877 (.int .i64 a) (HW.out.px.setTick a))
 have HG1:=Lib.hid (HG.out.trans (set_grown W B 877 (.int .i64 a)))
 clear hW t0 c0 c1 c2 c3 c4
 go_wp2_with fail
 generalize W.setCell ⟨B,877,none⟩ (.int .i64 a)=W1 at *
 obtain ⟨_,_,x1,x2,x3,x4⟩:=HE.out.later HW1.out.be
 simp only at x1 x2 x3 x4
 refine (switched_any v1 v2 v3 v4 S HC.out fp B PB eb eo k d n W1 (HW1.out.sp.later HW1.out.be) (HW1.out.pb.below HW1.out.be) HW1.out.px.sp x1 x2 x3).mono ?_
 rintro e W2 ⟨rfl,hb2⟩
 rw [HS.out]
 have HW2:=Lib.hid (HW1.out.below hb2)
 have HG2:=Lib.hid (HG1.out.trans (below_grown hb2 (some B)))
 clear hb2 x1 x2 x3 x4 d0 t1 f1 HW1 HG1 HW HG
 obtain ⟨_,_,z1,z2,z3,z4⟩:=HE.out.later HW2.out.be
 simp only at z1 z2 z3 z4
 have HU:=Lib.hid hu
 have q0:W2.cell? ⟨B,1+i,none⟩=some (.bool bb):=by
  rw [HW2.out.px.on HU.out,← HBB.out]
  unfold onCell
  rw [if_neg H4.out]
 clear hu
 go_wp2_with fail
 go_quiet (fail)
 obtain ⟨W3,hW3⟩:∃ W3,W2.drewN nq=W3:=⟨_,rfl⟩
 have HW3:=Lib.hid (show PyI w0 v1 v2 v3 v4 fp S PB f a B W3 by rw [← hW3];exact HW2.out.drewN _)
 have HG3:=Lib.hid (show w.grownBy W3 (some B) by rw [← hW3];exact HG2.out.trans (drewN_grown _ _ _))
 rw [hW3]
 have q1:W3.cell? ⟨B,1+i,none⟩=some (.bool bb):=by rw [← hW3];exact q0
 have f1:=HW3.out.px.free (1+i)
 have hcell:Value.bool (!bb)=onCell u v:=by
  unfold onCell
  rw [if_neg H4.out,HNB.out]
 have HW4:=Lib.hid (HW3.out.put (g:=fun x=>if x=u then v else f x) (1+i) (.bool (!bb)) (by rw [hcell];exact HW3.out.px.set HU.out v))
 have HG4:=Lib.hid (HG3.out.trans (set_grown W3 B (1+i) (.bool (!bb))))
 clear hW3 q0 z1 z2 z3 z4 hcell
 go_wp2
 go_ret
 exact pyYes HEV.out (by rw [HON.out];exact HW4.out) HG4.out
set_option maxRecDepth 100000 in
set_option maxHeartbeats 6400000 in
theorem py_nd (w0:World) (v1 v2 v3 v4:Value) (S:Sp) (hc:(checkP S).2=0) (fp:Nat→Value) (PB B eb eo:Nat) (f:Th→Int) (t a k d n v:Int) (w:World) (hI:PyI w0 v1 v2 v3 v4 fp S PB f t B w) (he:EvC w0 eb eo (a,k,d,n,v)) (h1:¬ a<t) (h2:¬ 100000000<a) (hs:swI S k d n=none) (hev:evR S t f (a,k,d,n,v)≠0) (h:¬ d=0) :
  Calls Tryz.prog 62 #[.pointer (some ⟨B,0,none⟩),.pointer (some ⟨eb,eo,none⟩)] w (PyR w0 v1 v2 v3 v4 fp S PB f t B (a,k,d,n,v) w):=by
 obtain ⟨_,c0,c1,c2,c3,c4⟩:=he.later hI.be
 have HI:=Lib.hid hI
 have HE:=Lib.hid he
 have HC:=Lib.hid hc
 have t0:=hI.px.tick
 simp only at c0 c1 c2 c3 c4
 clear hI he hc
 have df26:decide (a<t)=false:=by rw [decide_eq_false_iff_not];omega
 have df27:decide (100000000<a)=false:=by rw [decide_eq_false_iff_not];omega
 have HS:=Lib.hid hs
 clear hs
 have HEV:=Lib.hid hev
 clear hev
 have hA:(d==0)=false:=beq_eq_false_iff_ne.2 (by omega)
 have hB:(d != 0)=true:=by simpa using h
 go_enter Tryz.func62,Tryz.ntmps62
 go_wp2_with fail
 go_quiet (fail)
 obtain ⟨W,hW⟩:∃ W,w.drewN nq=W:=⟨_,rfl⟩
 have HW:=Lib.hid (show PyI w0 v1 v2 v3 v4 fp S PB f t B W by rw [← hW];exact HI.out.drewN _)
 have HG:=Lib.hid (show w.grownBy W (some B) by rw [← hW];exact drewN_grown _ _ _)
 rw [hW]
 obtain ⟨_,d0,_,_,_,_⟩:=HE.out.later HW.out.be
 simp only at d0
 have t1:=HW.out.px.tick
 have f1:=HW.out.px.free 877
 have HW1:=Lib.hid (HW.out.put 877 (.int .i64 a) (HW.out.px.setTick a))
 have HG1:=Lib.hid (HG.out.trans (set_grown W B 877 (.int .i64 a)))
 clear hW t0 c0 c1 c2 c3 c4
 go_wp2_with fail
 generalize W.setCell ⟨B,877,none⟩ (.int .i64 a)=W1 at *
 obtain ⟨_,_,x1,x2,x3,x4⟩:=HE.out.later HW1.out.be
 simp only at x1 x2 x3 x4
 refine (switched_any v1 v2 v3 v4 S HC.out fp B PB eb eo k d n W1 (HW1.out.sp.later HW1.out.be) (HW1.out.pb.below HW1.out.be) HW1.out.px.sp x1 x2 x3).mono ?_
 rintro e W2 ⟨rfl,hb2⟩
 rw [HS.out]
 have HW2:=Lib.hid (HW1.out.below hb2)
 have HG2:=Lib.hid (HG1.out.trans (below_grown hb2 (some B)))
 clear hb2 x1 x2 x3 x4 d0 t1 f1 HW1 HG1 HW HG
 obtain ⟨_,_,z1,z2,z3,z4⟩:=HE.out.later HW2.out.be
 simp only at z1 z2 z3 z4
 go_wp2
 go_ret
 exact pyNo HEV.out HW2.out.be HG2.out
set_option maxRecDepth 100000 in
set_option maxHeartbeats 6400000 in
theorem py_sh1 (w0:World) (v1 v2 v3 v4:Value) (S:Sp) (hc:(checkP S).2=0) (fp:Nat→Value) (PB B eb eo:Nat) (f:Th→Int) (t a n v:Int) (w:World) (hI:PyI w0 v1 v2 v3 v4 fp S PB f t B w) (he:EvC w0 eb eo (a,4,0,n,v)) (h1:¬ a<t) (h2:¬ 100000000<a) (hs:swI S 4 0 n=none) (hev:evR S t f (a,4,0,n,v)≠0) (h:n<0) :
  Calls Tryz.prog 62 #[.pointer (some ⟨B,0,none⟩),.pointer (some ⟨eb,eo,none⟩)] w (PyR w0 v1 v2 v3 v4 fp S PB f t B (a,4,0,n,v) w):=by
 obtain ⟨_,c0,c1,c2,c3,c4⟩:=he.later hI.be
 have HI:=Lib.hid hI
 have HE:=Lib.hid he
 have HC:=Lib.hid hc
 have t0:=hI.px.tick
 simp only at c0 c1 c2 c3 c4
 clear hI he hc
 have df26:decide (a<t)=false:=by rw [decide_eq_false_iff_not];omega
 have df27:decide (100000000<a)=false:=by rw [decide_eq_false_iff_not];omega
 have HS:=Lib.hid hs
 clear hs
 have HEV:=Lib.hid hev
 clear hev
 have dt35:decide (n<0)=true:=by rw [decide_eq_true_iff];omega
 go_enter Tryz.func62,Tryz.ntmps62
 go_wp2_with fail
 go_quiet (fail)
 obtain ⟨W,hW⟩:∃ W,w.drewN nq=W:=⟨_,rfl⟩
 have HW:=Lib.hid (show PyI w0 v1 v2 v3 v4 fp S PB f t B W by rw [← hW];exact HI.out.drewN _)
 have HG:=Lib.hid (show w.grownBy W (some B) by rw [← hW];exact drewN_grown _ _ _)
 rw [hW]
 obtain ⟨_,d0,_,_,_,_⟩:=HE.out.later HW.out.be
 simp only at d0
 have t1:=HW.out.px.tick
 have f1:=HW.out.px.free 877
 have HW1:=Lib.hid (HW.out.put 877 (.int .i64 a) (HW.out.px.setTick a))
 have HG1:=Lib.hid (HG.out.trans (set_grown W B 877 (.int .i64 a)))
 clear hW t0 c0 c1 c2 c3 c4
 go_wp2_with fail
 generalize W.setCell ⟨B,877,none⟩ (.int .i64 a)=W1 at *
 obtain ⟨_,_,x1,x2,x3,x4⟩:=HE.out.later HW1.out.be
 simp only at x1 x2 x3 x4
 refine (switched_any v1 v2 v3 v4 S HC.out fp B PB eb eo 4 0 n W1 (HW1.out.sp.later HW1.out.be) (HW1.out.pb.below HW1.out.be) HW1.out.px.sp x1 x2 x3).mono ?_
 rintro e W2 ⟨rfl,hb2⟩
 rw [HS.out]
 have HW2:=Lib.hid (HW1.out.below hb2)
 have HG2:=Lib.hid (HG1.out.trans (below_grown hb2 (some B)))
 clear hb2 x1 x2 x3 x4 d0 t1 f1 HW1 HG1 HW HG
 obtain ⟨_,_,z1,z2,z3,z4⟩:=HE.out.later HW2.out.be
 simp only at z1 z2 z3 z4
 go_wp2_with fail
 go_quiet (fail)
 go_wp2
 go_ret
 exact pyNo HEV.out (HW2.out.drewN _).be (HG2.out.trans (drewN_grown _ _ _))
set_option maxRecDepth 100000 in
set_option maxHeartbeats 6400000 in
theorem py_sh2 (w0:World) (v1 v2 v3 v4:Value) (S:Sp) (hc:(checkP S).2=0) (fp:Nat→Value) (PB B eb eo:Nat) (f:Th→Int) (t a n v:Int) (w:World) (hI:PyI w0 v1 v2 v3 v4 fp S PB f t B w) (he:EvC w0 eb eo (a,4,0,n,v)) (h1:¬ a<t) (h2:¬ 100000000<a) (hs:swI S 4 0 n=none) (hev:evR S t f (a,4,0,n,v)≠0) (h:3<n) :
  Calls Tryz.prog 62 #[.pointer (some ⟨B,0,none⟩),.pointer (some ⟨eb,eo,none⟩)] w (PyR w0 v1 v2 v3 v4 fp S PB f t B (a,4,0,n,v) w):=by
 obtain ⟨_,c0,c1,c2,c3,c4⟩:=he.later hI.be
 have HI:=Lib.hid hI
 have HE:=Lib.hid he
 have HC:=Lib.hid hc
 have t0:=hI.px.tick
 simp only at c0 c1 c2 c3 c4
 clear hI he hc
 have df26:decide (a<t)=false:=by rw [decide_eq_false_iff_not];omega
 have df27:decide (100000000<a)=false:=by rw [decide_eq_false_iff_not];omega
 have HS:=Lib.hid hs
 clear hs
 have HEV:=Lib.hid hev
 clear hev
 have df36:decide (n<0)=false:=by rw [decide_eq_false_iff_not];omega
 have dt37:decide (4≤n)=true:=by rw [decide_eq_true_iff];omega
 go_enter Tryz.func62,Tryz.ntmps62
 go_wp2_with fail
 go_quiet (fail)
 obtain ⟨W,hW⟩:∃ W,w.drewN nq=W:=⟨_,rfl⟩
 have HW:=Lib.hid (show PyI w0 v1 v2 v3 v4 fp S PB f t B W by rw [← hW];exact HI.out.drewN _)
 have HG:=Lib.hid (show w.grownBy W (some B) by rw [← hW];exact drewN_grown _ _ _)
 rw [hW]
 obtain ⟨_,d0,_,_,_,_⟩:=HE.out.later HW.out.be
 simp only at d0
 have t1:=HW.out.px.tick
 have f1:=HW.out.px.free 877
 have HW1:=Lib.hid (HW.out.put 877 (.int .i64 a) (HW.out.px.setTick a))
 have HG1:=Lib.hid (HG.out.trans (set_grown W B 877 (.int .i64 a)))
 clear hW t0 c0 c1 c2 c3 c4
 go_wp2_with fail
 generalize W.setCell ⟨B,877,none⟩ (.int .i64 a)=W1 at *
 obtain ⟨_,_,x1,x2,x3,x4⟩:=HE.out.later HW1.out.be
 simp only at x1 x2 x3 x4
 refine (switched_any v1 v2 v3 v4 S HC.out fp B PB eb eo 4 0 n W1 (HW1.out.sp.later HW1.out.be) (HW1.out.pb.below HW1.out.be) HW1.out.px.sp x1 x2 x3).mono ?_
 rintro e W2 ⟨rfl,hb2⟩
 rw [HS.out]
 have HW2:=Lib.hid (HW1.out.below hb2)
 have HG2:=Lib.hid (HG1.out.trans (below_grown hb2 (some B)))
 clear hb2 x1 x2 x3 x4 d0 t1 f1 HW1 HG1 HW HG
 obtain ⟨_,_,z1,z2,z3,z4⟩:=HE.out.later HW2.out.be
 simp only at z1 z2 z3 z4
 go_wp2_with fail
 go_quiet (fail)
 go_wp2
 go_ret
 exact pyNo HEV.out (HW2.out.drewN _).be (HG2.out.trans (drewN_grown _ _ _))
set_option maxRecDepth 100000 in
set_option maxHeartbeats 6400000 in
theorem py_sh3 (w0:World) (v1 v2 v3 v4:Value) (S:Sp) (hc:(checkP S).2=0) (fp:Nat→Value) (PB B eb eo:Nat) (f:Th→Int) (t a n v:Int) (w:World) (hI:PyI w0 v1 v2 v3 v4 fp S PB f t B w) (he:EvC w0 eb eo (a,4,0,n,v)) (h1:¬ a<t) (h2:¬ 100000000<a) (hs:swI S 4 0 n=none) (hev:evR S t f (a,4,0,n,v)≠0) (h1:0≤n) (h2:n≤3) (h:v<0) :
  Calls Tryz.prog 62 #[.pointer (some ⟨B,0,none⟩),.pointer (some ⟨eb,eo,none⟩)] w (PyR w0 v1 v2 v3 v4 fp S PB f t B (a,4,0,n,v) w):=by
 obtain ⟨_,c0,c1,c2,c3,c4⟩:=he.later hI.be
 have HI:=Lib.hid hI
 have HE:=Lib.hid he
 have HC:=Lib.hid hc
 have t0:=hI.px.tick
 simp only at c0 c1 c2 c3 c4
 clear hI he hc
 have df26:decide (a<t)=false:=by rw [decide_eq_false_iff_not];omega
 have df27:decide (100000000<a)=false:=by rw [decide_eq_false_iff_not];omega
 have HS:=Lib.hid hs
 clear hs
 have HEV:=Lib.hid hev
 clear hev
 have df38:decide (n<0)=false:=by rw [decide_eq_false_iff_not];omega
 have df39:decide (4≤n)=false:=by rw [decide_eq_false_iff_not];omega
 have dt40:decide (v<0)=true:=by rw [decide_eq_true_iff];omega
 go_enter Tryz.func62,Tryz.ntmps62
 go_wp2_with fail
 go_quiet (fail)
 obtain ⟨W,hW⟩:∃ W,w.drewN nq=W:=⟨_,rfl⟩
 have HW:=Lib.hid (show PyI w0 v1 v2 v3 v4 fp S PB f t B W by rw [← hW];exact HI.out.drewN _)
 have HG:=Lib.hid (show w.grownBy W (some B) by rw [← hW];exact drewN_grown _ _ _)
 rw [hW]
 obtain ⟨_,d0,_,_,_,_⟩:=HE.out.later HW.out.be
 simp only at d0
 have t1:=HW.out.px.tick
 have f1:=HW.out.px.free 877
 have HW1:=Lib.hid (HW.out.put 877 (.int .i64 a) (HW.out.px.setTick a))
 have HG1:=Lib.hid (HG.out.trans (set_grown W B 877 (.int .i64 a)))
 clear hW t0 c0 c1 c2 c3 c4
 go_wp2_with fail
 generalize W.setCell ⟨B,877,none⟩ (.int .i64 a)=W1 at *
 obtain ⟨_,_,x1,x2,x3,x4⟩:=HE.out.later HW1.out.be
 simp only at x1 x2 x3 x4
 refine (switched_any v1 v2 v3 v4 S HC.out fp B PB eb eo 4 0 n W1 (HW1.out.sp.later HW1.out.be) (HW1.out.pb.below HW1.out.be) HW1.out.px.sp x1 x2 x3).mono ?_
 rintro e W2 ⟨rfl,hb2⟩
 rw [HS.out]
 have HW2:=Lib.hid (HW1.out.below hb2)
 have HG2:=Lib.hid (HG1.out.trans (below_grown hb2 (some B)))
 clear hb2 x1 x2 x3 x4 d0 t1 f1 HW1 HG1 HW HG
 obtain ⟨_,_,z1,z2,z3,z4⟩:=HE.out.later HW2.out.be
 simp only at z1 z2 z3 z4
 go_wp2_with fail
 go_quiet (fail)
 go_wp2
 go_ret
 exact pyNo HEV.out (HW2.out.drewN _).be (HG2.out.trans (drewN_grown _ _ _))
set_option maxRecDepth 100000 in
set_option maxHeartbeats 6400000 in
theorem py_sh4 (w0:World) (v1 v2 v3 v4:Value) (S:Sp) (hc:(checkP S).2=0) (fp:Nat→Value) (PB B eb eo:Nat) (f:Th→Int) (t a n v:Int) (w:World) (hI:PyI w0 v1 v2 v3 v4 fp S PB f t B w) (he:EvC w0 eb eo (a,4,0,n,v)) (h1:¬ a<t) (h2:¬ 100000000<a) (hs:swI S 4 0 n=none) (hev:evR S t f (a,4,0,n,v)≠0) (h1:0≤n) (h2:n≤3) (h:127<v) :
  Calls Tryz.prog 62 #[.pointer (some ⟨B,0,none⟩),.pointer (some ⟨eb,eo,none⟩)] w (PyR w0 v1 v2 v3 v4 fp S PB f t B (a,4,0,n,v) w):=by
 obtain ⟨_,c0,c1,c2,c3,c4⟩:=he.later hI.be
 have HI:=Lib.hid hI
 have HE:=Lib.hid he
 have HC:=Lib.hid hc
 have t0:=hI.px.tick
 simp only at c0 c1 c2 c3 c4
 clear hI he hc
 have df26:decide (a<t)=false:=by rw [decide_eq_false_iff_not];omega
 have df27:decide (100000000<a)=false:=by rw [decide_eq_false_iff_not];omega
 have HS:=Lib.hid hs
 clear hs
 have HEV:=Lib.hid hev
 clear hev
 have df41:decide (n<0)=false:=by rw [decide_eq_false_iff_not];omega
 have df42:decide (4≤n)=false:=by rw [decide_eq_false_iff_not];omega
 have df43:decide (v<0)=false:=by rw [decide_eq_false_iff_not];omega
 have dt44:decide (127<v)=true:=by rw [decide_eq_true_iff];omega
 go_enter Tryz.func62,Tryz.ntmps62
 go_wp2_with fail
 go_quiet (fail)
 obtain ⟨W,hW⟩:∃ W,w.drewN nq=W:=⟨_,rfl⟩
 have HW:=Lib.hid (show PyI w0 v1 v2 v3 v4 fp S PB f t B W by rw [← hW];exact HI.out.drewN _)
 have HG:=Lib.hid (show w.grownBy W (some B) by rw [← hW];exact drewN_grown _ _ _)
 rw [hW]
 obtain ⟨_,d0,_,_,_,_⟩:=HE.out.later HW.out.be
 simp only at d0
 have t1:=HW.out.px.tick
 have f1:=HW.out.px.free 877
 have HW1:=Lib.hid (HW.out.put 877 (.int .i64 a) (HW.out.px.setTick a))
 have HG1:=Lib.hid (HG.out.trans (set_grown W B 877 (.int .i64 a)))
 clear hW t0 c0 c1 c2 c3 c4
 go_wp2_with fail
 generalize W.setCell ⟨B,877,none⟩ (.int .i64 a)=W1 at *
 obtain ⟨_,_,x1,x2,x3,x4⟩:=HE.out.later HW1.out.be
 simp only at x1 x2 x3 x4
 refine (switched_any v1 v2 v3 v4 S HC.out fp B PB eb eo 4 0 n W1 (HW1.out.sp.later HW1.out.be) (HW1.out.pb.below HW1.out.be) HW1.out.px.sp x1 x2 x3).mono ?_
 rintro e W2 ⟨rfl,hb2⟩
 rw [HS.out]
 have HW2:=Lib.hid (HW1.out.below hb2)
 have HG2:=Lib.hid (HG1.out.trans (below_grown hb2 (some B)))
 clear hb2 x1 x2 x3 x4 d0 t1 f1 HW1 HG1 HW HG
 obtain ⟨_,_,z1,z2,z3,z4⟩:=HE.out.later HW2.out.be
 simp only at z1 z2 z3 z4
 go_wp2_with fail
 go_quiet (fail)
 go_wp2
 go_ret
 exact pyNo HEV.out (HW2.out.drewN _).be (HG2.out.trans (drewN_grown _ _ _))
set_option maxRecDepth 100000 in
set_option maxHeartbeats 6400000 in
theorem py_shs (w0:World) (v1 v2 v3 v4:Value) (S:Sp) (hc:(checkP S).2=0) (fp:Nat→Value) (PB B eb eo:Nat) (f:Th→Int) (t a v:Int) (m:Nat) (w:World) (hI:PyI w0 v1 v2 v3 v4 fp S PB f t B w) (he:EvC w0 eb eo (a,4,0,m,v)) (h1:¬ a<t) (h2:¬ 100000000<a) (hs:swI S 4 0 m=none) (hev:evR S t f (a,4,0,(m:Int),v)≠0) (hm:m<4) (hv:0≤v∧v≤127) (h:f (4,0,(m:Int))=v) :
  Calls Tryz.prog 62 #[.pointer (some ⟨B,0,none⟩),.pointer (some ⟨eb,eo,none⟩)] w (PyR w0 v1 v2 v3 v4 fp S PB f t B (a,4,0,m,v) w):=by
 obtain ⟨_,c0,c1,c2,c3,c4⟩:=he.later hI.be
 have HI:=Lib.hid hI
 have HE:=Lib.hid he
 have HC:=Lib.hid hc
 have t0:=hI.px.tick
 simp only at c0 c1 c2 c3 c4
 clear hI he hc
 have df26:decide (a<t)=false:=by rw [decide_eq_false_iff_not];omega
 have df27:decide (100000000<a)=false:=by rw [decide_eq_false_iff_not];omega
 have HS:=Lib.hid hs
 clear hs
 have HEV:=Lib.hid hev
 clear hev
 have HM:=Lib.hid hm
 obtain ⟨sv,hsv⟩:∃ sv,f (4,0,(m:Int))=sv:=⟨_,rfl⟩
 have HSV:=Lib.hid hsv
 have hm4:(m:Int)<4:=by omega
 have df45:decide ((m:Int)<0)=false:=by rw [decide_eq_false_iff_not];omega
 have df46:decide (4≤(m:Int))=false:=by rw [decide_eq_false_iff_not];omega
 have df47:decide (v<0)=false:=by rw [decide_eq_false_iff_not];omega
 have df48:decide (127<v)=false:=by rw [decide_eq_false_iff_not];omega
 have hq:(sv==v)=true:=by rw [beq_iff_eq,← hsv];exact h
 clear hsv hv h hm
 go_enter Tryz.func62,Tryz.ntmps62
 go_wp2_with fail
 go_quiet (fail)
 obtain ⟨W,hW⟩:∃ W,w.drewN nq=W:=⟨_,rfl⟩
 have HW:=Lib.hid (show PyI w0 v1 v2 v3 v4 fp S PB f t B W by rw [← hW];exact HI.out.drewN _)
 have HG:=Lib.hid (show w.grownBy W (some B) by rw [← hW];exact drewN_grown _ _ _)
 rw [hW]
 obtain ⟨_,d0,_,_,_,_⟩:=HE.out.later HW.out.be
 simp only at d0
 have t1:=HW.out.px.tick
 have f1:=HW.out.px.free 877
 have HW1:=Lib.hid (HW.out.put 877 (.int .i64 a) (HW.out.px.setTick a))
 have HG1:=Lib.hid (HG.out.trans (set_grown W B 877 (.int .i64 a)))
 clear hW t0 c0 c1 c2 c3 c4
 go_wp2_with fail
 generalize W.setCell ⟨B,877,none⟩ (.int .i64 a)=W1 at *
 obtain ⟨_,_,x1,x2,x3,x4⟩:=HE.out.later HW1.out.be
 simp only at x1 x2 x3 x4
 refine (switched_any v1 v2 v3 v4 S HC.out fp B PB eb eo 4 0 m W1 (HW1.out.sp.later HW1.out.be) (HW1.out.pb.below HW1.out.be) HW1.out.px.sp x1 x2 x3).mono ?_
 rintro e W2 ⟨rfl,hb2⟩
 rw [HS.out]
 have HW2:=Lib.hid (HW1.out.below hb2)
 have HG2:=Lib.hid (HG1.out.trans (below_grown hb2 (some B)))
 clear hb2 x1 x2 x3 x4 d0 t1 f1 HW1 HG1 HW HG
 obtain ⟨_,_,z1,z2,z3,z4⟩:=HE.out.later HW2.out.be
 simp only at z1 z2 z3 z4
 have q0:W2.cell? ⟨B,873+m,none⟩=some (.int .i64 sv):=by
  have:=HW2.out.px.on (onIx_shade HM.out)
  rw [show 873+m=1+(872+m) by omega,this,HSV.out]
  rfl
 go_wp2_with fail
 go_quiet (fail)
 go_wp2
 go_ret
 exact pyNo HEV.out (HW2.out.drewN _).be (HG2.out.trans (drewN_grown _ _ _))
set_option maxRecDepth 100000 in
set_option maxHeartbeats 6400000 in
theorem py_shp (w0:World) (v1 v2 v3 v4:Value) (S:Sp) (hc:(checkP S).2=0) (fp:Nat→Value) (PB B eb eo:Nat) (f:Th→Int) (t a v:Int) (m:Nat) (w:World) (hI:PyI w0 v1 v2 v3 v4 fp S PB f t B w) (he:EvC w0 eb eo (a,4,0,m,v)) (h1:¬ a<t) (h2:¬ 100000000<a) (hs:swI S 4 0 m=none) (hev:evR S t f (a,4,0,(m:Int),v)=0) (hon:onS f (a,4,0,(m:Int),v)=fun x=>if x=(4,0,(m:Int)) then v else f x) (hm:m<4) (hv:0≤v∧v≤127) (h:f (4,0,(m:Int))≠v) :
  Calls Tryz.prog 62 #[.pointer (some ⟨B,0,none⟩),.pointer (some ⟨eb,eo,none⟩)] w (PyR w0 v1 v2 v3 v4 fp S PB f t B (a,4,0,m,v) w):=by
 obtain ⟨_,c0,c1,c2,c3,c4⟩:=he.later hI.be
 have HI:=Lib.hid hI
 have HE:=Lib.hid he
 have HC:=Lib.hid hc
 have t0:=hI.px.tick
 simp only at c0 c1 c2 c3 c4
 clear hI he hc
 have df26:decide (a<t)=false:=by rw [decide_eq_false_iff_not];omega
 have df27:decide (100000000<a)=false:=by rw [decide_eq_false_iff_not];omega
 have HS:=Lib.hid hs
 clear hs
 have HEV:=Lib.hid hev
 clear hev
 have HON:=Lib.hid hon
 clear hon
 have HM:=Lib.hid hm
 obtain ⟨sv,hsv⟩:∃ sv,f (4,0,(m:Int))=sv:=⟨_,rfl⟩
 have HSV:=Lib.hid hsv
 have hm4:(m:Int)<4:=by omega
 have df45:decide ((m:Int)<0)=false:=by rw [decide_eq_false_iff_not];omega
 have df46:decide (4≤(m:Int))=false:=by rw [decide_eq_false_iff_not];omega
 have df47:decide (v<0)=false:=by rw [decide_eq_false_iff_not];omega
 have df48:decide (127<v)=false:=by rw [decide_eq_false_iff_not];omega
 have hq:(sv==v)=false:=by rw [beq_eq_false_iff_ne,← hsv];exact h
 clear hsv hv h hm
 go_enter Tryz.func62,Tryz.ntmps62
 go_wp2_with fail
 go_quiet (fail)
 obtain ⟨W,hW⟩:∃ W,w.drewN nq=W:=⟨_,rfl⟩
 have HW:=Lib.hid (show PyI w0 v1 v2 v3 v4 fp S PB f t B W by rw [← hW];exact HI.out.drewN _)
 have HG:=Lib.hid (show w.grownBy W (some B) by rw [← hW];exact drewN_grown _ _ _)
 rw [hW]
 obtain ⟨_,d0,_,_,_,_⟩:=HE.out.later HW.out.be
 simp only at d0
 have t1:=HW.out.px.tick
 have f1:=HW.out.px.free 877
 have HW1:=Lib.hid (HW.out.put 877 (.int .i64 a) (HW.out.px.setTick a))
 have HG1:=Lib.hid (HG.out.trans (set_grown W B 877 (.int .i64 a)))
 clear hW t0 c0 c1 c2 c3 c4
 go_wp2_with fail
 generalize W.setCell ⟨B,877,none⟩ (.int .i64 a)=W1 at *
 obtain ⟨_,_,x1,x2,x3,x4⟩:=HE.out.later HW1.out.be
 simp only at x1 x2 x3 x4
 refine (switched_any v1 v2 v3 v4 S HC.out fp B PB eb eo 4 0 m W1 (HW1.out.sp.later HW1.out.be) (HW1.out.pb.below HW1.out.be) HW1.out.px.sp x1 x2 x3).mono ?_
 rintro e W2 ⟨rfl,hb2⟩
 rw [HS.out]
 have HW2:=Lib.hid (HW1.out.below hb2)
 have HG2:=Lib.hid (HG1.out.trans (below_grown hb2 (some B)))
 clear hb2 x1 x2 x3 x4 d0 t1 f1 HW1 HG1 HW HG
 obtain ⟨_,_,z1,z2,z3,z4⟩:=HE.out.later HW2.out.be
 simp only at z1 z2 z3 z4
 have q0:W2.cell? ⟨B,873+m,none⟩=some (.int .i64 sv):=by
  have:=HW2.out.px.on (onIx_shade HM.out)
  rw [show 873+m=1+(872+m) by omega,this,HSV.out]
  rfl
 go_wp2_with fail
 go_quiet (fail)
 obtain ⟨W3,hW3⟩:∃ W3,W2.drewN nq=W3:=⟨_,rfl⟩
 have HW3:=Lib.hid (show PyI w0 v1 v2 v3 v4 fp S PB f a B W3 by rw [← hW3];exact HW2.out.drewN _)
 have HG3:=Lib.hid (show w.grownBy W3 (some B) by rw [← hW3];exact HG2.out.trans (drewN_grown _ _ _))
 rw [hW3]
 obtain ⟨_,_,_,_,y3,y4⟩:=HE.out.later HW3.out.be
 simp only at y3 y4
 have q1:W3.cell? ⟨B,873+m,none⟩=some (.int .i64 sv):=by rw [← hW3];exact q0
 have f1:=HW3.out.px.free (873+m)
 have HW4:=Lib.hid (HW3.out.put (g:=fun x=>if x=(4,0,(m:Int)) then v else f x) (873+m) (.int .i64 v) (by
  have:=HW3.out.px.set (onIx_shade HM.out) v
  rw [show 1+(872+m)=873+m by omega] at this
  exact this))
 have HG4:=Lib.hid (HG3.out.trans (set_grown W3 B (873+m) (.int .i64 v)))
 clear hW3 q0 z1 z2 z3 z4
 go_wp2_with fail
 go_region
 have HW5:=Lib.hid (HW4.out.below (below_drew (Below.refl _ _)))
 have HG5:=Lib.hid (HG4.out.trans (below_grown (below_drew (Below.refl _ _)) (some B)))
 go_wp2
 go_ret
 exact pyYes HEV.out (by rw [HON.out];exact HW5.out) HG5.out
set_option maxRecDepth 100000 in
set_option maxHeartbeats 6400000 in
theorem py_mk0 (w0:World) (v1 v2 v3 v4:Value) (S:Sp) (hc:(checkP S).2=0) (fp:Nat→Value) (PB B eb eo:Nat) (f:Th→Int) (t a k n v:Int) (w:World) (hI:PyI w0 v1 v2 v3 v4 fp S PB f t B w) (he:EvC w0 eb eo (a,k,0,n,v)) (h1:¬ a<t) (h2:¬ 100000000<a) (hs:swI S k 0 n=none) (hev:evR S t f (a,k,0,n,v)≠0) (h:¬ k=4∧¬ k=5) :
  Calls Tryz.prog 62 #[.pointer (some ⟨B,0,none⟩),.pointer (some ⟨eb,eo,none⟩)] w (PyR w0 v1 v2 v3 v4 fp S PB f t B (a,k,0,n,v) w):=by
 obtain ⟨_,c0,c1,c2,c3,c4⟩:=he.later hI.be
 have HI:=Lib.hid hI
 have HE:=Lib.hid he
 have HC:=Lib.hid hc
 have t0:=hI.px.tick
 simp only at c0 c1 c2 c3 c4
 clear hI he hc
 have df26:decide (a<t)=false:=by rw [decide_eq_false_iff_not];omega
 have df27:decide (100000000<a)=false:=by rw [decide_eq_false_iff_not];omega
 have HS:=Lib.hid hs
 clear hs
 have HEV:=Lib.hid hev
 clear hev
 have hA:(k==4)=false:=beq_eq_false_iff_ne.2 (by omega)
 have hB:(k==5)=false:=beq_eq_false_iff_ne.2 (by omega)
 go_enter Tryz.func62,Tryz.ntmps62
 go_wp2_with fail
 go_quiet (fail)
 obtain ⟨W,hW⟩:∃ W,w.drewN nq=W:=⟨_,rfl⟩
 have HW:=Lib.hid (show PyI w0 v1 v2 v3 v4 fp S PB f t B W by rw [← hW];exact HI.out.drewN _)
 have HG:=Lib.hid (show w.grownBy W (some B) by rw [← hW];exact drewN_grown _ _ _)
 rw [hW]
 obtain ⟨_,d0,_,_,_,_⟩:=HE.out.later HW.out.be
 simp only at d0
 have t1:=HW.out.px.tick
 have f1:=HW.out.px.free 877
 have HW1:=Lib.hid (HW.out.put 877 (.int .i64 a) (HW.out.px.setTick a))
 have HG1:=Lib.hid (HG.out.trans (set_grown W B 877 (.int .i64 a)))
 clear hW t0 c0 c1 c2 c3 c4
 go_wp2_with fail
 generalize W.setCell ⟨B,877,none⟩ (.int .i64 a)=W1 at *
 obtain ⟨_,_,x1,x2,x3,x4⟩:=HE.out.later HW1.out.be
 simp only at x1 x2 x3 x4
 refine (switched_any v1 v2 v3 v4 S HC.out fp B PB eb eo k 0 n W1 (HW1.out.sp.later HW1.out.be) (HW1.out.pb.below HW1.out.be) HW1.out.px.sp x1 x2 x3).mono ?_
 rintro e W2 ⟨rfl,hb2⟩
 rw [HS.out]
 have HW2:=Lib.hid (HW1.out.below hb2)
 have HG2:=Lib.hid (HG1.out.trans (below_grown hb2 (some B)))
 clear hb2 x1 x2 x3 x4 d0 t1 f1 HW1 HG1 HW HG
 obtain ⟨_,_,z1,z2,z3,z4⟩:=HE.out.later HW2.out.be
 simp only at z1 z2 z3 z4
 go_wp2
 go_ret
 exact pyNo HEV.out HW2.out.be HG2.out
set_option maxRecDepth 100000 in
set_option maxHeartbeats 6400000 in
theorem py_mk1 (w0:World) (v1 v2 v3 v4:Value) (S:Sp) (hc:(checkP S).2=0) (fp:Nat→Value) (PB B eb eo:Nat) (f:Th→Int) (t a n v:Int) (w:World) (hI:PyI w0 v1 v2 v3 v4 fp S PB f t B w) (he:EvC w0 eb eo (a,5,0,n,v)) (h1:¬ a<t) (h2:¬ 100000000<a) (hs:swI S 5 0 n=none) (hev:evR S t f (a,5,0,n,v)≠0) (h:n<0) :
  Calls Tryz.prog 62 #[.pointer (some ⟨B,0,none⟩),.pointer (some ⟨eb,eo,none⟩)] w (PyR w0 v1 v2 v3 v4 fp S PB f t B (a,5,0,n,v) w):=by
 obtain ⟨_,c0,c1,c2,c3,c4⟩:=he.later hI.be
 have HI:=Lib.hid hI
 have HE:=Lib.hid he
 have HC:=Lib.hid hc
 have t0:=hI.px.tick
 simp only at c0 c1 c2 c3 c4
 clear hI he hc
 have df26:decide (a<t)=false:=by rw [decide_eq_false_iff_not];omega
 have df27:decide (100000000<a)=false:=by rw [decide_eq_false_iff_not];omega
 have HS:=Lib.hid hs
 clear hs
 have HEV:=Lib.hid hev
 clear hev
 have df49:decide (0≤n)=false:=by rw [decide_eq_false_iff_not];omega
 go_enter Tryz.func62,Tryz.ntmps62
 go_wp2_with fail
 go_quiet (fail)
 obtain ⟨W,hW⟩:∃ W,w.drewN nq=W:=⟨_,rfl⟩
 have HW:=Lib.hid (show PyI w0 v1 v2 v3 v4 fp S PB f t B W by rw [← hW];exact HI.out.drewN _)
 have HG:=Lib.hid (show w.grownBy W (some B) by rw [← hW];exact drewN_grown _ _ _)
 rw [hW]
 obtain ⟨_,d0,_,_,_,_⟩:=HE.out.later HW.out.be
 simp only at d0
 have t1:=HW.out.px.tick
 have f1:=HW.out.px.free 877
 have HW1:=Lib.hid (HW.out.put 877 (.int .i64 a) (HW.out.px.setTick a))
 have HG1:=Lib.hid (HG.out.trans (set_grown W B 877 (.int .i64 a)))
 clear hW t0 c0 c1 c2 c3 c4
 go_wp2_with fail
 generalize W.setCell ⟨B,877,none⟩ (.int .i64 a)=W1 at *
 obtain ⟨_,_,x1,x2,x3,x4⟩:=HE.out.later HW1.out.be
 simp only at x1 x2 x3 x4
 refine (switched_any v1 v2 v3 v4 S HC.out fp B PB eb eo 5 0 n W1 (HW1.out.sp.later HW1.out.be) (HW1.out.pb.below HW1.out.be) HW1.out.px.sp x1 x2 x3).mono ?_
 rintro e W2 ⟨rfl,hb2⟩
 rw [HS.out]
 have HW2:=Lib.hid (HW1.out.below hb2)
 have HG2:=Lib.hid (HG1.out.trans (below_grown hb2 (some B)))
 clear hb2 x1 x2 x3 x4 d0 t1 f1 HW1 HG1 HW HG
 obtain ⟨_,_,z1,z2,z3,z4⟩:=HE.out.later HW2.out.be
 simp only at z1 z2 z3 z4
 go_wp2
 go_ret
 exact pyNo HEV.out HW2.out.be HG2.out
set_option maxRecDepth 100000 in
set_option maxHeartbeats 6400000 in
theorem py_mk2 (w0:World) (v1 v2 v3 v4:Value) (S:Sp) (hc:(checkP S).2=0) (fp:Nat→Value) (PB B eb eo:Nat) (f:Th→Int) (t a n v:Int) (w:World) (hI:PyI w0 v1 v2 v3 v4 fp S PB f t B w) (he:EvC w0 eb eo (a,5,0,n,v)) (h1:¬ a<t) (h2:¬ 100000000<a) (hs:swI S 5 0 n=none) (hev:evR S t f (a,5,0,n,v)≠0) (h1:0≤n) (h:9999<n) :
  Calls Tryz.prog 62 #[.pointer (some ⟨B,0,none⟩),.pointer (some ⟨eb,eo,none⟩)] w (PyR w0 v1 v2 v3 v4 fp S PB f t B (a,5,0,n,v) w):=by
 obtain ⟨_,c0,c1,c2,c3,c4⟩:=he.later hI.be
 have HI:=Lib.hid hI
 have HE:=Lib.hid he
 have HC:=Lib.hid hc
 have t0:=hI.px.tick
 simp only at c0 c1 c2 c3 c4
 clear hI he hc
 have df26:decide (a<t)=false:=by rw [decide_eq_false_iff_not];omega
 have df27:decide (100000000<a)=false:=by rw [decide_eq_false_iff_not];omega
 have HS:=Lib.hid hs
 clear hs
 have HEV:=Lib.hid hev
 clear hev
 have dt50:decide (0≤n)=true:=by rw [decide_eq_true_iff];omega
 have df51:decide (n≤9999)=false:=by rw [decide_eq_false_iff_not];omega
 go_enter Tryz.func62,Tryz.ntmps62
 go_wp2_with fail
 go_quiet (fail)
 obtain ⟨W,hW⟩:∃ W,w.drewN nq=W:=⟨_,rfl⟩
 have HW:=Lib.hid (show PyI w0 v1 v2 v3 v4 fp S PB f t B W by rw [← hW];exact HI.out.drewN _)
 have HG:=Lib.hid (show w.grownBy W (some B) by rw [← hW];exact drewN_grown _ _ _)
 rw [hW]
 obtain ⟨_,d0,_,_,_,_⟩:=HE.out.later HW.out.be
 simp only at d0
 have t1:=HW.out.px.tick
 have f1:=HW.out.px.free 877
 have HW1:=Lib.hid (HW.out.put 877 (.int .i64 a) (HW.out.px.setTick a))
 have HG1:=Lib.hid (HG.out.trans (set_grown W B 877 (.int .i64 a)))
 clear hW t0 c0 c1 c2 c3 c4
 go_wp2_with fail
 generalize W.setCell ⟨B,877,none⟩ (.int .i64 a)=W1 at *
 obtain ⟨_,_,x1,x2,x3,x4⟩:=HE.out.later HW1.out.be
 simp only at x1 x2 x3 x4
 refine (switched_any v1 v2 v3 v4 S HC.out fp B PB eb eo 5 0 n W1 (HW1.out.sp.later HW1.out.be) (HW1.out.pb.below HW1.out.be) HW1.out.px.sp x1 x2 x3).mono ?_
 rintro e W2 ⟨rfl,hb2⟩
 rw [HS.out]
 have HW2:=Lib.hid (HW1.out.below hb2)
 have HG2:=Lib.hid (HG1.out.trans (below_grown hb2 (some B)))
 clear hb2 x1 x2 x3 x4 d0 t1 f1 HW1 HG1 HW HG
 obtain ⟨_,_,z1,z2,z3,z4⟩:=HE.out.later HW2.out.be
 simp only at z1 z2 z3 z4
 go_wp2
 go_ret
 exact pyNo HEV.out HW2.out.be HG2.out
set_option maxRecDepth 100000 in
set_option maxHeartbeats 6400000 in
theorem py_mk3 (w0:World) (v1 v2 v3 v4:Value) (S:Sp) (hc:(checkP S).2=0) (fp:Nat→Value) (PB B eb eo:Nat) (f:Th→Int) (t a n v:Int) (w:World) (hI:PyI w0 v1 v2 v3 v4 fp S PB f t B w) (he:EvC w0 eb eo (a,5,0,n,v)) (h1:¬ a<t) (h2:¬ 100000000<a) (hs:swI S 5 0 n=none) (hev:evR S t f (a,5,0,n,v)≠0) (h1:0≤n) (h2:n≤9999) (h:¬ v=0) :
  Calls Tryz.prog 62 #[.pointer (some ⟨B,0,none⟩),.pointer (some ⟨eb,eo,none⟩)] w (PyR w0 v1 v2 v3 v4 fp S PB f t B (a,5,0,n,v) w):=by
 obtain ⟨_,c0,c1,c2,c3,c4⟩:=he.later hI.be
 have HI:=Lib.hid hI
 have HE:=Lib.hid he
 have HC:=Lib.hid hc
 have t0:=hI.px.tick
 simp only at c0 c1 c2 c3 c4
 clear hI he hc
 have df26:decide (a<t)=false:=by rw [decide_eq_false_iff_not];omega
 have df27:decide (100000000<a)=false:=by rw [decide_eq_false_iff_not];omega
 have HS:=Lib.hid hs
 clear hs
 have HEV:=Lib.hid hev
 clear hev
 have dt52:decide (0≤n)=true:=by rw [decide_eq_true_iff];omega
 have dt53:decide (n≤9999)=true:=by rw [decide_eq_true_iff];omega
 have hA:(v==0)=false:=beq_eq_false_iff_ne.2 (by omega)
 go_enter Tryz.func62,Tryz.ntmps62
 go_wp2_with fail
 go_quiet (fail)
 obtain ⟨W,hW⟩:∃ W,w.drewN nq=W:=⟨_,rfl⟩
 have HW:=Lib.hid (show PyI w0 v1 v2 v3 v4 fp S PB f t B W by rw [← hW];exact HI.out.drewN _)
 have HG:=Lib.hid (show w.grownBy W (some B) by rw [← hW];exact drewN_grown _ _ _)
 rw [hW]
 obtain ⟨_,d0,_,_,_,_⟩:=HE.out.later HW.out.be
 simp only at d0
 have t1:=HW.out.px.tick
 have f1:=HW.out.px.free 877
 have HW1:=Lib.hid (HW.out.put 877 (.int .i64 a) (HW.out.px.setTick a))
 have HG1:=Lib.hid (HG.out.trans (set_grown W B 877 (.int .i64 a)))
 clear hW t0 c0 c1 c2 c3 c4
 go_wp2_with fail
 generalize W.setCell ⟨B,877,none⟩ (.int .i64 a)=W1 at *
 obtain ⟨_,_,x1,x2,x3,x4⟩:=HE.out.later HW1.out.be
 simp only at x1 x2 x3 x4
 refine (switched_any v1 v2 v3 v4 S HC.out fp B PB eb eo 5 0 n W1 (HW1.out.sp.later HW1.out.be) (HW1.out.pb.below HW1.out.be) HW1.out.px.sp x1 x2 x3).mono ?_
 rintro e W2 ⟨rfl,hb2⟩
 rw [HS.out]
 have HW2:=Lib.hid (HW1.out.below hb2)
 have HG2:=Lib.hid (HG1.out.trans (below_grown hb2 (some B)))
 clear hb2 x1 x2 x3 x4 d0 t1 f1 HW1 HG1 HW HG
 obtain ⟨_,_,z1,z2,z3,z4⟩:=HE.out.later HW2.out.be
 simp only at z1 z2 z3 z4
 go_wp2
 go_ret
 exact pyNo HEV.out HW2.out.be HG2.out
set_option maxRecDepth 100000 in
set_option maxHeartbeats 6400000 in
theorem py_mkg (w0:World) (v1 v2 v3 v4:Value) (S:Sp) (hc:(checkP S).2=0) (fp:Nat→Value) (PB B eb eo:Nat) (f:Th→Int) (t a n:Int) (w:World) (hI:PyI w0 v1 v2 v3 v4 fp S PB f t B w) (he:EvC w0 eb eo (a,5,0,n,0)) (h1:¬ a<t) (h2:¬ 100000000<a) (hs:swI S 5 0 n=none) (hev:evR S t f (a,5,0,n,0)=0) (h1:0≤n) (h2:n≤9999) :
  Calls Tryz.prog 62 #[.pointer (some ⟨B,0,none⟩),.pointer (some ⟨eb,eo,none⟩)] w (PyR w0 v1 v2 v3 v4 fp S PB f t B (a,5,0,n,0) w):=by
 obtain ⟨_,c0,c1,c2,c3,c4⟩:=he.later hI.be
 have HI:=Lib.hid hI
 have HE:=Lib.hid he
 have HC:=Lib.hid hc
 have t0:=hI.px.tick
 simp only at c0 c1 c2 c3 c4
 clear hI he hc
 have df26:decide (a<t)=false:=by rw [decide_eq_false_iff_not];omega
 have df27:decide (100000000<a)=false:=by rw [decide_eq_false_iff_not];omega
 have HS:=Lib.hid hs
 clear hs
 have HEV:=Lib.hid hev
 clear hev
 have dt54:decide (0≤n)=true:=by rw [decide_eq_true_iff];omega
 have dt55:decide (n≤9999)=true:=by rw [decide_eq_true_iff];omega
 go_enter Tryz.func62,Tryz.ntmps62
 go_wp2_with fail
 go_quiet (fail)
 obtain ⟨W,hW⟩:∃ W,w.drewN nq=W:=⟨_,rfl⟩
 have HW:=Lib.hid (show PyI w0 v1 v2 v3 v4 fp S PB f t B W by rw [← hW];exact HI.out.drewN _)
 have HG:=Lib.hid (show w.grownBy W (some B) by rw [← hW];exact drewN_grown _ _ _)
 rw [hW]
 obtain ⟨_,d0,_,_,_,_⟩:=HE.out.later HW.out.be
 simp only at d0
 have t1:=HW.out.px.tick
 have f1:=HW.out.px.free 877
 have HW1:=Lib.hid (HW.out.put 877 (.int .i64 a) (HW.out.px.setTick a))
 have HG1:=Lib.hid (HG.out.trans (set_grown W B 877 (.int .i64 a)))
 clear hW t0 c0 c1 c2 c3 c4
 go_wp2_with fail
 generalize W.setCell ⟨B,877,none⟩ (.int .i64 a)=W1 at *
 obtain ⟨_,_,x1,x2,x3,x4⟩:=HE.out.later HW1.out.be
 simp only at x1 x2 x3 x4
 refine (switched_any v1 v2 v3 v4 S HC.out fp B PB eb eo 5 0 n W1 (HW1.out.sp.later HW1.out.be) (HW1.out.pb.below HW1.out.be) HW1.out.px.sp x1 x2 x3).mono ?_
 rintro e W2 ⟨rfl,hb2⟩
 rw [HS.out]
 have HW2:=Lib.hid (HW1.out.below hb2)
 have HG2:=Lib.hid (HG1.out.trans (below_grown hb2 (some B)))
 clear hb2 x1 x2 x3 x4 d0 t1 f1 HW1 HG1 HW HG
 obtain ⟨_,_,z1,z2,z3,z4⟩:=HE.out.later HW2.out.be
 simp only at z1 z2 z3 z4
 go_wp2
 go_ret
 exact pyYes HEV.out (by rw [onS_mark _ rfl];exact HW2.out) HG2.out
theorem play_any (w0:World) (v1 v2 v3 v4:Value) (S:Sp) (hc:(checkP S).2=0) (fp:Nat→Value) (PB B eb eo:Nat) (f:Th→Int) (hbin:Bin f) (t:Int) (x:Ev) (w:World) (hI:PyI w0 v1 v2 v3 v4 fp S PB f t B w) (he:EvC w0 eb eo x) :
  Calls Tryz.prog 62 #[.pointer (some ⟨B,0,none⟩),.pointer (some ⟨eb,eo,none⟩)] w (PyR w0 v1 v2 v3 v4 fp S PB f t B x w):=by
 obtain ⟨a,k,d,n,v⟩:=x
 by_cases t1:a<t
 ·exact py_t1 w0 v1 v2 v3 v4 S hc fp PB B eb eo f t a k d n v w hI he t1
 by_cases t2:100000000<a
 ·exact py_t2 w0 v1 v2 v3 v4 S hc fp PB B eb eo f t a k d n v w hI he t1 t2
 have htk:¬ (a<t∨100000000<a):=by omega
 have bad:∀ {e:Int},evE S (a,k,d,n,v)=e→e≠0→evR S t f (a,k,d,n,v)≠0:=fun he h0=>by
  rw [evR_bad (by simp only;exact htk) he h0];exact h0
 have good:evE S (a,k,d,n,v)=0→k≠5→evR S t f (a,k,d,n,v)=if f (k,d,n)=v then 8 else 0:=fun he h5=>by
  rw [evR_good (by simp only;exact htk) he]
  by_cases q:f (k,d,n)=v
  ·rw [if_pos ⟨h5,q⟩,if_pos q]
  ·rw [if_neg (fun z=>q z.2),if_neg q]
 have some':∀ (i:Nat),OnIx (k,d,n) i→k=1∨k=2∨k=3→swI S k d n=some (1+i)→(evE S (a,k,d,n,v)=if 0≤v∧v≤1 then 0 else 7)→Calls Tryz.prog 62 #[.pointer (some ⟨B,0,none⟩),.pointer (some ⟨eb,eo,none⟩)] w (PyR w0 v1 v2 v3 v4 fp S PB f t B (a,k,d,n,v) w):=by
  intro i hu hk hs hev
  by_cases v0:v<0
  ·exact py_svlo w0 v1 v2 v3 v4 S hc fp PB B eb eo f t a k d n v w hI he t1 t2 i hs (bad (by rw [hev,if_neg (by omega)]) (by decide)) v0
  by_cases v1':1<v
  ·exact py_svhi w0 v1 v2 v3 v4 S hc fp PB B eb eo f t a k d n v w hI he t1 t2 i hs (bad (by rw [hev,if_neg (by omega)]) (by decide)) v1'
  have h0:evE S (a,k,d,n,v)=0:=by rw [hev,if_pos (by omega)]
  have h4:((k,d,n):Th).1≠4:=by simp only;omega
  by_cases q:f (k,d,n)=v
  ·exact py_ssame w0 v1 v2 v3 v4 S hc fp PB B eb eo f t a k d n v w hI he t1 t2 i _ hu h4 hs (by rw [good h0 (by omega),if_pos q];decide) (by omega) q
  ·exact py_sput w0 v1 v2 v3 v4 S hc fp PB B eb eo f t a k d n v w hI he t1 t2 i _ hu h4 hs (by rw [good h0 (by omega),if_neg q]) (onS_set f (x:=(a,k,d,n,v)) (by simp only;omega)) (by omega) q (hbin _ h4)
 by_cases k1:k=1
 ·subst k1
  by_cases hd:0≤d∧d<(S.ds.length:Int)
  ·obtain ⟨m,rfl⟩:=Int.eq_ofNat_of_zero_le hd.1
   have hdm:m<S.ds.length:=by omega
   have hk:=keyIn_at hdm n
   by_cases n0:S.ds[m].lo≤n∧n≤S.ds[m].hi
   ·have hds:=dv_small hc (List.getElem_mem hdm)
    have hl:=(sp_lens hc).1
    obtain ⟨n,rfl⟩:=Int.eq_ofNat_of_zero_le (show 0≤n by omega)
    refine some' (m * 128+n) (onIx_key (by omega) (by omega)) (.inl rfl) ?_ ?_
    ·rw [swI,if_pos rfl,if_pos ⟨by omega,by omega,by rw [hk,decide_eq_true_iff];exact n0⟩,Int.toNat_natCast,Int.toNat_natCast,Nat.add_assoc]
    ·rw [evE_key S a m n v hdm]
     by_cases q:0≤v∧v≤1
     ·rw [if_pos ⟨n0.1,n0.2,q⟩,if_pos q]
     ·rw [if_neg (fun z=>q z.2.2),if_neg q]
   ·have hs:swI S 1 (m:Int) n=none:=swI_off (fun q=>n0 (by have:=q.2.2.2;rwa [hk,decide_eq_true_iff] at this)) (by omega) (by omega)
    have hev:=bad (by rw [evE_key S a m n v hdm,if_neg (fun z=>n0 ⟨z.1,z.2.1⟩)]) (show (7:Int)≠0 by decide)
    by_cases d0:(m:Int)=0
    ·have hm0:m=0:=by omega
     subst hm0
     exact py_mk0 w0 v1 v2 v3 v4 S hc fp PB B eb eo f t a 1 n v w hI he t1 t2 hs hev (by decide)
    ·exact py_nd w0 v1 v2 v3 v4 S hc fp PB B eb eo f t a 1 m n v w hI he t1 t2 hs hev d0
  ·have hs:swI S 1 d n=none:=swI_off (fun q=>hd ⟨q.2.1,q.2.2.1⟩) (by omega) (by omega)
   have hev:=bad (evE_key0 hd) (show (4:Int)≠0 by decide)
   by_cases d0:d=0
   ·subst d0
    exact py_mk0 w0 v1 v2 v3 v4 S hc fp PB B eb eo f t a 1 n v w hI he t1 t2 hs hev (by decide)
   ·exact py_nd w0 v1 v2 v3 v4 S hc fp PB B eb eo f t a 1 d n v w hI he t1 t2 hs hev d0
 by_cases d0:d=0
 ·subst d0
  by_cases k2:k=2
  ·subst k2
   by_cases n0:0≤n∧n<(S.ss.length:Int)
   ·obtain ⟨n,rfl⟩:=Int.eq_ofNat_of_zero_le n0.1
    have hl:=(sp_lens hc).2.2.1
    refine some' (768+n) (onIx_stop (by omega)) (.inr (.inl rfl)) ?_ ?_
    ·rw [swI,if_neg (by decide),if_pos rfl,if_pos ⟨rfl,n0⟩,Int.toNat_natCast,show 769+n=1+(768+n) by omega]
    ·rw [evE_stop,if_pos n0]
   ·exact py_mk0 w0 v1 v2 v3 v4 S hc fp PB B eb eo f t a 2 n v w hI he t1 t2 (swI_off (by omega) (fun q=>n0 q.2.2) (by omega)) (bad (by rw [evE_stop,if_neg n0]) (by decide)) (by decide)
  by_cases k3:k=3
  ·subst k3
   by_cases n0:0≤n∧n<(S.cs.length:Int)
   ·obtain ⟨n,rfl⟩:=Int.eq_ofNat_of_zero_le n0.1
    have hl:=(sp_lens hc).2.2.2
    refine some' (848+n) (onIx_coupler (by omega)) (.inr (.inr rfl)) ?_ ?_
    ·rw [swI,if_neg (by decide),if_neg (by decide),if_pos rfl,if_pos ⟨rfl,n0⟩,Int.toNat_natCast,show 849+n=1+(848+n) by omega]
    ·rw [evE_coupler,if_pos n0]
   ·exact py_mk0 w0 v1 v2 v3 v4 S hc fp PB B eb eo f t a 3 n v w hI he t1 t2 (swI_off (by omega) (by omega) (fun q=>n0 q.2.2)) (bad (by rw [evE_coupler,if_neg n0]) (by decide)) (by decide)
  have hs:swI S k 0 n=none:=swI_off (by omega) (by omega) (by omega)
  by_cases k4:k=4
  ·subst k4
   by_cases n0:n<0
   ·exact py_sh1 w0 v1 v2 v3 v4 S hc fp PB B eb eo f t a n v w hI he t1 t2 hs (bad (by rw [evE_shade,if_neg (by omega)]) (by decide)) n0
   by_cases n3:3<n
   ·exact py_sh2 w0 v1 v2 v3 v4 S hc fp PB B eb eo f t a n v w hI he t1 t2 hs (bad (by rw [evE_shade,if_neg (by omega)]) (by decide)) n3
   by_cases v0:v<0
   ·exact py_sh3 w0 v1 v2 v3 v4 S hc fp PB B eb eo f t a n v w hI he t1 t2 hs (bad (by rw [evE_shade,if_neg (by omega)]) (by decide)) (by omega) (by omega) v0
   by_cases v9:127<v
   ·exact py_sh4 w0 v1 v2 v3 v4 S hc fp PB B eb eo f t a n v w hI he t1 t2 hs (bad (by rw [evE_shade,if_neg (by omega)]) (by decide)) (by omega) (by omega) v9
   obtain ⟨m,rfl⟩:=Int.eq_ofNat_of_zero_le (show 0≤n by omega)
   have h0:evE S (a,4,0,(m:Int),v)=0:=by rw [evE_shade,if_pos (by omega)]
   by_cases q:f (4,0,(m:Int))=v
   ·exact py_shs w0 v1 v2 v3 v4 S hc fp PB B eb eo f t a v m w hI he t1 t2 hs (by rw [good h0 (by decide),if_pos q];decide) (by omega) (by omega) q
   ·exact py_shp w0 v1 v2 v3 v4 S hc fp PB B eb eo f t a v m w hI he t1 t2 hs (by rw [good h0 (by decide),if_neg q]) (onS_set f (x:=(a,4,0,(m:Int),v)) (by simp only;decide)) (by omega) (by omega) q
  by_cases k5:k=5
  ·subst k5
   by_cases v0:v=0
   ·subst v0
    by_cases n0:n<0
    ·exact py_mk1 w0 v1 v2 v3 v4 S hc fp PB B eb eo f t a n 0 w hI he t1 t2 hs (bad (by rw [evE_mark,if_neg (by omega)]) (by decide)) n0
    by_cases n9:9999<n
    ·exact py_mk2 w0 v1 v2 v3 v4 S hc fp PB B eb eo f t a n 0 w hI he t1 t2 hs (bad (by rw [evE_mark,if_neg (by omega)]) (by decide)) (by omega) n9
    exact py_mkg w0 v1 v2 v3 v4 S hc fp PB B eb eo f t a n w hI he t1 t2 hs (by rw [evR_good (by simp only;exact htk) (by rw [evE_mark,if_pos (by omega)]),if_neg (fun q=>q.1 rfl)]) (by omega) (by omega)
   ·have hev:=bad (evE_mark0 v0) (show (2:Int)≠0 by decide)
    by_cases n0:n<0
    ·exact py_mk1 w0 v1 v2 v3 v4 S hc fp PB B eb eo f t a n v w hI he t1 t2 hs hev n0
    by_cases n9:9999<n
    ·exact py_mk2 w0 v1 v2 v3 v4 S hc fp PB B eb eo f t a n v w hI he t1 t2 hs hev (by omega) n9
    exact py_mk3 w0 v1 v2 v3 v4 S hc fp PB B eb eo f t a n v w hI he t1 t2 hs hev (by omega) (by omega) v0
  exact py_mk0 w0 v1 v2 v3 v4 S hc fp PB B eb eo f t a k n v w hI he t1 t2 hs (bad (evE_out (by omega)) (by decide)) ⟨k4,k5⟩
 ·exact py_nd w0 v1 v2 v3 v4 S hc fp PB B eb eo f t a k d n v w hI he t1 t2 (swI_off (fun q=>k1 q.1) (fun q=>d0 q.2.1) (fun q=>d0 q.2.1)) (bad (evE_div k1 d0) (by decide)) d0
end Go.Proofs.YthhfmppealmblaaGreatDoor
