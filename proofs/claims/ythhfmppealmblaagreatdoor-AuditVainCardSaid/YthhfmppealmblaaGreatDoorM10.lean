/-
  A part of the proof: AE4.
-/
import Derived.Test.YthhfmppealmblaaGreatDoorM08
import Derived.Test.YthhfmppealmblaaGreatDoorM09
namespace Go.Proofs.YthhfmppealmblaaGreatDoor
open Go.RowKit
def evR (S:Sp) (tick:Int) (g:Th→Int) (x:Ev):Int :=
 if x.1<tick∨100000000<x.1 then 7 else if evE S x=0 then (if x.2.1≠5∧g (thing x)=x.2.2.2.2 then 8 else 0) else evE S x
theorem evR_tick {S:Sp} {tick:Int} {g:Th→Int} {x:Ev} (h:x.1<tick∨100000000<x.1):evR S tick g x=7:=by unfold evR;rw [if_pos h]
theorem evR_bad {S:Sp} {tick:Int} {g:Th→Int} {x:Ev} (h:¬ (x.1<tick∨100000000<x.1)) {e:Int} (he:evE S x=e) (h0:e≠0):evR S tick g x=e:=by unfold evR;rw [if_neg h,he,if_neg h0]
theorem evR_good {S:Sp} {tick:Int} {g:Th→Int} {x:Ev} (h:¬ (x.1<tick∨100000000<x.1)) (he:evE S x=0):evR S tick g x=if x.2.1≠5∧g (thing x)=x.2.2.2.2 then 8 else 0:=by unfold evR;rw [if_neg h,if_pos he]
set_option maxRecDepth 100000 in
set_option maxHeartbeats 12800000 in
theorem re_stop (a1 a2 a3 a4:Option Addr) (c1 c2 c3 c4:Nat) (S:Sp) (hok:SpOk S) (cs:Array Value) (g:Th→Int) (hon:OnI g cs) (hg:Bin g) (tick a:Int)  (n:Nat) (v:Int) (w:World) (h0:0≤a∧tick≤a∧a≤100000000) (hn:(n:Int)<(S.ss.length:Int)) (hv:0≤v∧v≤1) (hp:Placed (a,2,0,(n:Int),v)) :
  Calls Tryz.prog 81 #[.agg #[.slice a1 S.ds.length c1,.slice a2 S.rs.length c2,.slice a3 S.ss.length c3,.slice a4 S.cs.length c4],.agg #[.int .i64 a,.int .i64 2,.int .i64 0,.int .i64 n,.int .i64 v],.int .i64 tick,.agg cs] w (NumR (evR S tick g (a,2,0,(n:Int),v)) w):=by
 obtain ⟨a0,at1,a1e8⟩:=h0
 obtain ⟨hv0,hv1⟩:=hv
 have q1:=hok.d
 have q2:=hok.s
 have q3:=hok.c
 have HP:=Lib.hid hp
 have HON:=Lib.hid hon
 have HG:=Lib.hid hg
 obtain ⟨gv,hgv⟩:∃ gv,g (thing (a,2,0,(n:Int),v))=gv:=⟨_,rfl⟩
 have HGV:=Lib.hid hgv
 have HE:=Lib.hid (evR_good (S:=S) (tick:=tick) (g:=g) (x:=(a,2,0,(n:Int),v)) (by simp only;omega) (by rw [evE_stop,if_pos ⟨by omega,hn⟩,if_pos ⟨hv0,hv1⟩]))
 rw [hgv] at HE
 have HX:=Lib.hid ((Blk.new (w.alloc (.cells #[.slice a1 S.ds.length c1,.slice a2 S.rs.length c2,.slice a3 S.ss.length c3,.slice a4 S.cs.length c4] 27)) 42 #[.int .i64 a,.int .i64 2,.int .i64 0,.int .i64 n,.int .i64 v]).alloc (.cells cs 119))
 have HO:=Lib.hid (Blk.new ((w.alloc (.cells #[.slice a1 S.ds.length c1,.slice a2 S.rs.length c2,.slice a3 S.ss.length c3,.slice a4 S.cs.length c4] 27)).alloc (.cells #[.int .i64 a,.int .i64 2,.int .i64 0,.int .i64 n,.int .i64 v] 42)) 119 cs)
 have HB:=Lib.hid (show Below w.heap.size w (((w.alloc (.cells #[.slice a1 S.ds.length c1,.slice a2 S.rs.length c2,.slice a3 S.ss.length c3,.slice a4 S.cs.length c4] 27)).alloc (.cells #[.int .i64 a,.int .i64 2,.int .i64 0,.int .i64 n,.int .i64 v] 42)).alloc (.cells cs 119)) from (below_two w _ _).alloc (by simp;omega) _)
 rw [World.size_alloc] at HX
 rw [World.size_alloc,World.size_alloc] at HO
 clear hok hp hon hg hgv
 go_enter Tryz.func81,Tryz.ntmps81
 go_upto_region 21 with fail
 generalize ((w.alloc (.cells #[.slice a1 S.ds.length c1,.slice a2 S.rs.length c2,.slice a3 S.ss.length c3,.slice a4 S.cs.length c4] 27)).alloc (.cells #[.int .i64 a,.int .i64 2,.int .i64 0,.int .i64 n,.int .i64 v] 42)).alloc (.cells cs 119)=W at *
 have hmxx:Tryz.prog.follows .mixedOrders=true:=by kernel_rfl
 refine wp_plain (wp_region_flow (fun x=>{ tmps:=#[.agg #[.slice a1 S.ds.length c1,.slice a2 S.rs.length c2,.slice a3 S.ss.length c3,.slice a4 S.cs.length c4],.agg #[.int .i64 a,.int .i64 2,.int .i64 0,.int .i64 (n:Int),.int .i64 v],.int .i64 tick,.agg cs,.pointer (some ⟨w.heap.size,0,none⟩),.pointer (some ⟨w.heap.size+1,0,none⟩),undef,.pointer (some ⟨w.heap.size+1+1,0,none⟩),.int .i64 0,.int .i64 1,.pointer (some ⟨w.heap.size+1,0,none⟩),.int .i64 a,.bool (decide (a<0)),.bool (decide (a<0)),.pointer (some ⟨w.heap.size+1,0,none⟩),.int .i64 a,.bool (decide (100000000<a)),.bool (decide (a<0) || decide (100000000<a)),.bool (decide (a<0) || decide (100000000<a)),.pointer (some ⟨w.heap.size+1,0,none⟩),.int .i64 a,.int .i64 tick,.bool (decide (a<tick)),.bool (decide (a<0) || decide (100000000<a) || decide (a<tick)),.pointer (some ⟨w.heap.size+1,1,none⟩),.int .i64 2,.bool false,.bool false,.pointer (some ⟨w.heap.size+1,1,none⟩),.int .i64 2,.bool false,.bool false,.bool false,.pointer (some ⟨w.heap.size+1,1,none⟩),.int .i64 2,.bool true,.bool true,.pointer (some ⟨w.heap.size+1,2,none⟩),.int .i64 0,.bool false,.bool false,.bool false,.bool false,.pointer (some ⟨w.heap.size+1,1,none⟩),.int .i64 2,.bool false,.bool false,undef,undef,undef,.bool false,.bool false,.pointer (some ⟨w.heap.size+1,1,none⟩),.int .i64 2,.bool false,.bool false,undef,undef,undef,undef,undef,undef,undef,undef,undef,undef,undef,.bool false,.bool false,.pointer (some ⟨w.heap.size+1,1,none⟩),.int .i64 2,.bool true,.bool true,.pointer (some ⟨w.heap.size+1,3,none⟩),.int .i64 (n:Int),.bool (decide ((n:Int)<0)),.bool (decide ((n:Int)<0)),.pointer (some ⟨w.heap.size+1,3,none⟩),.int .i64 (n:Int),.pointer (some ⟨w.heap.size,2,none⟩),.slice a3 S.ss.length c3,.int .i64 (S.ss.length:Int),.bool false,.bool (decide ((n:Int)<0)),.bool (decide ((n:Int)<0)),.bool (decide ((n:Int)<0)),.bool (decide ((n:Int)<0)),.pointer (some ⟨w.heap.size+1,1,none⟩),.int .i64 2,.bool false,.bool false,undef,undef,undef,undef,undef,undef,undef,undef,undef,undef,undef,.bool false,.bool (decide ((n:Int)<0)),.pointer (some ⟨w.heap.size+1,1,none⟩),.int .i64 2,.bool false,.bool false,undef,undef,undef,undef,undef,undef,undef,undef,undef,undef,undef,undef,undef,undef,undef,undef,undef,undef,undef,undef,undef,undef,.bool false,.bool false,undef,undef,undef,undef,undef,undef,undef,undef,.bool false,.bool false,undef,undef,undef,undef,undef,undef,undef,undef,.pointer (some ⟨w.heap.size+1,4,none⟩),.int .i64 v,.bool (decide (v<0)),.bool (decide (v<0)),.pointer (some ⟨w.heap.size+1,4,none⟩),.int .i64 v,.int .i64 1,.bool (decide (1<v)),.bool (decide (v<0) || decide (1<v)),(x 159),(x 160),(x 161),(x 162),(x 163),(x 164),(x 165),(x 166),(x 167),(x 168),(x 169)],defers:=[] }) (fun i v' z=>match i with
  | 0=>v' = .pointer (some ⟨w.heap.size+1,1,none⟩)
  | 1=>v' = .int .i64 2
  | 2=>v' = .bool true
  | 3=>v' = .bool true
  | 4=>v' = .agg cs
  | 5=>v' = .agg #[.int .i64 a,.int .i64 2,.int .i64 0,.int .i64 n,.int .i64 v]
  | 6=>v' = .int .i64 gv
  | 7=>v' = .pointer (some ⟨w.heap.size+1,4,none⟩)
  | 8=>v' = .int .i64 v
  | 9=>v' = .bool (gv==v)
  | 10=>v' = .bool (gv==v)
  | _=>True) (fun n=>(#[.agg #[.slice a1 S.ds.length c1,.slice a2 S.rs.length c2,.slice a3 S.ss.length c3,.slice a4 S.cs.length c4],.agg #[.int .i64 a,.int .i64 2,.int .i64 0,.int .i64 (n:Int),.int .i64 v],.int .i64 tick,.agg cs,.pointer (some ⟨w.heap.size,0,none⟩),.pointer (some ⟨w.heap.size+1,0,none⟩),undef,.pointer (some ⟨w.heap.size+1+1,0,none⟩),.int .i64 0,.int .i64 1,.pointer (some ⟨w.heap.size+1,0,none⟩),.int .i64 a,.bool (decide (a<0)),.bool (decide (a<0)),.pointer (some ⟨w.heap.size+1,0,none⟩),.int .i64 a,.bool (decide (100000000<a)),.bool (decide (a<0) || decide (100000000<a)),.bool (decide (a<0) || decide (100000000<a)),.pointer (some ⟨w.heap.size+1,0,none⟩),.int .i64 a,.int .i64 tick,.bool (decide (a<tick)),.bool (decide (a<0) || decide (100000000<a) || decide (a<tick)),.pointer (some ⟨w.heap.size+1,1,none⟩),.int .i64 2,.bool false,.bool false,.pointer (some ⟨w.heap.size+1,1,none⟩),.int .i64 2,.bool false,.bool false,.bool false,.pointer (some ⟨w.heap.size+1,1,none⟩),.int .i64 2,.bool true,.bool true,.pointer (some ⟨w.heap.size+1,2,none⟩),.int .i64 0,.bool false,.bool false,.bool false,.bool false,.pointer (some ⟨w.heap.size+1,1,none⟩),.int .i64 2,.bool false,.bool false,undef,undef,undef,.bool false,.bool false,.pointer (some ⟨w.heap.size+1,1,none⟩),.int .i64 2,.bool false,.bool false,undef,undef,undef,undef,undef,undef,undef,undef,undef,undef,undef,.bool false,.bool false,.pointer (some ⟨w.heap.size+1,1,none⟩),.int .i64 2,.bool true,.bool true,.pointer (some ⟨w.heap.size+1,3,none⟩),.int .i64 (n:Int),.bool (decide ((n:Int)<0)),.bool (decide ((n:Int)<0)),.pointer (some ⟨w.heap.size+1,3,none⟩),.int .i64 (n:Int),.pointer (some ⟨w.heap.size,2,none⟩),.slice a3 S.ss.length c3,.int .i64 (S.ss.length:Int),.bool false,.bool (decide ((n:Int)<0)),.bool (decide ((n:Int)<0)),.bool (decide ((n:Int)<0)),.bool (decide ((n:Int)<0)),.pointer (some ⟨w.heap.size+1,1,none⟩),.int .i64 2,.bool false,.bool false,undef,undef,undef,undef,undef,undef,undef,undef,undef,undef,undef,.bool false,.bool (decide ((n:Int)<0)),.pointer (some ⟨w.heap.size+1,1,none⟩),.int .i64 2,.bool false,.bool false,undef,undef,undef,undef,undef,undef,undef,undef,undef,undef,undef,undef,undef,undef,undef,undef,undef,undef,undef,undef,undef,undef,.bool false,.bool false,undef,undef,undef,undef,undef,undef,undef,undef,.bool false,.bool false,undef,undef,undef,undef,undef,undef,undef,undef,.pointer (some ⟨w.heap.size+1,4,none⟩),.int .i64 v,.bool (decide (v<0)),.bool (decide (v<0)),.pointer (some ⟨w.heap.size+1,4,none⟩),.int .i64 v,.int .i64 1,.bool (decide (1<v)),.bool (decide (v<0) || decide (1<v)),undef,undef,undef,undef,undef,undef,undef,undef,undef,undef,undef]:Array Value).getD n undef) rfl hmxx (by kernel_rfl) (by kernel_rfl) ?mono ?put ?step ?done)
 case mono =>
  intro i v' z z' h hb
  match i,h with
  | 0,h=>exact h
  | 1,h=>exact h
  | 2,h=>exact h
  | 3,h=>exact h
  | 4,h=>exact h
  | 5,h=>exact h
  | 6,h=>exact h
  | 7,h=>exact h
  | 8,h=>exact h
  | 9,h=>exact h
  | 10,h=>exact h
  | _+11,_=>trivial
 case put =>
  intro i o d ho hd x v'
  match i,ho with
  | 0,ho=>obtain rfl:=Option.some.inj (show some _=some o from ho);obtain rfl:=Option.some.inj (show some _=some d from hd);rfl
  | 1,ho=>obtain rfl:=Option.some.inj (show some _=some o from ho);obtain rfl:=Option.some.inj (show some _=some d from hd);rfl
  | 2,ho=>obtain rfl:=Option.some.inj (show some _=some o from ho);obtain rfl:=Option.some.inj (show some _=some d from hd);rfl
  | 3,ho=>obtain rfl:=Option.some.inj (show some _=some o from ho);obtain rfl:=Option.some.inj (show some _=some d from hd);rfl
  | 4,ho=>obtain rfl:=Option.some.inj (show some _=some o from ho);obtain rfl:=Option.some.inj (show some _=some d from hd);rfl
  | 5,ho=>obtain rfl:=Option.some.inj (show some _=some o from ho);obtain rfl:=Option.some.inj (show some _=some d from hd);rfl
  | 6,ho=>obtain rfl:=Option.some.inj (show some _=some o from ho);obtain rfl:=Option.some.inj (show some _=some d from hd);rfl
  | 7,ho=>obtain rfl:=Option.some.inj (show some _=some o from ho);obtain rfl:=Option.some.inj (show some _=some d from hd);rfl
  | 8,ho=>obtain rfl:=Option.some.inj (show some _=some o from ho);obtain rfl:=Option.some.inj (show some _=some d from hd);rfl
  | 9,ho=>obtain rfl:=Option.some.inj (show some _=some o from ho);obtain rfl:=Option.some.inj (show some _=some d from hd);rfl
  | 10,ho=>obtain rfl:=Option.some.inj (show some _=some o from ho);obtain rfl:=Option.some.inj (show some _=some d from hd);rfl
  | n+11,ho=>exact absurd (Array.getElem?_eq_some_iff.1 ho).1 (by simp)
 case step =>
  intro i o ho x z hz hdep K hK
  match i,ho with
  | 0,ho =>
   obtain rfl:=Option.some.inj (show some _=some o from ho)
   clear hdep ho
   dsimp only at hK ⊢
   refine wpOp_step rfl (fun K2 hK2=>?_)
   go_simp
   exact hK2 _ _ (hK _ _ (Below.refl _ _) rfl)
  | 1,ho =>
   obtain rfl:=Option.some.inj (show some _=some o from ho)
   have q0:x 159 = .pointer (some ⟨w.heap.size+1,1,none⟩):=hdep 0 (by kernel_rfl) _ _ rfl rfl
   clear hdep ho
   dsimp only at hK ⊢
   simp only [q0] at hK ⊢
   have x1:z.cell? ⟨w.heap.size+1,1,none⟩=some (.int .i64 2):=(HX.out.below hz).cell 1
   refine wpOp_step rfl (fun K2 hK2=>?_)
   go_simp
   exact hK2 _ _ (hK _ _ (Below.refl _ _) rfl)
  | 2,ho =>
   obtain rfl:=Option.some.inj (show some _=some o from ho)
   have q1:x 160 = .int .i64 2:=hdep 1 (by kernel_rfl) _ _ rfl rfl
   clear hdep ho
   dsimp only at hK ⊢
   simp only [q1] at hK ⊢
   refine wpOp_step rfl (fun K2 hK2=>?_)
   go_simp
   exact hK2 _ _ (hK _ _ (Below.refl _ _) rfl)
  | 3,ho =>
   obtain rfl:=Option.some.inj (show some _=some o from ho)
   have q2:x 161 = .bool true:=hdep 2 (by kernel_rfl) _ _ rfl rfl
   clear hdep ho
   dsimp only at hK ⊢
   simp only [q2] at hK ⊢
   refine wpOp_step rfl (fun K2 hK2=>?_)
   go_simp
   exact hK2 _ _ (hK _ _ (Below.refl _ _) rfl)
  | 4,ho =>
   obtain rfl:=Option.some.inj (show some _=some o from ho)
   have q3:x 162 = .bool true:=hdep 3 (by kernel_rfl) _ _ rfl rfl
   clear hdep ho
   dsimp only at hK ⊢
   simp only [q3] at hK ⊢
   refine wpOp_step rfl (fun K2 hK2=>?_)
   rw [if_pos (by rfl)]
   refine wp_load_row 119 _ rfl (w.heap.size+1+1) rfl 119 cs (0,0) _ (HO.out.below hz) Tryz.underlying119 rfl (onB_info HON.out.size) ?_
   exact hK2 _ _ (hK _ _ (Below.refl _ _) rfl)
  | 5,ho =>
   obtain rfl:=Option.some.inj (show some _=some o from ho)
   have q3:x 162 = .bool true:=hdep 3 (by kernel_rfl) _ _ rfl rfl
   clear hdep ho
   dsimp only at hK ⊢
   simp only [q3] at hK ⊢
   have x0:z.cell? ⟨w.heap.size+1,0,none⟩=some (.int .i64 a):=(HX.out.below hz).cell 0
   have x1:z.cell? ⟨w.heap.size+1,1,none⟩=some (.int .i64 2):=(HX.out.below hz).cell 1
   have x2:z.cell? ⟨w.heap.size+1,2,none⟩=some (.int .i64 0):=(HX.out.below hz).cell 2
   have x3:z.cell? ⟨w.heap.size+1,3,none⟩=some (.int .i64 n):=(HX.out.below hz).cell 3
   have x4:z.cell? ⟨w.heap.size+1,4,none⟩=some (.int .i64 v):=(HX.out.below hz).cell 4
   refine wpOp_step rfl (fun K2 hK2=>?_)
   go_simp
   exact hK2 _ _ (hK _ _ (Below.refl _ _) rfl)
  | 6,ho =>
   obtain rfl:=Option.some.inj (show some _=some o from ho)
   have q3:x 162 = .bool true:=hdep 3 (by kernel_rfl) _ _ rfl rfl
   have q4:x 163 = .agg cs:=hdep 4 (by kernel_rfl) _ _ rfl rfl
   have q5:x 164 = .agg #[.int .i64 a,.int .i64 2,.int .i64 0,.int .i64 n,.int .i64 v]:=hdep 5 (by kernel_rfl) _ _ rfl rfl
   clear hdep ho
   dsimp only at hK ⊢
   simp only [q3,q4,q5] at hK ⊢
   refine wpOp_step rfl (fun K2 hK2=>?_)
   go_simp
   refine (value_any cs g HON.out HG.out (a,2,0,(n:Int),v) HP.out (by simp) _).mono ?_
   rintro e z1 ⟨rfl,hb⟩
   exact hK2 _ _ (hK _ _ hb (by rw [HGV.out]))
  | 7,ho =>
   obtain rfl:=Option.some.inj (show some _=some o from ho)
   have q3:x 162 = .bool true:=hdep 3 (by kernel_rfl) _ _ rfl rfl
   clear hdep ho
   dsimp only at hK ⊢
   simp only [q3] at hK ⊢
   refine wpOp_step rfl (fun K2 hK2=>?_)
   go_simp
   exact hK2 _ _ (hK _ _ (Below.refl _ _) rfl)
  | 8,ho =>
   obtain rfl:=Option.some.inj (show some _=some o from ho)
   have q3:x 162 = .bool true:=hdep 3 (by kernel_rfl) _ _ rfl rfl
   have q7:x 166 = .pointer (some ⟨w.heap.size+1,4,none⟩):=hdep 7 (by kernel_rfl) _ _ rfl rfl
   clear hdep ho
   dsimp only at hK ⊢
   simp only [q3,q7] at hK ⊢
   have x4:z.cell? ⟨w.heap.size+1,4,none⟩=some (.int .i64 v):=(HX.out.below hz).cell 4
   refine wpOp_step rfl (fun K2 hK2=>?_)
   go_simp
   exact hK2 _ _ (hK _ _ (Below.refl _ _) rfl)
  | 9,ho =>
   obtain rfl:=Option.some.inj (show some _=some o from ho)
   have q3:x 162 = .bool true:=hdep 3 (by kernel_rfl) _ _ rfl rfl
   have q6:x 165 = .int .i64 gv:=hdep 6 (by kernel_rfl) _ _ rfl rfl
   have q8:x 167 = .int .i64 v:=hdep 8 (by kernel_rfl) _ _ rfl rfl
   clear hdep ho
   dsimp only at hK ⊢
   simp only [q3,q6,q8] at hK ⊢
   refine wpOp_step rfl (fun K2 hK2=>?_)
   go_simp
   exact hK2 _ _ (hK _ _ (Below.refl _ _) rfl)
  | 10,ho =>
   obtain rfl:=Option.some.inj (show some _=some o from ho)
   have q3:x 162 = .bool true:=hdep 3 (by kernel_rfl) _ _ rfl rfl
   have q9:x 168 = .bool (gv==v):=hdep 9 (by kernel_rfl) _ _ rfl rfl
   clear hdep ho
   dsimp only at hK ⊢
   simp only [q3,q9] at hK ⊢
   refine wpOp_step rfl (fun K2 hK2=>?_)
   go_simp
   exact hK2 _ _ (hK _ _ (Below.refl _ _) rfl)
  | n+11,ho=>exact absurd (Array.getElem?_eq_some_iff.1 ho).1 (by simp)
 case done =>
  intro x z hz hres
  have q10:x 169 = .bool (gv==v):=hres 10 _ _ rfl rfl
  have HZ:=Lib.hid (below_step HB.out hz)
  clear hres hz
  dsimp only
  simp only [q10]
  by_cases hvv:gv=v
  ·have hb2:(gv==v)=true:=beq_iff_eq.2 hvv
   rw [hb2]
   go_wp2
   go_ret
   exact numR (by rw [HE.out,if_pos ⟨by simp,hvv⟩]) HZ.out
  ·have hb2:(gv==v)=false:=beq_eq_false_iff_ne.2 hvv
   rw [hb2]
   go_wp2
   go_ret
   exact numR (by rw [HE.out,if_neg (fun q=>hvv q.2)]) HZ.out
set_option maxRecDepth 100000 in
set_option maxHeartbeats 12800000 in
theorem re_coupler (a1 a2 a3 a4:Option Addr) (c1 c2 c3 c4:Nat) (S:Sp) (hok:SpOk S) (cs:Array Value) (g:Th→Int) (hon:OnI g cs) (hg:Bin g) (tick a:Int)  (n:Nat) (v:Int) (w:World) (h0:0≤a∧tick≤a∧a≤100000000) (hn:(n:Int)<(S.cs.length:Int)) (hv:0≤v∧v≤1) (hp:Placed (a,3,0,(n:Int),v)) :
  Calls Tryz.prog 81 #[.agg #[.slice a1 S.ds.length c1,.slice a2 S.rs.length c2,.slice a3 S.ss.length c3,.slice a4 S.cs.length c4],.agg #[.int .i64 a,.int .i64 3,.int .i64 0,.int .i64 n,.int .i64 v],.int .i64 tick,.agg cs] w (NumR (evR S tick g (a,3,0,(n:Int),v)) w):=by
 obtain ⟨a0,at1,a1e8⟩:=h0
 obtain ⟨hv0,hv1⟩:=hv
 have q1:=hok.d
 have q2:=hok.s
 have q3:=hok.c
 have HP:=Lib.hid hp
 have HON:=Lib.hid hon
 have HG:=Lib.hid hg
 obtain ⟨gv,hgv⟩:∃ gv,g (thing (a,3,0,(n:Int),v))=gv:=⟨_,rfl⟩
 have HGV:=Lib.hid hgv
 have HE:=Lib.hid (evR_good (S:=S) (tick:=tick) (g:=g) (x:=(a,3,0,(n:Int),v)) (by simp only;omega) (by rw [evE_coupler,if_pos ⟨by omega,hn⟩,if_pos ⟨hv0,hv1⟩]))
 rw [hgv] at HE
 have HX:=Lib.hid ((Blk.new (w.alloc (.cells #[.slice a1 S.ds.length c1,.slice a2 S.rs.length c2,.slice a3 S.ss.length c3,.slice a4 S.cs.length c4] 27)) 42 #[.int .i64 a,.int .i64 3,.int .i64 0,.int .i64 n,.int .i64 v]).alloc (.cells cs 119))
 have HO:=Lib.hid (Blk.new ((w.alloc (.cells #[.slice a1 S.ds.length c1,.slice a2 S.rs.length c2,.slice a3 S.ss.length c3,.slice a4 S.cs.length c4] 27)).alloc (.cells #[.int .i64 a,.int .i64 3,.int .i64 0,.int .i64 n,.int .i64 v] 42)) 119 cs)
 have HB:=Lib.hid (show Below w.heap.size w (((w.alloc (.cells #[.slice a1 S.ds.length c1,.slice a2 S.rs.length c2,.slice a3 S.ss.length c3,.slice a4 S.cs.length c4] 27)).alloc (.cells #[.int .i64 a,.int .i64 3,.int .i64 0,.int .i64 n,.int .i64 v] 42)).alloc (.cells cs 119)) from (below_two w _ _).alloc (by simp;omega) _)
 rw [World.size_alloc] at HX
 rw [World.size_alloc,World.size_alloc] at HO
 clear hok hp hon hg hgv
 go_enter Tryz.func81,Tryz.ntmps81
 go_upto_region 21 with fail
 generalize ((w.alloc (.cells #[.slice a1 S.ds.length c1,.slice a2 S.rs.length c2,.slice a3 S.ss.length c3,.slice a4 S.cs.length c4] 27)).alloc (.cells #[.int .i64 a,.int .i64 3,.int .i64 0,.int .i64 n,.int .i64 v] 42)).alloc (.cells cs 119)=W at *
 have hmxx:Tryz.prog.follows .mixedOrders=true:=by kernel_rfl
 refine wp_plain (wp_region_flow (fun x=>{ tmps:=#[.agg #[.slice a1 S.ds.length c1,.slice a2 S.rs.length c2,.slice a3 S.ss.length c3,.slice a4 S.cs.length c4],.agg #[.int .i64 a,.int .i64 3,.int .i64 0,.int .i64 (n:Int),.int .i64 v],.int .i64 tick,.agg cs,.pointer (some ⟨w.heap.size,0,none⟩),.pointer (some ⟨w.heap.size+1,0,none⟩),undef,.pointer (some ⟨w.heap.size+1+1,0,none⟩),.int .i64 0,.int .i64 1,.pointer (some ⟨w.heap.size+1,0,none⟩),.int .i64 a,.bool (decide (a<0)),.bool (decide (a<0)),.pointer (some ⟨w.heap.size+1,0,none⟩),.int .i64 a,.bool (decide (100000000<a)),.bool (decide (a<0) || decide (100000000<a)),.bool (decide (a<0) || decide (100000000<a)),.pointer (some ⟨w.heap.size+1,0,none⟩),.int .i64 a,.int .i64 tick,.bool (decide (a<tick)),.bool (decide (a<0) || decide (100000000<a) || decide (a<tick)),.pointer (some ⟨w.heap.size+1,1,none⟩),.int .i64 3,.bool false,.bool false,.pointer (some ⟨w.heap.size+1,1,none⟩),.int .i64 3,.bool false,.bool false,.bool false,.pointer (some ⟨w.heap.size+1,1,none⟩),.int .i64 3,.bool true,.bool true,.pointer (some ⟨w.heap.size+1,2,none⟩),.int .i64 0,.bool false,.bool false,.bool false,.bool false,.pointer (some ⟨w.heap.size+1,1,none⟩),.int .i64 3,.bool false,.bool false,undef,undef,undef,.bool false,.bool false,.pointer (some ⟨w.heap.size+1,1,none⟩),.int .i64 3,.bool false,.bool false,undef,undef,undef,undef,undef,undef,undef,undef,undef,undef,undef,.bool false,.bool false,.pointer (some ⟨w.heap.size+1,1,none⟩),.int .i64 3,.bool false,.bool false,undef,undef,undef,undef,undef,undef,undef,undef,undef,undef,undef,.bool false,.bool false,.bool false,.pointer (some ⟨w.heap.size+1,1,none⟩),.int .i64 3,.bool true,.bool true,.pointer (some ⟨w.heap.size+1,3,none⟩),.int .i64 (n:Int),.bool (decide ((n:Int)<0)),.bool (decide ((n:Int)<0)),.pointer (some ⟨w.heap.size+1,3,none⟩),.int .i64 (n:Int),.pointer (some ⟨w.heap.size,3,none⟩),.slice a4 S.cs.length c4,.int .i64 (S.cs.length:Int),.bool false,.bool (decide ((n:Int)<0)),.bool (decide ((n:Int)<0)),.bool (decide ((n:Int)<0)),.pointer (some ⟨w.heap.size+1,1,none⟩),.int .i64 3,.bool false,.bool false,undef,undef,undef,undef,undef,undef,undef,undef,undef,undef,undef,undef,undef,undef,undef,undef,undef,undef,undef,undef,undef,undef,.bool false,.bool false,undef,undef,undef,undef,undef,undef,undef,undef,.bool false,.bool false,undef,undef,undef,undef,undef,undef,undef,undef,.pointer (some ⟨w.heap.size+1,4,none⟩),.int .i64 v,.bool (decide (v<0)),.bool (decide (v<0)),.pointer (some ⟨w.heap.size+1,4,none⟩),.int .i64 v,.int .i64 1,.bool (decide (1<v)),.bool (decide (v<0) || decide (1<v)),(x 159),(x 160),(x 161),(x 162),(x 163),(x 164),(x 165),(x 166),(x 167),(x 168),(x 169)],defers:=[] }) (fun i v' z=>match i with
  | 0=>v' = .pointer (some ⟨w.heap.size+1,1,none⟩)
  | 1=>v' = .int .i64 3
  | 2=>v' = .bool true
  | 3=>v' = .bool true
  | 4=>v' = .agg cs
  | 5=>v' = .agg #[.int .i64 a,.int .i64 3,.int .i64 0,.int .i64 n,.int .i64 v]
  | 6=>v' = .int .i64 gv
  | 7=>v' = .pointer (some ⟨w.heap.size+1,4,none⟩)
  | 8=>v' = .int .i64 v
  | 9=>v' = .bool (gv==v)
  | 10=>v' = .bool (gv==v)
  | _=>True) (fun n=>(#[.agg #[.slice a1 S.ds.length c1,.slice a2 S.rs.length c2,.slice a3 S.ss.length c3,.slice a4 S.cs.length c4],.agg #[.int .i64 a,.int .i64 3,.int .i64 0,.int .i64 (n:Int),.int .i64 v],.int .i64 tick,.agg cs,.pointer (some ⟨w.heap.size,0,none⟩),.pointer (some ⟨w.heap.size+1,0,none⟩),undef,.pointer (some ⟨w.heap.size+1+1,0,none⟩),.int .i64 0,.int .i64 1,.pointer (some ⟨w.heap.size+1,0,none⟩),.int .i64 a,.bool (decide (a<0)),.bool (decide (a<0)),.pointer (some ⟨w.heap.size+1,0,none⟩),.int .i64 a,.bool (decide (100000000<a)),.bool (decide (a<0) || decide (100000000<a)),.bool (decide (a<0) || decide (100000000<a)),.pointer (some ⟨w.heap.size+1,0,none⟩),.int .i64 a,.int .i64 tick,.bool (decide (a<tick)),.bool (decide (a<0) || decide (100000000<a) || decide (a<tick)),.pointer (some ⟨w.heap.size+1,1,none⟩),.int .i64 3,.bool false,.bool false,.pointer (some ⟨w.heap.size+1,1,none⟩),.int .i64 3,.bool false,.bool false,.bool false,.pointer (some ⟨w.heap.size+1,1,none⟩),.int .i64 3,.bool true,.bool true,.pointer (some ⟨w.heap.size+1,2,none⟩),.int .i64 0,.bool false,.bool false,.bool false,.bool false,.pointer (some ⟨w.heap.size+1,1,none⟩),.int .i64 3,.bool false,.bool false,undef,undef,undef,.bool false,.bool false,.pointer (some ⟨w.heap.size+1,1,none⟩),.int .i64 3,.bool false,.bool false,undef,undef,undef,undef,undef,undef,undef,undef,undef,undef,undef,.bool false,.bool false,.pointer (some ⟨w.heap.size+1,1,none⟩),.int .i64 3,.bool false,.bool false,undef,undef,undef,undef,undef,undef,undef,undef,undef,undef,undef,.bool false,.bool false,.bool false,.pointer (some ⟨w.heap.size+1,1,none⟩),.int .i64 3,.bool true,.bool true,.pointer (some ⟨w.heap.size+1,3,none⟩),.int .i64 (n:Int),.bool (decide ((n:Int)<0)),.bool (decide ((n:Int)<0)),.pointer (some ⟨w.heap.size+1,3,none⟩),.int .i64 (n:Int),.pointer (some ⟨w.heap.size,3,none⟩),.slice a4 S.cs.length c4,.int .i64 (S.cs.length:Int),.bool false,.bool (decide ((n:Int)<0)),.bool (decide ((n:Int)<0)),.bool (decide ((n:Int)<0)),.pointer (some ⟨w.heap.size+1,1,none⟩),.int .i64 3,.bool false,.bool false,undef,undef,undef,undef,undef,undef,undef,undef,undef,undef,undef,undef,undef,undef,undef,undef,undef,undef,undef,undef,undef,undef,.bool false,.bool false,undef,undef,undef,undef,undef,undef,undef,undef,.bool false,.bool false,undef,undef,undef,undef,undef,undef,undef,undef,.pointer (some ⟨w.heap.size+1,4,none⟩),.int .i64 v,.bool (decide (v<0)),.bool (decide (v<0)),.pointer (some ⟨w.heap.size+1,4,none⟩),.int .i64 v,.int .i64 1,.bool (decide (1<v)),.bool (decide (v<0) || decide (1<v)),undef,undef,undef,undef,undef,undef,undef,undef,undef,undef,undef]:Array Value).getD n undef) rfl hmxx (by kernel_rfl) (by kernel_rfl) ?mono ?put ?step ?done)
 case mono =>
  intro i v' z z' h hb
  match i,h with
  | 0,h=>exact h
  | 1,h=>exact h
  | 2,h=>exact h
  | 3,h=>exact h
  | 4,h=>exact h
  | 5,h=>exact h
  | 6,h=>exact h
  | 7,h=>exact h
  | 8,h=>exact h
  | 9,h=>exact h
  | 10,h=>exact h
  | _+11,_=>trivial
 case put =>
  intro i o d ho hd x v'
  match i,ho with
  | 0,ho=>obtain rfl:=Option.some.inj (show some _=some o from ho);obtain rfl:=Option.some.inj (show some _=some d from hd);rfl
  | 1,ho=>obtain rfl:=Option.some.inj (show some _=some o from ho);obtain rfl:=Option.some.inj (show some _=some d from hd);rfl
  | 2,ho=>obtain rfl:=Option.some.inj (show some _=some o from ho);obtain rfl:=Option.some.inj (show some _=some d from hd);rfl
  | 3,ho=>obtain rfl:=Option.some.inj (show some _=some o from ho);obtain rfl:=Option.some.inj (show some _=some d from hd);rfl
  | 4,ho=>obtain rfl:=Option.some.inj (show some _=some o from ho);obtain rfl:=Option.some.inj (show some _=some d from hd);rfl
  | 5,ho=>obtain rfl:=Option.some.inj (show some _=some o from ho);obtain rfl:=Option.some.inj (show some _=some d from hd);rfl
  | 6,ho=>obtain rfl:=Option.some.inj (show some _=some o from ho);obtain rfl:=Option.some.inj (show some _=some d from hd);rfl
  | 7,ho=>obtain rfl:=Option.some.inj (show some _=some o from ho);obtain rfl:=Option.some.inj (show some _=some d from hd);rfl
  | 8,ho=>obtain rfl:=Option.some.inj (show some _=some o from ho);obtain rfl:=Option.some.inj (show some _=some d from hd);rfl
  | 9,ho=>obtain rfl:=Option.some.inj (show some _=some o from ho);obtain rfl:=Option.some.inj (show some _=some d from hd);rfl
  | 10,ho=>obtain rfl:=Option.some.inj (show some _=some o from ho);obtain rfl:=Option.some.inj (show some _=some d from hd);rfl
  | n+11,ho=>exact absurd (Array.getElem?_eq_some_iff.1 ho).1 (by simp)
 case step =>
  intro i o ho x z hz hdep K hK
  match i,ho with
  | 0,ho =>
   obtain rfl:=Option.some.inj (show some _=some o from ho)
   clear hdep ho
   dsimp only at hK ⊢
   refine wpOp_step rfl (fun K2 hK2=>?_)
   go_simp
   exact hK2 _ _ (hK _ _ (Below.refl _ _) rfl)
  | 1,ho =>
   obtain rfl:=Option.some.inj (show some _=some o from ho)
   have q0:x 159 = .pointer (some ⟨w.heap.size+1,1,none⟩):=hdep 0 (by kernel_rfl) _ _ rfl rfl
   clear hdep ho
   dsimp only at hK ⊢
   simp only [q0] at hK ⊢
   have x1:z.cell? ⟨w.heap.size+1,1,none⟩=some (.int .i64 3):=(HX.out.below hz).cell 1
   refine wpOp_step rfl (fun K2 hK2=>?_)
   go_simp
   exact hK2 _ _ (hK _ _ (Below.refl _ _) rfl)
  | 2,ho =>
   obtain rfl:=Option.some.inj (show some _=some o from ho)
   have q1:x 160 = .int .i64 3:=hdep 1 (by kernel_rfl) _ _ rfl rfl
   clear hdep ho
   dsimp only at hK ⊢
   simp only [q1] at hK ⊢
   refine wpOp_step rfl (fun K2 hK2=>?_)
   go_simp
   exact hK2 _ _ (hK _ _ (Below.refl _ _) rfl)
  | 3,ho =>
   obtain rfl:=Option.some.inj (show some _=some o from ho)
   have q2:x 161 = .bool true:=hdep 2 (by kernel_rfl) _ _ rfl rfl
   clear hdep ho
   dsimp only at hK ⊢
   simp only [q2] at hK ⊢
   refine wpOp_step rfl (fun K2 hK2=>?_)
   go_simp
   exact hK2 _ _ (hK _ _ (Below.refl _ _) rfl)
  | 4,ho =>
   obtain rfl:=Option.some.inj (show some _=some o from ho)
   have q3:x 162 = .bool true:=hdep 3 (by kernel_rfl) _ _ rfl rfl
   clear hdep ho
   dsimp only at hK ⊢
   simp only [q3] at hK ⊢
   refine wpOp_step rfl (fun K2 hK2=>?_)
   rw [if_pos (by rfl)]
   refine wp_load_row 119 _ rfl (w.heap.size+1+1) rfl 119 cs (0,0) _ (HO.out.below hz) Tryz.underlying119 rfl (onB_info HON.out.size) ?_
   exact hK2 _ _ (hK _ _ (Below.refl _ _) rfl)
  | 5,ho =>
   obtain rfl:=Option.some.inj (show some _=some o from ho)
   have q3:x 162 = .bool true:=hdep 3 (by kernel_rfl) _ _ rfl rfl
   clear hdep ho
   dsimp only at hK ⊢
   simp only [q3] at hK ⊢
   have x0:z.cell? ⟨w.heap.size+1,0,none⟩=some (.int .i64 a):=(HX.out.below hz).cell 0
   have x1:z.cell? ⟨w.heap.size+1,1,none⟩=some (.int .i64 3):=(HX.out.below hz).cell 1
   have x2:z.cell? ⟨w.heap.size+1,2,none⟩=some (.int .i64 0):=(HX.out.below hz).cell 2
   have x3:z.cell? ⟨w.heap.size+1,3,none⟩=some (.int .i64 n):=(HX.out.below hz).cell 3
   have x4:z.cell? ⟨w.heap.size+1,4,none⟩=some (.int .i64 v):=(HX.out.below hz).cell 4
   refine wpOp_step rfl (fun K2 hK2=>?_)
   go_simp
   exact hK2 _ _ (hK _ _ (Below.refl _ _) rfl)
  | 6,ho =>
   obtain rfl:=Option.some.inj (show some _=some o from ho)
   have q3:x 162 = .bool true:=hdep 3 (by kernel_rfl) _ _ rfl rfl
   have q4:x 163 = .agg cs:=hdep 4 (by kernel_rfl) _ _ rfl rfl
   have q5:x 164 = .agg #[.int .i64 a,.int .i64 3,.int .i64 0,.int .i64 n,.int .i64 v]:=hdep 5 (by kernel_rfl) _ _ rfl rfl
   clear hdep ho
   dsimp only at hK ⊢
   simp only [q3,q4,q5] at hK ⊢
   refine wpOp_step rfl (fun K2 hK2=>?_)
   go_simp
   refine (value_any cs g HON.out HG.out (a,3,0,(n:Int),v) HP.out (by simp) _).mono ?_
   rintro e z1 ⟨rfl,hb⟩
   exact hK2 _ _ (hK _ _ hb (by rw [HGV.out]))
  | 7,ho =>
   obtain rfl:=Option.some.inj (show some _=some o from ho)
   have q3:x 162 = .bool true:=hdep 3 (by kernel_rfl) _ _ rfl rfl
   clear hdep ho
   dsimp only at hK ⊢
   simp only [q3] at hK ⊢
   refine wpOp_step rfl (fun K2 hK2=>?_)
   go_simp
   exact hK2 _ _ (hK _ _ (Below.refl _ _) rfl)
  | 8,ho =>
   obtain rfl:=Option.some.inj (show some _=some o from ho)
   have q3:x 162 = .bool true:=hdep 3 (by kernel_rfl) _ _ rfl rfl
   have q7:x 166 = .pointer (some ⟨w.heap.size+1,4,none⟩):=hdep 7 (by kernel_rfl) _ _ rfl rfl
   clear hdep ho
   dsimp only at hK ⊢
   simp only [q3,q7] at hK ⊢
   have x4:z.cell? ⟨w.heap.size+1,4,none⟩=some (.int .i64 v):=(HX.out.below hz).cell 4
   refine wpOp_step rfl (fun K2 hK2=>?_)
   go_simp
   exact hK2 _ _ (hK _ _ (Below.refl _ _) rfl)
  | 9,ho =>
   obtain rfl:=Option.some.inj (show some _=some o from ho)
   have q3:x 162 = .bool true:=hdep 3 (by kernel_rfl) _ _ rfl rfl
   have q6:x 165 = .int .i64 gv:=hdep 6 (by kernel_rfl) _ _ rfl rfl
   have q8:x 167 = .int .i64 v:=hdep 8 (by kernel_rfl) _ _ rfl rfl
   clear hdep ho
   dsimp only at hK ⊢
   simp only [q3,q6,q8] at hK ⊢
   refine wpOp_step rfl (fun K2 hK2=>?_)
   go_simp
   exact hK2 _ _ (hK _ _ (Below.refl _ _) rfl)
  | 10,ho =>
   obtain rfl:=Option.some.inj (show some _=some o from ho)
   have q3:x 162 = .bool true:=hdep 3 (by kernel_rfl) _ _ rfl rfl
   have q9:x 168 = .bool (gv==v):=hdep 9 (by kernel_rfl) _ _ rfl rfl
   clear hdep ho
   dsimp only at hK ⊢
   simp only [q3,q9] at hK ⊢
   refine wpOp_step rfl (fun K2 hK2=>?_)
   go_simp
   exact hK2 _ _ (hK _ _ (Below.refl _ _) rfl)
  | n+11,ho=>exact absurd (Array.getElem?_eq_some_iff.1 ho).1 (by simp)
 case done =>
  intro x z hz hres
  have q10:x 169 = .bool (gv==v):=hres 10 _ _ rfl rfl
  have HZ:=Lib.hid (below_step HB.out hz)
  clear hres hz
  dsimp only
  simp only [q10]
  by_cases hvv:gv=v
  ·have hb2:(gv==v)=true:=beq_iff_eq.2 hvv
   rw [hb2]
   go_wp2
   go_ret
   exact numR (by rw [HE.out,if_pos ⟨by simp,hvv⟩]) HZ.out
  ·have hb2:(gv==v)=false:=beq_eq_false_iff_ne.2 hvv
   rw [hb2]
   go_wp2
   go_ret
   exact numR (by rw [HE.out,if_neg (fun q=>hvv q.2)]) HZ.out
set_option maxRecDepth 100000 in
set_option maxHeartbeats 12800000 in
theorem re_shade (a1 a2 a3 a4:Option Addr) (c1 c2 c3 c4:Nat) (S:Sp) (hok:SpOk S) (cs:Array Value) (g:Th→Int) (hon:OnI g cs) (hg:Bin g) (tick a:Int)  (n:Nat) (v:Int) (w:World) (h0:0≤a∧tick≤a∧a≤100000000) (hn:(n:Int)≤3) (hv:0≤v∧v≤127) (hp:Placed (a,4,0,(n:Int),v)) :
  Calls Tryz.prog 81 #[.agg #[.slice a1 S.ds.length c1,.slice a2 S.rs.length c2,.slice a3 S.ss.length c3,.slice a4 S.cs.length c4],.agg #[.int .i64 a,.int .i64 4,.int .i64 0,.int .i64 n,.int .i64 v],.int .i64 tick,.agg cs] w (NumR (evR S tick g (a,4,0,(n:Int),v)) w):=by
 obtain ⟨a0,at1,a1e8⟩:=h0
 obtain ⟨hv0,hv1⟩:=hv
 have q1:=hok.d
 have q2:=hok.s
 have q3:=hok.c
 have HP:=Lib.hid hp
 have HON:=Lib.hid hon
 have HG:=Lib.hid hg
 obtain ⟨gv,hgv⟩:∃ gv,g (thing (a,4,0,(n:Int),v))=gv:=⟨_,rfl⟩
 have HGV:=Lib.hid hgv
 have HE:=Lib.hid (evR_good (S:=S) (tick:=tick) (g:=g) (x:=(a,4,0,(n:Int),v)) (by simp only;omega) (by rw [evE_shade,if_pos ⟨by omega,hn,hv0,hv1⟩]))
 rw [hgv] at HE
 have HX:=Lib.hid ((Blk.new (w.alloc (.cells #[.slice a1 S.ds.length c1,.slice a2 S.rs.length c2,.slice a3 S.ss.length c3,.slice a4 S.cs.length c4] 27)) 42 #[.int .i64 a,.int .i64 4,.int .i64 0,.int .i64 n,.int .i64 v]).alloc (.cells cs 119))
 have HO:=Lib.hid (Blk.new ((w.alloc (.cells #[.slice a1 S.ds.length c1,.slice a2 S.rs.length c2,.slice a3 S.ss.length c3,.slice a4 S.cs.length c4] 27)).alloc (.cells #[.int .i64 a,.int .i64 4,.int .i64 0,.int .i64 n,.int .i64 v] 42)) 119 cs)
 have HB:=Lib.hid (show Below w.heap.size w (((w.alloc (.cells #[.slice a1 S.ds.length c1,.slice a2 S.rs.length c2,.slice a3 S.ss.length c3,.slice a4 S.cs.length c4] 27)).alloc (.cells #[.int .i64 a,.int .i64 4,.int .i64 0,.int .i64 n,.int .i64 v] 42)).alloc (.cells cs 119)) from (below_two w _ _).alloc (by simp;omega) _)
 rw [World.size_alloc] at HX
 rw [World.size_alloc,World.size_alloc] at HO
 clear hok hp hon hg hgv
 go_enter Tryz.func81,Tryz.ntmps81
 go_upto_region 21 with fail
 generalize ((w.alloc (.cells #[.slice a1 S.ds.length c1,.slice a2 S.rs.length c2,.slice a3 S.ss.length c3,.slice a4 S.cs.length c4] 27)).alloc (.cells #[.int .i64 a,.int .i64 4,.int .i64 0,.int .i64 n,.int .i64 v] 42)).alloc (.cells cs 119)=W at *
 have hmxx:Tryz.prog.follows .mixedOrders=true:=by kernel_rfl
 refine wp_plain (wp_region_flow (fun x=>{ tmps:=#[.agg #[.slice a1 S.ds.length c1,.slice a2 S.rs.length c2,.slice a3 S.ss.length c3,.slice a4 S.cs.length c4],.agg #[.int .i64 a,.int .i64 4,.int .i64 0,.int .i64 (n:Int),.int .i64 v],.int .i64 tick,.agg cs,.pointer (some ⟨w.heap.size,0,none⟩),.pointer (some ⟨w.heap.size+1,0,none⟩),undef,.pointer (some ⟨w.heap.size+1+1,0,none⟩),.int .i64 0,.int .i64 127,.pointer (some ⟨w.heap.size+1,0,none⟩),.int .i64 a,.bool (decide (a<0)),.bool (decide (a<0)),.pointer (some ⟨w.heap.size+1,0,none⟩),.int .i64 a,.bool (decide (100000000<a)),.bool (decide (a<0) || decide (100000000<a)),.bool (decide (a<0) || decide (100000000<a)),.pointer (some ⟨w.heap.size+1,0,none⟩),.int .i64 a,.int .i64 tick,.bool (decide (a<tick)),.bool (decide (a<0) || decide (100000000<a) || decide (a<tick)),.pointer (some ⟨w.heap.size+1,1,none⟩),.int .i64 4,.bool false,.bool false,.pointer (some ⟨w.heap.size+1,1,none⟩),.int .i64 4,.bool false,.bool false,.bool false,.pointer (some ⟨w.heap.size+1,1,none⟩),.int .i64 4,.bool true,.bool true,.pointer (some ⟨w.heap.size+1,2,none⟩),.int .i64 0,.bool false,.bool false,.bool false,.bool false,.pointer (some ⟨w.heap.size+1,1,none⟩),.int .i64 4,.bool false,.bool false,undef,undef,undef,.bool false,.bool false,.pointer (some ⟨w.heap.size+1,1,none⟩),.int .i64 4,.bool false,.bool false,undef,undef,undef,undef,undef,undef,undef,undef,undef,undef,undef,.bool false,.bool false,.pointer (some ⟨w.heap.size+1,1,none⟩),.int .i64 4,.bool false,.bool false,undef,undef,undef,undef,undef,undef,undef,undef,undef,undef,undef,.bool false,.bool false,.bool false,.pointer (some ⟨w.heap.size+1,1,none⟩),.int .i64 4,.bool false,.bool false,undef,undef,undef,undef,undef,undef,undef,undef,undef,undef,undef,.bool false,.bool false,.pointer (some ⟨w.heap.size+1,1,none⟩),.int .i64 4,.bool false,.bool false,undef,undef,undef,undef,undef,undef,undef,undef,undef,undef,undef,undef,undef,undef,undef,undef,undef,undef,undef,undef,undef,undef,.bool true,.bool true,.pointer (some ⟨w.heap.size+1,3,none⟩),.int .i64 (n:Int),.bool (decide ((n:Int)<0)),.bool (decide ((n:Int)<0)),.pointer (some ⟨w.heap.size+1,3,none⟩),.int .i64 (n:Int),.bool (decide (4≤(n:Int))),.bool (decide ((n:Int)<0) || decide (4≤(n:Int))),undef,undef,undef,undef,undef,undef,undef,undef,undef,undef,.pointer (some ⟨w.heap.size+1,4,none⟩),.int .i64 v,.bool (decide (v<0)),.bool (decide (v<0)),.pointer (some ⟨w.heap.size+1,4,none⟩),.int .i64 v,.int .i64 127,.bool (decide (127<v)),.bool (decide (v<0) || decide (127<v)),(x 159),(x 160),(x 161),(x 162),(x 163),(x 164),(x 165),(x 166),(x 167),(x 168),(x 169)],defers:=[] }) (fun i v' z=>match i with
  | 0=>v' = .pointer (some ⟨w.heap.size+1,1,none⟩)
  | 1=>v' = .int .i64 4
  | 2=>v' = .bool true
  | 3=>v' = .bool true
  | 4=>v' = .agg cs
  | 5=>v' = .agg #[.int .i64 a,.int .i64 4,.int .i64 0,.int .i64 n,.int .i64 v]
  | 6=>v' = .int .i64 gv
  | 7=>v' = .pointer (some ⟨w.heap.size+1,4,none⟩)
  | 8=>v' = .int .i64 v
  | 9=>v' = .bool (gv==v)
  | 10=>v' = .bool (gv==v)
  | _=>True) (fun n=>(#[.agg #[.slice a1 S.ds.length c1,.slice a2 S.rs.length c2,.slice a3 S.ss.length c3,.slice a4 S.cs.length c4],.agg #[.int .i64 a,.int .i64 4,.int .i64 0,.int .i64 (n:Int),.int .i64 v],.int .i64 tick,.agg cs,.pointer (some ⟨w.heap.size,0,none⟩),.pointer (some ⟨w.heap.size+1,0,none⟩),undef,.pointer (some ⟨w.heap.size+1+1,0,none⟩),.int .i64 0,.int .i64 127,.pointer (some ⟨w.heap.size+1,0,none⟩),.int .i64 a,.bool (decide (a<0)),.bool (decide (a<0)),.pointer (some ⟨w.heap.size+1,0,none⟩),.int .i64 a,.bool (decide (100000000<a)),.bool (decide (a<0) || decide (100000000<a)),.bool (decide (a<0) || decide (100000000<a)),.pointer (some ⟨w.heap.size+1,0,none⟩),.int .i64 a,.int .i64 tick,.bool (decide (a<tick)),.bool (decide (a<0) || decide (100000000<a) || decide (a<tick)),.pointer (some ⟨w.heap.size+1,1,none⟩),.int .i64 4,.bool false,.bool false,.pointer (some ⟨w.heap.size+1,1,none⟩),.int .i64 4,.bool false,.bool false,.bool false,.pointer (some ⟨w.heap.size+1,1,none⟩),.int .i64 4,.bool true,.bool true,.pointer (some ⟨w.heap.size+1,2,none⟩),.int .i64 0,.bool false,.bool false,.bool false,.bool false,.pointer (some ⟨w.heap.size+1,1,none⟩),.int .i64 4,.bool false,.bool false,undef,undef,undef,.bool false,.bool false,.pointer (some ⟨w.heap.size+1,1,none⟩),.int .i64 4,.bool false,.bool false,undef,undef,undef,undef,undef,undef,undef,undef,undef,undef,undef,.bool false,.bool false,.pointer (some ⟨w.heap.size+1,1,none⟩),.int .i64 4,.bool false,.bool false,undef,undef,undef,undef,undef,undef,undef,undef,undef,undef,undef,.bool false,.bool false,.bool false,.pointer (some ⟨w.heap.size+1,1,none⟩),.int .i64 4,.bool false,.bool false,undef,undef,undef,undef,undef,undef,undef,undef,undef,undef,undef,.bool false,.bool false,.pointer (some ⟨w.heap.size+1,1,none⟩),.int .i64 4,.bool false,.bool false,undef,undef,undef,undef,undef,undef,undef,undef,undef,undef,undef,undef,undef,undef,undef,undef,undef,undef,undef,undef,undef,undef,.bool true,.bool true,.pointer (some ⟨w.heap.size+1,3,none⟩),.int .i64 (n:Int),.bool (decide ((n:Int)<0)),.bool (decide ((n:Int)<0)),.pointer (some ⟨w.heap.size+1,3,none⟩),.int .i64 (n:Int),.bool (decide (4≤(n:Int))),.bool (decide ((n:Int)<0) || decide (4≤(n:Int))),undef,undef,undef,undef,undef,undef,undef,undef,undef,undef,.pointer (some ⟨w.heap.size+1,4,none⟩),.int .i64 v,.bool (decide (v<0)),.bool (decide (v<0)),.pointer (some ⟨w.heap.size+1,4,none⟩),.int .i64 v,.int .i64 127,.bool (decide (127<v)),.bool (decide (v<0) || decide (127<v)),undef,undef,undef,undef,undef,undef,undef,undef,undef,undef,undef]:Array Value).getD n undef) rfl hmxx (by kernel_rfl) (by kernel_rfl) ?mono ?put ?step ?done)
 case mono =>
  intro i v' z z' h hb
  match i,h with
  | 0,h=>exact h
  | 1,h=>exact h
  | 2,h=>exact h
  | 3,h=>exact h
  | 4,h=>exact h
  | 5,h=>exact h
  | 6,h=>exact h
  | 7,h=>exact h
  | 8,h=>exact h
  | 9,h=>exact h
  | 10,h=>exact h
  | _+11,_=>trivial
 case put =>
  intro i o d ho hd x v'
  match i,ho with
  | 0,ho=>obtain rfl:=Option.some.inj (show some _=some o from ho);obtain rfl:=Option.some.inj (show some _=some d from hd);rfl
  | 1,ho=>obtain rfl:=Option.some.inj (show some _=some o from ho);obtain rfl:=Option.some.inj (show some _=some d from hd);rfl
  | 2,ho=>obtain rfl:=Option.some.inj (show some _=some o from ho);obtain rfl:=Option.some.inj (show some _=some d from hd);rfl
  | 3,ho=>obtain rfl:=Option.some.inj (show some _=some o from ho);obtain rfl:=Option.some.inj (show some _=some d from hd);rfl
  | 4,ho=>obtain rfl:=Option.some.inj (show some _=some o from ho);obtain rfl:=Option.some.inj (show some _=some d from hd);rfl
  | 5,ho=>obtain rfl:=Option.some.inj (show some _=some o from ho);obtain rfl:=Option.some.inj (show some _=some d from hd);rfl
  | 6,ho=>obtain rfl:=Option.some.inj (show some _=some o from ho);obtain rfl:=Option.some.inj (show some _=some d from hd);rfl
  | 7,ho=>obtain rfl:=Option.some.inj (show some _=some o from ho);obtain rfl:=Option.some.inj (show some _=some d from hd);rfl
  | 8,ho=>obtain rfl:=Option.some.inj (show some _=some o from ho);obtain rfl:=Option.some.inj (show some _=some d from hd);rfl
  | 9,ho=>obtain rfl:=Option.some.inj (show some _=some o from ho);obtain rfl:=Option.some.inj (show some _=some d from hd);rfl
  | 10,ho=>obtain rfl:=Option.some.inj (show some _=some o from ho);obtain rfl:=Option.some.inj (show some _=some d from hd);rfl
  | n+11,ho=>exact absurd (Array.getElem?_eq_some_iff.1 ho).1 (by simp)
 case step =>
  intro i o ho x z hz hdep K hK
  match i,ho with
  | 0,ho =>
   obtain rfl:=Option.some.inj (show some _=some o from ho)
   clear hdep ho
   dsimp only at hK ⊢
   refine wpOp_step rfl (fun K2 hK2=>?_)
   go_simp
   exact hK2 _ _ (hK _ _ (Below.refl _ _) rfl)
  | 1,ho =>
   obtain rfl:=Option.some.inj (show some _=some o from ho)
   have q0:x 159 = .pointer (some ⟨w.heap.size+1,1,none⟩):=hdep 0 (by kernel_rfl) _ _ rfl rfl
   clear hdep ho
   dsimp only at hK ⊢
   simp only [q0] at hK ⊢
   have x1:z.cell? ⟨w.heap.size+1,1,none⟩=some (.int .i64 4):=(HX.out.below hz).cell 1
   refine wpOp_step rfl (fun K2 hK2=>?_)
   go_simp
   exact hK2 _ _ (hK _ _ (Below.refl _ _) rfl)
  | 2,ho =>
   obtain rfl:=Option.some.inj (show some _=some o from ho)
   have q1:x 160 = .int .i64 4:=hdep 1 (by kernel_rfl) _ _ rfl rfl
   clear hdep ho
   dsimp only at hK ⊢
   simp only [q1] at hK ⊢
   refine wpOp_step rfl (fun K2 hK2=>?_)
   go_simp
   exact hK2 _ _ (hK _ _ (Below.refl _ _) rfl)
  | 3,ho =>
   obtain rfl:=Option.some.inj (show some _=some o from ho)
   have q2:x 161 = .bool true:=hdep 2 (by kernel_rfl) _ _ rfl rfl
   clear hdep ho
   dsimp only at hK ⊢
   simp only [q2] at hK ⊢
   refine wpOp_step rfl (fun K2 hK2=>?_)
   go_simp
   exact hK2 _ _ (hK _ _ (Below.refl _ _) rfl)
  | 4,ho =>
   obtain rfl:=Option.some.inj (show some _=some o from ho)
   have q3:x 162 = .bool true:=hdep 3 (by kernel_rfl) _ _ rfl rfl
   clear hdep ho
   dsimp only at hK ⊢
   simp only [q3] at hK ⊢
   refine wpOp_step rfl (fun K2 hK2=>?_)
   rw [if_pos (by rfl)]
   refine wp_load_row 119 _ rfl (w.heap.size+1+1) rfl 119 cs (0,0) _ (HO.out.below hz) Tryz.underlying119 rfl (onB_info HON.out.size) ?_
   exact hK2 _ _ (hK _ _ (Below.refl _ _) rfl)
  | 5,ho =>
   obtain rfl:=Option.some.inj (show some _=some o from ho)
   have q3:x 162 = .bool true:=hdep 3 (by kernel_rfl) _ _ rfl rfl
   clear hdep ho
   dsimp only at hK ⊢
   simp only [q3] at hK ⊢
   have x0:z.cell? ⟨w.heap.size+1,0,none⟩=some (.int .i64 a):=(HX.out.below hz).cell 0
   have x1:z.cell? ⟨w.heap.size+1,1,none⟩=some (.int .i64 4):=(HX.out.below hz).cell 1
   have x2:z.cell? ⟨w.heap.size+1,2,none⟩=some (.int .i64 0):=(HX.out.below hz).cell 2
   have x3:z.cell? ⟨w.heap.size+1,3,none⟩=some (.int .i64 n):=(HX.out.below hz).cell 3
   have x4:z.cell? ⟨w.heap.size+1,4,none⟩=some (.int .i64 v):=(HX.out.below hz).cell 4
   refine wpOp_step rfl (fun K2 hK2=>?_)
   go_simp
   exact hK2 _ _ (hK _ _ (Below.refl _ _) rfl)
  | 6,ho =>
   obtain rfl:=Option.some.inj (show some _=some o from ho)
   have q3:x 162 = .bool true:=hdep 3 (by kernel_rfl) _ _ rfl rfl
   have q4:x 163 = .agg cs:=hdep 4 (by kernel_rfl) _ _ rfl rfl
   have q5:x 164 = .agg #[.int .i64 a,.int .i64 4,.int .i64 0,.int .i64 n,.int .i64 v]:=hdep 5 (by kernel_rfl) _ _ rfl rfl
   clear hdep ho
   dsimp only at hK ⊢
   simp only [q3,q4,q5] at hK ⊢
   refine wpOp_step rfl (fun K2 hK2=>?_)
   go_simp
   refine (value_any cs g HON.out HG.out (a,4,0,(n:Int),v) HP.out (by simp) _).mono ?_
   rintro e z1 ⟨rfl,hb⟩
   exact hK2 _ _ (hK _ _ hb (by rw [HGV.out]))
  | 7,ho =>
   obtain rfl:=Option.some.inj (show some _=some o from ho)
   have q3:x 162 = .bool true:=hdep 3 (by kernel_rfl) _ _ rfl rfl
   clear hdep ho
   dsimp only at hK ⊢
   simp only [q3] at hK ⊢
   refine wpOp_step rfl (fun K2 hK2=>?_)
   go_simp
   exact hK2 _ _ (hK _ _ (Below.refl _ _) rfl)
  | 8,ho =>
   obtain rfl:=Option.some.inj (show some _=some o from ho)
   have q3:x 162 = .bool true:=hdep 3 (by kernel_rfl) _ _ rfl rfl
   have q7:x 166 = .pointer (some ⟨w.heap.size+1,4,none⟩):=hdep 7 (by kernel_rfl) _ _ rfl rfl
   clear hdep ho
   dsimp only at hK ⊢
   simp only [q3,q7] at hK ⊢
   have x4:z.cell? ⟨w.heap.size+1,4,none⟩=some (.int .i64 v):=(HX.out.below hz).cell 4
   refine wpOp_step rfl (fun K2 hK2=>?_)
   go_simp
   exact hK2 _ _ (hK _ _ (Below.refl _ _) rfl)
  | 9,ho =>
   obtain rfl:=Option.some.inj (show some _=some o from ho)
   have q3:x 162 = .bool true:=hdep 3 (by kernel_rfl) _ _ rfl rfl
   have q6:x 165 = .int .i64 gv:=hdep 6 (by kernel_rfl) _ _ rfl rfl
   have q8:x 167 = .int .i64 v:=hdep 8 (by kernel_rfl) _ _ rfl rfl
   clear hdep ho
   dsimp only at hK ⊢
   simp only [q3,q6,q8] at hK ⊢
   refine wpOp_step rfl (fun K2 hK2=>?_)
   go_simp
   exact hK2 _ _ (hK _ _ (Below.refl _ _) rfl)
  | 10,ho =>
   obtain rfl:=Option.some.inj (show some _=some o from ho)
   have q3:x 162 = .bool true:=hdep 3 (by kernel_rfl) _ _ rfl rfl
   have q9:x 168 = .bool (gv==v):=hdep 9 (by kernel_rfl) _ _ rfl rfl
   clear hdep ho
   dsimp only at hK ⊢
   simp only [q3,q9] at hK ⊢
   refine wpOp_step rfl (fun K2 hK2=>?_)
   go_simp
   exact hK2 _ _ (hK _ _ (Below.refl _ _) rfl)
  | n+11,ho=>exact absurd (Array.getElem?_eq_some_iff.1 ho).1 (by simp)
 case done =>
  intro x z hz hres
  have q10:x 169 = .bool (gv==v):=hres 10 _ _ rfl rfl
  have HZ:=Lib.hid (below_step HB.out hz)
  clear hres hz
  dsimp only
  simp only [q10]
  by_cases hvv:gv=v
  ·have hb2:(gv==v)=true:=beq_iff_eq.2 hvv
   rw [hb2]
   go_wp2
   go_ret
   exact numR (by rw [HE.out,if_pos ⟨by simp,hvv⟩]) HZ.out
  ·have hb2:(gv==v)=false:=beq_eq_false_iff_ne.2 hvv
   rw [hb2]
   go_wp2
   go_ret
   exact numR (by rw [HE.out,if_neg (fun q=>hvv q.2)]) HZ.out
set_option maxRecDepth 100000 in
set_option maxHeartbeats 12800000 in
theorem re_key (a1 a2 a3 a4:Option Addr) (c1 c2 c3 c4:Nat) (S:Sp) (hok:SpOk S) (cs:Array Value) (g:Th→Int) (hon:OnI g cs) (hg:Bin g) (tick a:Int) (d:Nat) (hd:d<S.ds.length) (n:Nat) (v:Int) (w:World) (h0:0≤a∧tick≤a∧a≤100000000) (f:Nat→Value) (hsp:SpRd w (.slice a1 S.ds.length c1) (.slice a2 S.rs.length c2) (.slice a3 S.ss.length c3) (.slice a4 S.cs.length c4) f S) (hn:S.ds[d].lo≤(n:Int)∧(n:Int)≤S.ds[d].hi) (hv:0≤v∧v≤1) (hp:Placed (a,1,(d:Int),(n:Int),v)) :
  Calls Tryz.prog 81 #[.agg #[.slice a1 S.ds.length c1,.slice a2 S.rs.length c2,.slice a3 S.ss.length c3,.slice a4 S.cs.length c4],.agg #[.int .i64 a,.int .i64 1,.int .i64 d,.int .i64 n,.int .i64 v],.int .i64 tick,.agg cs] w (NumR (evR S tick g (a,1,(d:Int),(n:Int),v)) w):=by
 obtain ⟨a0,at1,a1e8⟩:=h0
 obtain ⟨hv0,hv1⟩:=hv
 have q1:=hok.d
 have q2:=hok.s
 have q3:=hok.c
 have HP:=Lib.hid hp
 have HON:=Lib.hid hon
 have HG:=Lib.hid hg
 obtain ⟨gv,hgv⟩:∃ gv,g (thing (a,1,(d:Int),(n:Int),v))=gv:=⟨_,rfl⟩
 have HGV:=Lib.hid hgv
 have HE:=Lib.hid (evR_good (S:=S) (tick:=tick) (g:=g) (x:=(a,1,(d:Int),(n:Int),v)) (by simp only;omega) (by rw [evE_key S a d n v hd,if_pos ⟨hn.1,hn.2,hv0,hv1⟩]))
 rw [hgv] at HE
 have HX:=Lib.hid ((Blk.new (w.alloc (.cells #[.slice a1 S.ds.length c1,.slice a2 S.rs.length c2,.slice a3 S.ss.length c3,.slice a4 S.cs.length c4] 27)) 42 #[.int .i64 a,.int .i64 1,.int .i64 d,.int .i64 n,.int .i64 v]).alloc (.cells cs 119))
 have HO:=Lib.hid (Blk.new ((w.alloc (.cells #[.slice a1 S.ds.length c1,.slice a2 S.rs.length c2,.slice a3 S.ss.length c3,.slice a4 S.cs.length c4] 27)).alloc (.cells #[.int .i64 a,.int .i64 1,.int .i64 d,.int .i64 n,.int .i64 v] 42)) 119 cs)
 have HB:=Lib.hid (show Below w.heap.size w (((w.alloc (.cells #[.slice a1 S.ds.length c1,.slice a2 S.rs.length c2,.slice a3 S.ss.length c3,.slice a4 S.cs.length c4] 27)).alloc (.cells #[.int .i64 a,.int .i64 1,.int .i64 d,.int .i64 n,.int .i64 v] 42)).alloc (.cells cs 119)) from (below_two w _ _).alloc (by simp;omega) _)
 rw [World.size_alloc] at HX
 rw [World.size_alloc,World.size_alloc] at HO
 obtain ⟨b,o,c,evv,hbl,r0,r1,r2⟩:=hsp.dAt d hd
 simp only [Value.slice.injEq] at evv
 obtain ⟨ev1,-,ev2⟩:=evv
 subst ev1
 subst ev2
 have HS:=Lib.hid (((Blk.new w 27 #[.slice (some ⟨b,o,none⟩) S.ds.length c1,.slice a2 S.rs.length c2,.slice a3 S.ss.length c3,.slice a4 S.cs.length c4]).alloc (.cells #[.int .i64 a,.int .i64 1,.int .i64 d,.int .i64 n,.int .i64 v] 42)).alloc (.cells cs 119))
 have hd2:(d:Int)<(S.ds.length:Int):=by omega
 obtain ⟨lo,hlo⟩:∃ lo,lo=S.ds[d].lo:=⟨_,rfl⟩
 obtain ⟨hi,hhi⟩:∃ hi,hi=S.ds[d].hi:=⟨_,rfl⟩
 rw [← hlo] at r1 hn
 rw [← hhi] at r2 hn
 obtain ⟨hn1,hn2⟩:=hn
 clear hlo hhi hsp
 clear hok hp hon hg hgv
 go_enter Tryz.func81,Tryz.ntmps81
 go_upto_region 10 with fail
 generalize ((w.alloc (.cells #[.slice (some ⟨b,o,none⟩) S.ds.length c1,.slice a2 S.rs.length c2,.slice a3 S.ss.length c3,.slice a4 S.cs.length c4] 27)).alloc (.cells #[.int .i64 a,.int .i64 1,.int .i64 d,.int .i64 n,.int .i64 v] 42)).alloc (.cells cs 119)=W0 at *
 have x0:W0.cell? ⟨w.heap.size+1,0,none⟩=some (.int .i64 a):=HX.out.cell 0
 have x1:W0.cell? ⟨w.heap.size+1,1,none⟩=some (.int .i64 1):=HX.out.cell 1
 have x2:W0.cell? ⟨w.heap.size+1,2,none⟩=some (.int .i64 d):=HX.out.cell 2
 have x3:W0.cell? ⟨w.heap.size+1,3,none⟩=some (.int .i64 n):=HX.out.cell 3
 have x4:W0.cell? ⟨w.heap.size+1,4,none⟩=some (.int .i64 v):=HX.out.cell 4
 have s0:W0.cell? ⟨w.heap.size,0,none⟩=some (.slice (some ⟨b,o,none⟩) S.ds.length c1):=HS.out.cell 0
 have r1':=(HB.out.cell (p:=⟨b,o+d * 3+1,none⟩) hbl).trans r1
 have r2':=(HB.out.cell (p:=⟨b,o+d * 3+2,none⟩) hbl).trans r2
 clear r0 r1 r2
 go_wp2_with fail
 go_quiet (fail)
 obtain ⟨W,hW⟩:∃ W,W0.drewN nq=W:=⟨_,rfl⟩
 have HX:=Lib.hid (show Blk W _ _ _ by rw [← hW];exact HX.out)
 have HO:=Lib.hid (show Blk W _ _ _ by rw [← hW];exact HO.out)
 have HB:=Lib.hid (show Below w.heap.size w W by rw [← hW];exact below_drewN HB.out _)
 rw [hW]
 clear hW x0 x1 x2 x3 x4 s0 r1' r2'
 have x0:W.cell? ⟨w.heap.size+1,0,none⟩=some (.int .i64 a):=HX.out.cell 0
 have x1:W.cell? ⟨w.heap.size+1,1,none⟩=some (.int .i64 1):=HX.out.cell 1
 have x2:W.cell? ⟨w.heap.size+1,2,none⟩=some (.int .i64 d):=HX.out.cell 2
 have x3:W.cell? ⟨w.heap.size+1,3,none⟩=some (.int .i64 n):=HX.out.cell 3
 have x4:W.cell? ⟨w.heap.size+1,4,none⟩=some (.int .i64 v):=HX.out.cell 4
 go_upto_region 21 with fail
 have hmxx:Tryz.prog.follows .mixedOrders=true:=by kernel_rfl
 refine wp_plain (wp_region_flow (fun x=>{ tmps:=#[.agg #[.slice (some ⟨b,o,none⟩) S.ds.length c1,.slice a2 S.rs.length c2,.slice a3 S.ss.length c3,.slice a4 S.cs.length c4],.agg #[.int .i64 a,.int .i64 1,.int .i64 (d:Int),.int .i64 (n:Int),.int .i64 v],.int .i64 tick,.agg cs,.pointer (some ⟨w.heap.size,0,none⟩),.pointer (some ⟨w.heap.size+1,0,none⟩),undef,.pointer (some ⟨w.heap.size+1+1,0,none⟩),.int .i64 0,.int .i64 1,.pointer (some ⟨w.heap.size+1,0,none⟩),.int .i64 a,.bool (decide (a<0)),.bool (decide (a<0)),.pointer (some ⟨w.heap.size+1,0,none⟩),.int .i64 a,.bool (decide (100000000<a)),.bool (decide (a<0) || decide (100000000<a)),.bool (decide (a<0) || decide (100000000<a)),.pointer (some ⟨w.heap.size+1,0,none⟩),.int .i64 a,.int .i64 tick,.bool (decide (a<tick)),.bool (decide (a<0) || decide (100000000<a) || decide (a<tick)),.pointer (some ⟨w.heap.size+1,1,none⟩),.int .i64 1,.bool false,.bool false,.pointer (some ⟨w.heap.size+1,1,none⟩),.int .i64 1,.bool false,.bool false,.bool false,.pointer (some ⟨w.heap.size+1,1,none⟩),.int .i64 1,.bool false,.bool false,undef,undef,undef,.bool false,.bool false,.bool false,.pointer (some ⟨w.heap.size+1,1,none⟩),.int .i64 1,.bool false,.bool false,undef,undef,undef,.bool false,.bool false,.pointer (some ⟨w.heap.size+1,1,none⟩),.int .i64 1,.bool true,.bool true,.pointer (some ⟨w.heap.size+1,2,none⟩),.int .i64 (d:Int),.bool (decide ((d:Int)<0)),.bool (decide ((d:Int)<0)),.pointer (some ⟨w.heap.size+1,2,none⟩),.int .i64 (d:Int),.pointer (some ⟨w.heap.size,0,none⟩),.slice (some ⟨b,o,none⟩) S.ds.length c1,.int .i64 (S.ds.length:Int),.bool false,.bool (decide ((d:Int)<0)),.bool (decide ((d:Int)<0)),.bool (decide ((d:Int)<0)),.pointer (some ⟨w.heap.size+1,1,none⟩),.int .i64 1,.bool false,.bool false,undef,undef,undef,undef,undef,undef,undef,undef,undef,undef,undef,.bool false,.bool (decide ((d:Int)<0)),.bool (decide ((d:Int)<0)),.pointer (some ⟨w.heap.size+1,1,none⟩),.int .i64 1,.bool false,.bool false,undef,undef,undef,undef,undef,undef,undef,undef,undef,undef,undef,.bool false,.bool (decide ((d:Int)<0)),.pointer (some ⟨w.heap.size+1,1,none⟩),.int .i64 1,.bool true,.bool true,.pointer (some ⟨w.heap.size+1,3,none⟩),.int .i64 (n:Int),.pointer (some ⟨w.heap.size,0,none⟩),.slice (some ⟨b,o,none⟩) S.ds.length c1,.pointer (some ⟨w.heap.size+1,2,none⟩),.int .i64 (d:Int),.pointer (some ⟨b,o+d * 3,none⟩),.pointer (some ⟨b,o+d * 3+1,none⟩),.int .i64 lo,.bool (decide ((n:Int)<lo)),.bool (decide ((n:Int)<lo)),.pointer (some ⟨w.heap.size+1,3,none⟩),.int .i64 (n:Int),.pointer (some ⟨w.heap.size,0,none⟩),.slice (some ⟨b,o,none⟩) S.ds.length c1,.pointer (some ⟨w.heap.size+1,2,none⟩),.int .i64 (d:Int),.pointer (some ⟨b,o+d * 3,none⟩),.pointer (some ⟨b,o+d * 3+2,none⟩),.int .i64 hi,.bool (decide (hi<(n:Int))),.bool (decide ((n:Int)<lo) || decide (hi<(n:Int))),undef,undef,undef,undef,undef,undef,undef,undef,undef,undef,undef,undef,undef,undef,undef,undef,undef,undef,undef,undef,.pointer (some ⟨w.heap.size+1,4,none⟩),.int .i64 v,.bool (decide (v<0)),.bool (decide (v<0)),.pointer (some ⟨w.heap.size+1,4,none⟩),.int .i64 v,.int .i64 1,.bool (decide (1<v)),.bool (decide (v<0) || decide (1<v)),(x 159),(x 160),(x 161),(x 162),(x 163),(x 164),(x 165),(x 166),(x 167),(x 168),(x 169)],defers:=[] }) (fun i v' z=>match i with
  | 0=>v' = .pointer (some ⟨w.heap.size+1,1,none⟩)
  | 1=>v' = .int .i64 1
  | 2=>v' = .bool true
  | 3=>v' = .bool true
  | 4=>v' = .agg cs
  | 5=>v' = .agg #[.int .i64 a,.int .i64 1,.int .i64 d,.int .i64 n,.int .i64 v]
  | 6=>v' = .int .i64 gv
  | 7=>v' = .pointer (some ⟨w.heap.size+1,4,none⟩)
  | 8=>v' = .int .i64 v
  | 9=>v' = .bool (gv==v)
  | 10=>v' = .bool (gv==v)
  | _=>True) (fun n=>(#[.agg #[.slice (some ⟨b,o,none⟩) S.ds.length c1,.slice a2 S.rs.length c2,.slice a3 S.ss.length c3,.slice a4 S.cs.length c4],.agg #[.int .i64 a,.int .i64 1,.int .i64 (d:Int),.int .i64 (n:Int),.int .i64 v],.int .i64 tick,.agg cs,.pointer (some ⟨w.heap.size,0,none⟩),.pointer (some ⟨w.heap.size+1,0,none⟩),undef,.pointer (some ⟨w.heap.size+1+1,0,none⟩),.int .i64 0,.int .i64 1,.pointer (some ⟨w.heap.size+1,0,none⟩),.int .i64 a,.bool (decide (a<0)),.bool (decide (a<0)),.pointer (some ⟨w.heap.size+1,0,none⟩),.int .i64 a,.bool (decide (100000000<a)),.bool (decide (a<0) || decide (100000000<a)),.bool (decide (a<0) || decide (100000000<a)),.pointer (some ⟨w.heap.size+1,0,none⟩),.int .i64 a,.int .i64 tick,.bool (decide (a<tick)),.bool (decide (a<0) || decide (100000000<a) || decide (a<tick)),.pointer (some ⟨w.heap.size+1,1,none⟩),.int .i64 1,.bool false,.bool false,.pointer (some ⟨w.heap.size+1,1,none⟩),.int .i64 1,.bool false,.bool false,.bool false,.pointer (some ⟨w.heap.size+1,1,none⟩),.int .i64 1,.bool false,.bool false,undef,undef,undef,.bool false,.bool false,.bool false,.pointer (some ⟨w.heap.size+1,1,none⟩),.int .i64 1,.bool false,.bool false,undef,undef,undef,.bool false,.bool false,.pointer (some ⟨w.heap.size+1,1,none⟩),.int .i64 1,.bool true,.bool true,.pointer (some ⟨w.heap.size+1,2,none⟩),.int .i64 (d:Int),.bool (decide ((d:Int)<0)),.bool (decide ((d:Int)<0)),.pointer (some ⟨w.heap.size+1,2,none⟩),.int .i64 (d:Int),.pointer (some ⟨w.heap.size,0,none⟩),.slice (some ⟨b,o,none⟩) S.ds.length c1,.int .i64 (S.ds.length:Int),.bool false,.bool (decide ((d:Int)<0)),.bool (decide ((d:Int)<0)),.bool (decide ((d:Int)<0)),.pointer (some ⟨w.heap.size+1,1,none⟩),.int .i64 1,.bool false,.bool false,undef,undef,undef,undef,undef,undef,undef,undef,undef,undef,undef,.bool false,.bool (decide ((d:Int)<0)),.bool (decide ((d:Int)<0)),.pointer (some ⟨w.heap.size+1,1,none⟩),.int .i64 1,.bool false,.bool false,undef,undef,undef,undef,undef,undef,undef,undef,undef,undef,undef,.bool false,.bool (decide ((d:Int)<0)),.pointer (some ⟨w.heap.size+1,1,none⟩),.int .i64 1,.bool true,.bool true,.pointer (some ⟨w.heap.size+1,3,none⟩),.int .i64 (n:Int),.pointer (some ⟨w.heap.size,0,none⟩),.slice (some ⟨b,o,none⟩) S.ds.length c1,.pointer (some ⟨w.heap.size+1,2,none⟩),.int .i64 (d:Int),.pointer (some ⟨b,o+d * 3,none⟩),.pointer (some ⟨b,o+d * 3+1,none⟩),.int .i64 lo,.bool (decide ((n:Int)<lo)),.bool (decide ((n:Int)<lo)),.pointer (some ⟨w.heap.size+1,3,none⟩),.int .i64 (n:Int),.pointer (some ⟨w.heap.size,0,none⟩),.slice (some ⟨b,o,none⟩) S.ds.length c1,.pointer (some ⟨w.heap.size+1,2,none⟩),.int .i64 (d:Int),.pointer (some ⟨b,o+d * 3,none⟩),.pointer (some ⟨b,o+d * 3+2,none⟩),.int .i64 hi,.bool (decide (hi<(n:Int))),.bool (decide ((n:Int)<lo) || decide (hi<(n:Int))),undef,undef,undef,undef,undef,undef,undef,undef,undef,undef,undef,undef,undef,undef,undef,undef,undef,undef,undef,undef,.pointer (some ⟨w.heap.size+1,4,none⟩),.int .i64 v,.bool (decide (v<0)),.bool (decide (v<0)),.pointer (some ⟨w.heap.size+1,4,none⟩),.int .i64 v,.int .i64 1,.bool (decide (1<v)),.bool (decide (v<0) || decide (1<v)),undef,undef,undef,undef,undef,undef,undef,undef,undef,undef,undef]:Array Value).getD n undef) rfl hmxx (by kernel_rfl) (by kernel_rfl) ?mono ?put ?step ?done)
 case mono =>
  intro i v' z z' h hb
  match i,h with
  | 0,h=>exact h
  | 1,h=>exact h
  | 2,h=>exact h
  | 3,h=>exact h
  | 4,h=>exact h
  | 5,h=>exact h
  | 6,h=>exact h
  | 7,h=>exact h
  | 8,h=>exact h
  | 9,h=>exact h
  | 10,h=>exact h
  | _+11,_=>trivial
 case put =>
  intro i o d ho hd x v'
  match i,ho with
  | 0,ho=>obtain rfl:=Option.some.inj (show some _=some o from ho);obtain rfl:=Option.some.inj (show some _=some d from hd);rfl
  | 1,ho=>obtain rfl:=Option.some.inj (show some _=some o from ho);obtain rfl:=Option.some.inj (show some _=some d from hd);rfl
  | 2,ho=>obtain rfl:=Option.some.inj (show some _=some o from ho);obtain rfl:=Option.some.inj (show some _=some d from hd);rfl
  | 3,ho=>obtain rfl:=Option.some.inj (show some _=some o from ho);obtain rfl:=Option.some.inj (show some _=some d from hd);rfl
  | 4,ho=>obtain rfl:=Option.some.inj (show some _=some o from ho);obtain rfl:=Option.some.inj (show some _=some d from hd);rfl
  | 5,ho=>obtain rfl:=Option.some.inj (show some _=some o from ho);obtain rfl:=Option.some.inj (show some _=some d from hd);rfl
  | 6,ho=>obtain rfl:=Option.some.inj (show some _=some o from ho);obtain rfl:=Option.some.inj (show some _=some d from hd);rfl
  | 7,ho=>obtain rfl:=Option.some.inj (show some _=some o from ho);obtain rfl:=Option.some.inj (show some _=some d from hd);rfl
  | 8,ho=>obtain rfl:=Option.some.inj (show some _=some o from ho);obtain rfl:=Option.some.inj (show some _=some d from hd);rfl
  | 9,ho=>obtain rfl:=Option.some.inj (show some _=some o from ho);obtain rfl:=Option.some.inj (show some _=some d from hd);rfl
  | 10,ho=>obtain rfl:=Option.some.inj (show some _=some o from ho);obtain rfl:=Option.some.inj (show some _=some d from hd);rfl
  | n+11,ho=>exact absurd (Array.getElem?_eq_some_iff.1 ho).1 (by simp)
 case step =>
  intro i o ho x z hz hdep K hK
  match i,ho with
  | 0,ho =>
   obtain rfl:=Option.some.inj (show some _=some o from ho)
   clear hdep ho
   dsimp only at hK ⊢
   refine wpOp_step rfl (fun K2 hK2=>?_)
   go_simp
   exact hK2 _ _ (hK _ _ (Below.refl _ _) rfl)
  | 1,ho =>
   obtain rfl:=Option.some.inj (show some _=some o from ho)
   have q0:x 159 = .pointer (some ⟨w.heap.size+1,1,none⟩):=hdep 0 (by kernel_rfl) _ _ rfl rfl
   clear hdep ho
   dsimp only at hK ⊢
   simp only [q0] at hK ⊢
   have x1:z.cell? ⟨w.heap.size+1,1,none⟩=some (.int .i64 1):=(HX.out.below hz).cell 1
   refine wpOp_step rfl (fun K2 hK2=>?_)
   go_simp
   exact hK2 _ _ (hK _ _ (Below.refl _ _) rfl)
  | 2,ho =>
   obtain rfl:=Option.some.inj (show some _=some o from ho)
   have q1:x 160 = .int .i64 1:=hdep 1 (by kernel_rfl) _ _ rfl rfl
   clear hdep ho
   dsimp only at hK ⊢
   simp only [q1] at hK ⊢
   refine wpOp_step rfl (fun K2 hK2=>?_)
   go_simp
   exact hK2 _ _ (hK _ _ (Below.refl _ _) rfl)
  | 3,ho =>
   obtain rfl:=Option.some.inj (show some _=some o from ho)
   have q2:x 161 = .bool true:=hdep 2 (by kernel_rfl) _ _ rfl rfl
   clear hdep ho
   dsimp only at hK ⊢
   simp only [q2] at hK ⊢
   refine wpOp_step rfl (fun K2 hK2=>?_)
   go_simp
   exact hK2 _ _ (hK _ _ (Below.refl _ _) rfl)
  | 4,ho =>
   obtain rfl:=Option.some.inj (show some _=some o from ho)
   have q3:x 162 = .bool true:=hdep 3 (by kernel_rfl) _ _ rfl rfl
   clear hdep ho
   dsimp only at hK ⊢
   simp only [q3] at hK ⊢
   refine wpOp_step rfl (fun K2 hK2=>?_)
   rw [if_pos (by rfl)]
   refine wp_load_row 119 _ rfl (w.heap.size+1+1) rfl 119 cs (0,0) _ (HO.out.below hz) Tryz.underlying119 rfl (onB_info HON.out.size) ?_
   exact hK2 _ _ (hK _ _ (Below.refl _ _) rfl)
  | 5,ho =>
   obtain rfl:=Option.some.inj (show some _=some o from ho)
   have q3:x 162 = .bool true:=hdep 3 (by kernel_rfl) _ _ rfl rfl
   clear hdep ho
   dsimp only at hK ⊢
   simp only [q3] at hK ⊢
   have x0:z.cell? ⟨w.heap.size+1,0,none⟩=some (.int .i64 a):=(HX.out.below hz).cell 0
   have x1:z.cell? ⟨w.heap.size+1,1,none⟩=some (.int .i64 1):=(HX.out.below hz).cell 1
   have x2:z.cell? ⟨w.heap.size+1,2,none⟩=some (.int .i64 d):=(HX.out.below hz).cell 2
   have x3:z.cell? ⟨w.heap.size+1,3,none⟩=some (.int .i64 n):=(HX.out.below hz).cell 3
   have x4:z.cell? ⟨w.heap.size+1,4,none⟩=some (.int .i64 v):=(HX.out.below hz).cell 4
   refine wpOp_step rfl (fun K2 hK2=>?_)
   go_simp
   exact hK2 _ _ (hK _ _ (Below.refl _ _) rfl)
  | 6,ho =>
   obtain rfl:=Option.some.inj (show some _=some o from ho)
   have q3:x 162 = .bool true:=hdep 3 (by kernel_rfl) _ _ rfl rfl
   have q4:x 163 = .agg cs:=hdep 4 (by kernel_rfl) _ _ rfl rfl
   have q5:x 164 = .agg #[.int .i64 a,.int .i64 1,.int .i64 d,.int .i64 n,.int .i64 v]:=hdep 5 (by kernel_rfl) _ _ rfl rfl
   clear hdep ho
   dsimp only at hK ⊢
   simp only [q3,q4,q5] at hK ⊢
   refine wpOp_step rfl (fun K2 hK2=>?_)
   go_simp
   refine (value_any cs g HON.out HG.out (a,1,(d:Int),(n:Int),v) HP.out (by simp) _).mono ?_
   rintro e z1 ⟨rfl,hb⟩
   exact hK2 _ _ (hK _ _ hb (by rw [HGV.out]))
  | 7,ho =>
   obtain rfl:=Option.some.inj (show some _=some o from ho)
   have q3:x 162 = .bool true:=hdep 3 (by kernel_rfl) _ _ rfl rfl
   clear hdep ho
   dsimp only at hK ⊢
   simp only [q3] at hK ⊢
   refine wpOp_step rfl (fun K2 hK2=>?_)
   go_simp
   exact hK2 _ _ (hK _ _ (Below.refl _ _) rfl)
  | 8,ho =>
   obtain rfl:=Option.some.inj (show some _=some o from ho)
   have q3:x 162 = .bool true:=hdep 3 (by kernel_rfl) _ _ rfl rfl
   have q7:x 166 = .pointer (some ⟨w.heap.size+1,4,none⟩):=hdep 7 (by kernel_rfl) _ _ rfl rfl
   clear hdep ho
   dsimp only at hK ⊢
   simp only [q3,q7] at hK ⊢
   have x4:z.cell? ⟨w.heap.size+1,4,none⟩=some (.int .i64 v):=(HX.out.below hz).cell 4
   refine wpOp_step rfl (fun K2 hK2=>?_)
   go_simp
   exact hK2 _ _ (hK _ _ (Below.refl _ _) rfl)
  | 9,ho =>
   obtain rfl:=Option.some.inj (show some _=some o from ho)
   have q3:x 162 = .bool true:=hdep 3 (by kernel_rfl) _ _ rfl rfl
   have q6:x 165 = .int .i64 gv:=hdep 6 (by kernel_rfl) _ _ rfl rfl
   have q8:x 167 = .int .i64 v:=hdep 8 (by kernel_rfl) _ _ rfl rfl
   clear hdep ho
   dsimp only at hK ⊢
   simp only [q3,q6,q8] at hK ⊢
   refine wpOp_step rfl (fun K2 hK2=>?_)
   go_simp
   exact hK2 _ _ (hK _ _ (Below.refl _ _) rfl)
  | 10,ho =>
   obtain rfl:=Option.some.inj (show some _=some o from ho)
   have q3:x 162 = .bool true:=hdep 3 (by kernel_rfl) _ _ rfl rfl
   have q9:x 168 = .bool (gv==v):=hdep 9 (by kernel_rfl) _ _ rfl rfl
   clear hdep ho
   dsimp only at hK ⊢
   simp only [q3,q9] at hK ⊢
   refine wpOp_step rfl (fun K2 hK2=>?_)
   go_simp
   exact hK2 _ _ (hK _ _ (Below.refl _ _) rfl)
  | n+11,ho=>exact absurd (Array.getElem?_eq_some_iff.1 ho).1 (by simp)
 case done =>
  intro x z hz hres
  have q10:x 169 = .bool (gv==v):=hres 10 _ _ rfl rfl
  have HZ:=Lib.hid (below_step HB.out hz)
  clear hres hz
  dsimp only
  simp only [q10]
  by_cases hvv:gv=v
  ·have hb2:(gv==v)=true:=beq_iff_eq.2 hvv
   rw [hb2]
   go_wp2
   go_ret
   exact numR (by rw [HE.out,if_pos ⟨by simp,hvv⟩]) HZ.out
  ·have hb2:(gv==v)=false:=beq_eq_false_iff_ne.2 hvv
   rw [hb2]
   go_wp2
   go_ret
   exact numR (by rw [HE.out,if_neg (fun q=>hvv q.2)]) HZ.out
end Go.Proofs.YthhfmppealmblaaGreatDoor
