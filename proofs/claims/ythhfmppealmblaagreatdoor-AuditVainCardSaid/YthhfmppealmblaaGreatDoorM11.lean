/-
  A part of the proof: AE5.
-/
import Derived.Test.YthhfmppealmblaaGreatDoorM10
namespace Go.Proofs.YthhfmppealmblaaGreatDoor
open Go.RowKit
set_option maxRecDepth 100000 in
set_option maxHeartbeats 6400000 in
theorem rb_tick1 (a1 a2 a3 a4:Option Addr) (c1 c2 c3 c4:Nat) (S:Sp) (hok:SpOk S) (cs:Array Value) (g:Th→Int) (tick a:Int) (h0:0≤tick) (k d n v:Int) (h:a<0) (w:World) :
  Calls Tryz.prog 81 #[.agg #[.slice a1 S.ds.length c1,.slice a2 S.rs.length c2,.slice a3 S.ss.length c3,.slice a4 S.cs.length c4],.agg #[.int .i64 a,.int .i64 k,.int .i64 d,.int .i64 n,.int .i64 v],.int .i64 tick,.agg cs] w (NumR (evR S tick g (a,k,d,n,v)) w):=by
 have q1:=hok.d
 have q2:=hok.s
 have q3:=hok.c
 clear hok
 go_enter Tryz.func81,Tryz.ntmps81
 go_wp2
 all_goals go_ret
 all_goals exact numR (by exact evR_tick (by simp only;omega)) ((below_two w _ _).alloc (by simp;omega) _)
set_option maxRecDepth 100000 in
set_option maxHeartbeats 6400000 in
theorem rb_tick2 (a1 a2 a3 a4:Option Addr) (c1 c2 c3 c4:Nat) (S:Sp) (hok:SpOk S) (cs:Array Value) (g:Th→Int) (tick a:Int) (k d n v:Int) (h:100000000<a) (w:World) :
  Calls Tryz.prog 81 #[.agg #[.slice a1 S.ds.length c1,.slice a2 S.rs.length c2,.slice a3 S.ss.length c3,.slice a4 S.cs.length c4],.agg #[.int .i64 a,.int .i64 k,.int .i64 d,.int .i64 n,.int .i64 v],.int .i64 tick,.agg cs] w (NumR (evR S tick g (a,k,d,n,v)) w):=by
 have q1:=hok.d
 have q2:=hok.s
 have q3:=hok.c
 clear hok
 have h2:0≤a:=by omega
 go_enter Tryz.func81,Tryz.ntmps81
 go_wp2
 all_goals go_ret
 all_goals exact numR (by exact evR_tick (by simp only;omega)) ((below_two w _ _).alloc (by simp;omega) _)
set_option maxRecDepth 100000 in
set_option maxHeartbeats 6400000 in
theorem rb_tick3 (a1 a2 a3 a4:Option Addr) (c1 c2 c3 c4:Nat) (S:Sp) (hok:SpOk S) (cs:Array Value) (g:Th→Int) (tick a:Int) (k d n v:Int) (h2:0≤a) (h3:a≤100000000) (h:a<tick) (w:World) :
  Calls Tryz.prog 81 #[.agg #[.slice a1 S.ds.length c1,.slice a2 S.rs.length c2,.slice a3 S.ss.length c3,.slice a4 S.cs.length c4],.agg #[.int .i64 a,.int .i64 k,.int .i64 d,.int .i64 n,.int .i64 v],.int .i64 tick,.agg cs] w (NumR (evR S tick g (a,k,d,n,v)) w):=by
 have q1:=hok.d
 have q2:=hok.s
 have q3:=hok.c
 clear hok
 go_enter Tryz.func81,Tryz.ntmps81
 go_wp2
 all_goals go_ret
 all_goals exact numR (by exact evR_tick (by simp only;omega)) ((below_two w _ _).alloc (by simp;omega) _)
set_option maxRecDepth 100000 in
set_option maxHeartbeats 6400000 in
theorem rb_lo (a1 a2 a3 a4:Option Addr) (c1 c2 c3 c4:Nat) (S:Sp) (hok:SpOk S) (cs:Array Value) (g:Th→Int) (tick a:Int) (a0:0≤a∧tick≤a∧a≤100000000) (k d n v:Int) (h:k<1) (w:World) :
  Calls Tryz.prog 81 #[.agg #[.slice a1 S.ds.length c1,.slice a2 S.rs.length c2,.slice a3 S.ss.length c3,.slice a4 S.cs.length c4],.agg #[.int .i64 a,.int .i64 k,.int .i64 d,.int .i64 n,.int .i64 v],.int .i64 tick,.agg cs] w (NumR (evR S tick g (a,k,d,n,v)) w):=by
 have q1:=hok.d
 have q2:=hok.s
 have q3:=hok.c
 clear hok
 obtain ⟨a0,at1,a1e8⟩:=a0
 go_enter Tryz.func81,Tryz.ntmps81
 go_wp2
 all_goals go_ret
 all_goals exact numR (by exact evR_bad (by simp only;omega) (evE_out (.inl h)) (by decide)) ((below_two w _ _).alloc (by simp;omega) _)
set_option maxRecDepth 100000 in
set_option maxHeartbeats 6400000 in
theorem rb_hi (a1 a2 a3 a4:Option Addr) (c1 c2 c3 c4:Nat) (S:Sp) (hok:SpOk S) (cs:Array Value) (g:Th→Int) (tick a:Int) (a0:0≤a∧tick≤a∧a≤100000000) (k d n v:Int) (h:5<k) (w:World) :
  Calls Tryz.prog 81 #[.agg #[.slice a1 S.ds.length c1,.slice a2 S.rs.length c2,.slice a3 S.ss.length c3,.slice a4 S.cs.length c4],.agg #[.int .i64 a,.int .i64 k,.int .i64 d,.int .i64 n,.int .i64 v],.int .i64 tick,.agg cs] w (NumR (evR S tick g (a,k,d,n,v)) w):=by
 have q1:=hok.d
 have q2:=hok.s
 have q3:=hok.c
 clear hok
 obtain ⟨a0,at1,a1e8⟩:=a0
 have h1:1≤k:=by omega
 go_enter Tryz.func81,Tryz.ntmps81
 go_wp2
 all_goals go_ret
 all_goals exact numR (by exact evR_bad (by simp only;omega) (evE_out (.inr h)) (by decide)) ((below_two w _ _).alloc (by simp;omega) _)
set_option maxRecDepth 100000 in
set_option maxHeartbeats 6400000 in
theorem rb_div2 (a1 a2 a3 a4:Option Addr) (c1 c2 c3 c4:Nat) (S:Sp) (hok:SpOk S) (cs:Array Value) (g:Th→Int) (tick a:Int) (a0:0≤a∧tick≤a∧a≤100000000) (d n v:Int) (h:¬ d=0) (w:World) :
  Calls Tryz.prog 81 #[.agg #[.slice a1 S.ds.length c1,.slice a2 S.rs.length c2,.slice a3 S.ss.length c3,.slice a4 S.cs.length c4],.agg #[.int .i64 a,.int .i64 2,.int .i64 d,.int .i64 n,.int .i64 v],.int .i64 tick,.agg cs] w (NumR (evR S tick g (a,2,d,n,v)) w):=by
 have q1:=hok.d
 have q2:=hok.s
 have q3:=hok.c
 clear hok
 obtain ⟨a0,at1,a1e8⟩:=a0
 have hb:(d==0)=false:=beq_eq_false_iff_ne.2 h
 go_enter Tryz.func81,Tryz.ntmps81
 go_wp2
 all_goals go_ret
 all_goals exact numR (by exact evR_bad (by simp only;omega) (evE_div (by decide) h) (by decide)) ((below_two w _ _).alloc (by simp;omega) _)
set_option maxRecDepth 100000 in
set_option maxHeartbeats 6400000 in
theorem rb_div3 (a1 a2 a3 a4:Option Addr) (c1 c2 c3 c4:Nat) (S:Sp) (hok:SpOk S) (cs:Array Value) (g:Th→Int) (tick a:Int) (a0:0≤a∧tick≤a∧a≤100000000) (d n v:Int) (h:¬ d=0) (w:World) :
  Calls Tryz.prog 81 #[.agg #[.slice a1 S.ds.length c1,.slice a2 S.rs.length c2,.slice a3 S.ss.length c3,.slice a4 S.cs.length c4],.agg #[.int .i64 a,.int .i64 3,.int .i64 d,.int .i64 n,.int .i64 v],.int .i64 tick,.agg cs] w (NumR (evR S tick g (a,3,d,n,v)) w):=by
 have q1:=hok.d
 have q2:=hok.s
 have q3:=hok.c
 clear hok
 obtain ⟨a0,at1,a1e8⟩:=a0
 have hb:(d==0)=false:=beq_eq_false_iff_ne.2 h
 go_enter Tryz.func81,Tryz.ntmps81
 go_wp2
 all_goals go_ret
 all_goals exact numR (by exact evR_bad (by simp only;omega) (evE_div (by decide) h) (by decide)) ((below_two w _ _).alloc (by simp;omega) _)
set_option maxRecDepth 100000 in
set_option maxHeartbeats 6400000 in
theorem rb_div4 (a1 a2 a3 a4:Option Addr) (c1 c2 c3 c4:Nat) (S:Sp) (hok:SpOk S) (cs:Array Value) (g:Th→Int) (tick a:Int) (a0:0≤a∧tick≤a∧a≤100000000) (d n v:Int) (h:¬ d=0) (w:World) :
  Calls Tryz.prog 81 #[.agg #[.slice a1 S.ds.length c1,.slice a2 S.rs.length c2,.slice a3 S.ss.length c3,.slice a4 S.cs.length c4],.agg #[.int .i64 a,.int .i64 4,.int .i64 d,.int .i64 n,.int .i64 v],.int .i64 tick,.agg cs] w (NumR (evR S tick g (a,4,d,n,v)) w):=by
 have q1:=hok.d
 have q2:=hok.s
 have q3:=hok.c
 clear hok
 obtain ⟨a0,at1,a1e8⟩:=a0
 have hb:(d==0)=false:=beq_eq_false_iff_ne.2 h
 go_enter Tryz.func81,Tryz.ntmps81
 go_wp2
 all_goals go_ret
 all_goals exact numR (by exact evR_bad (by simp only;omega) (evE_div (by decide) h) (by decide)) ((below_two w _ _).alloc (by simp;omega) _)
set_option maxRecDepth 100000 in
set_option maxHeartbeats 6400000 in
theorem rb_div5 (a1 a2 a3 a4:Option Addr) (c1 c2 c3 c4:Nat) (S:Sp) (hok:SpOk S) (cs:Array Value) (g:Th→Int) (tick a:Int) (a0:0≤a∧tick≤a∧a≤100000000) (d n v:Int) (h:¬ d=0) (w:World) :
  Calls Tryz.prog 81 #[.agg #[.slice a1 S.ds.length c1,.slice a2 S.rs.length c2,.slice a3 S.ss.length c3,.slice a4 S.cs.length c4],.agg #[.int .i64 a,.int .i64 5,.int .i64 d,.int .i64 n,.int .i64 v],.int .i64 tick,.agg cs] w (NumR (evR S tick g (a,5,d,n,v)) w):=by
 have q1:=hok.d
 have q2:=hok.s
 have q3:=hok.c
 clear hok
 obtain ⟨a0,at1,a1e8⟩:=a0
 have hb:(d==0)=false:=beq_eq_false_iff_ne.2 h
 go_enter Tryz.func81,Tryz.ntmps81
 go_wp2
 all_goals go_ret
 all_goals exact numR (by exact evR_bad (by simp only;omega) (evE_div (by decide) h) (by decide)) ((below_two w _ _).alloc (by simp;omega) _)
set_option maxRecDepth 100000 in
set_option maxHeartbeats 6400000 in
theorem rb_mark0 (a1 a2 a3 a4:Option Addr) (c1 c2 c3 c4:Nat) (S:Sp) (hok:SpOk S) (cs:Array Value) (g:Th→Int) (tick a:Int) (a0:0≤a∧tick≤a∧a≤100000000) (n v:Int) (h:¬ v=0) (w:World) :
  Calls Tryz.prog 81 #[.agg #[.slice a1 S.ds.length c1,.slice a2 S.rs.length c2,.slice a3 S.ss.length c3,.slice a4 S.cs.length c4],.agg #[.int .i64 a,.int .i64 5,.int .i64 0,.int .i64 n,.int .i64 v],.int .i64 tick,.agg cs] w (NumR (evR S tick g (a,5,0,n,v)) w):=by
 have q1:=hok.d
 have q2:=hok.s
 have q3:=hok.c
 clear hok
 obtain ⟨a0,at1,a1e8⟩:=a0
 have hb:(v==0)=false:=beq_eq_false_iff_ne.2 h
 go_enter Tryz.func81,Tryz.ntmps81
 go_wp2
 all_goals go_ret
 all_goals exact numR (by exact evR_bad (by simp only;omega) (evE_mark0 h) (by decide)) ((below_two w _ _).alloc (by simp;omega) _)
set_option maxRecDepth 100000 in
set_option maxHeartbeats 6400000 in
theorem rb_stop1 (a1 a2 a3 a4:Option Addr) (c1 c2 c3 c4:Nat) (S:Sp) (hok:SpOk S) (cs:Array Value) (g:Th→Int) (tick a:Int) (a0:0≤a∧tick≤a∧a≤100000000) (n v:Int) (h:n<0) (w:World) :
  Calls Tryz.prog 81 #[.agg #[.slice a1 S.ds.length c1,.slice a2 S.rs.length c2,.slice a3 S.ss.length c3,.slice a4 S.cs.length c4],.agg #[.int .i64 a,.int .i64 2,.int .i64 0,.int .i64 n,.int .i64 v],.int .i64 tick,.agg cs] w (NumR (evR S tick g (a,2,0,n,v)) w):=by
 have q1:=hok.d
 have q2:=hok.s
 have q3:=hok.c
 clear hok
 obtain ⟨a0,at1,a1e8⟩:=a0
 go_enter Tryz.func81,Tryz.ntmps81
 go_wp2
 all_goals go_ret
 all_goals exact numR (by exact evR_bad (by simp only;omega) (by rw [evE_stop,if_neg (by omega)]) (by decide)) ((below_two w _ _).alloc (by simp;omega) _)
set_option maxRecDepth 100000 in
set_option maxHeartbeats 6400000 in
theorem rb_stop2 (a1 a2 a3 a4:Option Addr) (c1 c2 c3 c4:Nat) (S:Sp) (hok:SpOk S) (cs:Array Value) (g:Th→Int) (tick a:Int) (a0:0≤a∧tick≤a∧a≤100000000) (n v:Int) (h1:0≤n) (h:¬ n<(S.ss.length:Int)) (w:World) :
  Calls Tryz.prog 81 #[.agg #[.slice a1 S.ds.length c1,.slice a2 S.rs.length c2,.slice a3 S.ss.length c3,.slice a4 S.cs.length c4],.agg #[.int .i64 a,.int .i64 2,.int .i64 0,.int .i64 n,.int .i64 v],.int .i64 tick,.agg cs] w (NumR (evR S tick g (a,2,0,n,v)) w):=by
 have q1:=hok.d
 have q2:=hok.s
 have q3:=hok.c
 clear hok
 obtain ⟨a0,at1,a1e8⟩:=a0
 go_enter Tryz.func81,Tryz.ntmps81
 go_wp2
 all_goals go_ret
 all_goals exact numR (by exact evR_bad (by simp only;omega) (by rw [evE_stop,if_neg (by omega)]) (by decide)) ((below_two w _ _).alloc (by simp;omega) _)
set_option maxRecDepth 100000 in
set_option maxHeartbeats 6400000 in
theorem rb_stop3 (a1 a2 a3 a4:Option Addr) (c1 c2 c3 c4:Nat) (S:Sp) (hok:SpOk S) (cs:Array Value) (g:Th→Int) (tick a:Int) (a0:0≤a∧tick≤a∧a≤100000000) (n v:Int) (h1:0≤n) (h2:n<(S.ss.length:Int)) (h:v<0) (w:World) :
  Calls Tryz.prog 81 #[.agg #[.slice a1 S.ds.length c1,.slice a2 S.rs.length c2,.slice a3 S.ss.length c3,.slice a4 S.cs.length c4],.agg #[.int .i64 a,.int .i64 2,.int .i64 0,.int .i64 n,.int .i64 v],.int .i64 tick,.agg cs] w (NumR (evR S tick g (a,2,0,n,v)) w):=by
 have q1:=hok.d
 have q2:=hok.s
 have q3:=hok.c
 clear hok
 obtain ⟨a0,at1,a1e8⟩:=a0
 go_enter Tryz.func81,Tryz.ntmps81
 go_wp2
 all_goals go_ret
 all_goals exact numR (by exact evR_bad (by simp only;omega) (by rw [evE_stop,if_pos (by omega),if_neg (by omega)]) (by decide)) ((below_two w _ _).alloc (by simp;omega) _)
set_option maxRecDepth 100000 in
set_option maxHeartbeats 6400000 in
theorem rb_stop4 (a1 a2 a3 a4:Option Addr) (c1 c2 c3 c4:Nat) (S:Sp) (hok:SpOk S) (cs:Array Value) (g:Th→Int) (tick a:Int) (a0:0≤a∧tick≤a∧a≤100000000) (n v:Int) (h1:0≤n) (h2:n<(S.ss.length:Int)) (h3:0≤v) (h:1<v) (w:World) :
  Calls Tryz.prog 81 #[.agg #[.slice a1 S.ds.length c1,.slice a2 S.rs.length c2,.slice a3 S.ss.length c3,.slice a4 S.cs.length c4],.agg #[.int .i64 a,.int .i64 2,.int .i64 0,.int .i64 n,.int .i64 v],.int .i64 tick,.agg cs] w (NumR (evR S tick g (a,2,0,n,v)) w):=by
 have q1:=hok.d
 have q2:=hok.s
 have q3:=hok.c
 clear hok
 obtain ⟨a0,at1,a1e8⟩:=a0
 go_enter Tryz.func81,Tryz.ntmps81
 go_wp2
 all_goals go_ret
 all_goals exact numR (by exact evR_bad (by simp only;omega) (by rw [evE_stop,if_pos (by omega),if_neg (by omega)]) (by decide)) ((below_two w _ _).alloc (by simp;omega) _)
set_option maxRecDepth 100000 in
set_option maxHeartbeats 6400000 in
theorem rb_coupler1 (a1 a2 a3 a4:Option Addr) (c1 c2 c3 c4:Nat) (S:Sp) (hok:SpOk S) (cs:Array Value) (g:Th→Int) (tick a:Int) (a0:0≤a∧tick≤a∧a≤100000000) (n v:Int) (h:n<0) (w:World) :
  Calls Tryz.prog 81 #[.agg #[.slice a1 S.ds.length c1,.slice a2 S.rs.length c2,.slice a3 S.ss.length c3,.slice a4 S.cs.length c4],.agg #[.int .i64 a,.int .i64 3,.int .i64 0,.int .i64 n,.int .i64 v],.int .i64 tick,.agg cs] w (NumR (evR S tick g (a,3,0,n,v)) w):=by
 have q1:=hok.d
 have q2:=hok.s
 have q3:=hok.c
 clear hok
 obtain ⟨a0,at1,a1e8⟩:=a0
 go_enter Tryz.func81,Tryz.ntmps81
 go_wp2
 all_goals go_ret
 all_goals exact numR (by exact evR_bad (by simp only;omega) (by rw [evE_coupler,if_neg (by omega)]) (by decide)) ((below_two w _ _).alloc (by simp;omega) _)
set_option maxRecDepth 100000 in
set_option maxHeartbeats 6400000 in
theorem rb_coupler2 (a1 a2 a3 a4:Option Addr) (c1 c2 c3 c4:Nat) (S:Sp) (hok:SpOk S) (cs:Array Value) (g:Th→Int) (tick a:Int) (a0:0≤a∧tick≤a∧a≤100000000) (n v:Int) (h1:0≤n) (h:¬ n<(S.cs.length:Int)) (w:World) :
  Calls Tryz.prog 81 #[.agg #[.slice a1 S.ds.length c1,.slice a2 S.rs.length c2,.slice a3 S.ss.length c3,.slice a4 S.cs.length c4],.agg #[.int .i64 a,.int .i64 3,.int .i64 0,.int .i64 n,.int .i64 v],.int .i64 tick,.agg cs] w (NumR (evR S tick g (a,3,0,n,v)) w):=by
 have q1:=hok.d
 have q2:=hok.s
 have q3:=hok.c
 clear hok
 obtain ⟨a0,at1,a1e8⟩:=a0
 go_enter Tryz.func81,Tryz.ntmps81
 go_wp2
 all_goals go_ret
 all_goals exact numR (by exact evR_bad (by simp only;omega) (by rw [evE_coupler,if_neg (by omega)]) (by decide)) ((below_two w _ _).alloc (by simp;omega) _)
set_option maxRecDepth 100000 in
set_option maxHeartbeats 6400000 in
theorem rb_coupler3 (a1 a2 a3 a4:Option Addr) (c1 c2 c3 c4:Nat) (S:Sp) (hok:SpOk S) (cs:Array Value) (g:Th→Int) (tick a:Int) (a0:0≤a∧tick≤a∧a≤100000000) (n v:Int) (h1:0≤n) (h2:n<(S.cs.length:Int)) (h:v<0) (w:World) :
  Calls Tryz.prog 81 #[.agg #[.slice a1 S.ds.length c1,.slice a2 S.rs.length c2,.slice a3 S.ss.length c3,.slice a4 S.cs.length c4],.agg #[.int .i64 a,.int .i64 3,.int .i64 0,.int .i64 n,.int .i64 v],.int .i64 tick,.agg cs] w (NumR (evR S tick g (a,3,0,n,v)) w):=by
 have q1:=hok.d
 have q2:=hok.s
 have q3:=hok.c
 clear hok
 obtain ⟨a0,at1,a1e8⟩:=a0
 go_enter Tryz.func81,Tryz.ntmps81
 go_wp2
 all_goals go_ret
 all_goals exact numR (by exact evR_bad (by simp only;omega) (by rw [evE_coupler,if_pos (by omega),if_neg (by omega)]) (by decide)) ((below_two w _ _).alloc (by simp;omega) _)
set_option maxRecDepth 100000 in
set_option maxHeartbeats 6400000 in
theorem rb_coupler4 (a1 a2 a3 a4:Option Addr) (c1 c2 c3 c4:Nat) (S:Sp) (hok:SpOk S) (cs:Array Value) (g:Th→Int) (tick a:Int) (a0:0≤a∧tick≤a∧a≤100000000) (n v:Int) (h1:0≤n) (h2:n<(S.cs.length:Int)) (h3:0≤v) (h:1<v) (w:World) :
  Calls Tryz.prog 81 #[.agg #[.slice a1 S.ds.length c1,.slice a2 S.rs.length c2,.slice a3 S.ss.length c3,.slice a4 S.cs.length c4],.agg #[.int .i64 a,.int .i64 3,.int .i64 0,.int .i64 n,.int .i64 v],.int .i64 tick,.agg cs] w (NumR (evR S tick g (a,3,0,n,v)) w):=by
 have q1:=hok.d
 have q2:=hok.s
 have q3:=hok.c
 clear hok
 obtain ⟨a0,at1,a1e8⟩:=a0
 go_enter Tryz.func81,Tryz.ntmps81
 go_wp2
 all_goals go_ret
 all_goals exact numR (by exact evR_bad (by simp only;omega) (by rw [evE_coupler,if_pos (by omega),if_neg (by omega)]) (by decide)) ((below_two w _ _).alloc (by simp;omega) _)
set_option maxRecDepth 100000 in
set_option maxHeartbeats 6400000 in
theorem rb_shade1 (a1 a2 a3 a4:Option Addr) (c1 c2 c3 c4:Nat) (S:Sp) (hok:SpOk S) (cs:Array Value) (g:Th→Int) (tick a:Int) (a0:0≤a∧tick≤a∧a≤100000000) (n v:Int) (h:n<0) (w:World) :
  Calls Tryz.prog 81 #[.agg #[.slice a1 S.ds.length c1,.slice a2 S.rs.length c2,.slice a3 S.ss.length c3,.slice a4 S.cs.length c4],.agg #[.int .i64 a,.int .i64 4,.int .i64 0,.int .i64 n,.int .i64 v],.int .i64 tick,.agg cs] w (NumR (evR S tick g (a,4,0,n,v)) w):=by
 have q1:=hok.d
 have q2:=hok.s
 have q3:=hok.c
 clear hok
 obtain ⟨a0,at1,a1e8⟩:=a0
 go_enter Tryz.func81,Tryz.ntmps81
 go_wp2
 all_goals go_ret
 all_goals exact numR (by exact evR_bad (by simp only;omega) (by rw [evE_shade,if_neg (by omega)]) (by decide)) ((below_two w _ _).alloc (by simp;omega) _)
set_option maxRecDepth 100000 in
set_option maxHeartbeats 6400000 in
theorem rb_shade2 (a1 a2 a3 a4:Option Addr) (c1 c2 c3 c4:Nat) (S:Sp) (hok:SpOk S) (cs:Array Value) (g:Th→Int) (tick a:Int) (a0:0≤a∧tick≤a∧a≤100000000) (n v:Int) (h1:0≤n) (h:3<n) (w:World) :
  Calls Tryz.prog 81 #[.agg #[.slice a1 S.ds.length c1,.slice a2 S.rs.length c2,.slice a3 S.ss.length c3,.slice a4 S.cs.length c4],.agg #[.int .i64 a,.int .i64 4,.int .i64 0,.int .i64 n,.int .i64 v],.int .i64 tick,.agg cs] w (NumR (evR S tick g (a,4,0,n,v)) w):=by
 have q1:=hok.d
 have q2:=hok.s
 have q3:=hok.c
 clear hok
 obtain ⟨a0,at1,a1e8⟩:=a0
 go_enter Tryz.func81,Tryz.ntmps81
 go_wp2
 all_goals go_ret
 all_goals exact numR (by exact evR_bad (by simp only;omega) (by rw [evE_shade,if_neg (by omega)]) (by decide)) ((below_two w _ _).alloc (by simp;omega) _)
set_option maxRecDepth 100000 in
set_option maxHeartbeats 6400000 in
theorem rb_shade3 (a1 a2 a3 a4:Option Addr) (c1 c2 c3 c4:Nat) (S:Sp) (hok:SpOk S) (cs:Array Value) (g:Th→Int) (tick a:Int) (a0:0≤a∧tick≤a∧a≤100000000) (n v:Int) (h1:0≤n) (h2:n≤3) (h:v<0) (w:World) :
  Calls Tryz.prog 81 #[.agg #[.slice a1 S.ds.length c1,.slice a2 S.rs.length c2,.slice a3 S.ss.length c3,.slice a4 S.cs.length c4],.agg #[.int .i64 a,.int .i64 4,.int .i64 0,.int .i64 n,.int .i64 v],.int .i64 tick,.agg cs] w (NumR (evR S tick g (a,4,0,n,v)) w):=by
 have q1:=hok.d
 have q2:=hok.s
 have q3:=hok.c
 clear hok
 obtain ⟨a0,at1,a1e8⟩:=a0
 go_enter Tryz.func81,Tryz.ntmps81
 go_wp2
 all_goals go_ret
 all_goals exact numR (by exact evR_bad (by simp only;omega) (by rw [evE_shade,if_neg (by omega)]) (by decide)) ((below_two w _ _).alloc (by simp;omega) _)
set_option maxRecDepth 100000 in
set_option maxHeartbeats 6400000 in
theorem rb_shade4 (a1 a2 a3 a4:Option Addr) (c1 c2 c3 c4:Nat) (S:Sp) (hok:SpOk S) (cs:Array Value) (g:Th→Int) (tick a:Int) (a0:0≤a∧tick≤a∧a≤100000000) (n v:Int) (h1:0≤n) (h2:n≤3) (h3:0≤v) (h:127<v) (w:World) :
  Calls Tryz.prog 81 #[.agg #[.slice a1 S.ds.length c1,.slice a2 S.rs.length c2,.slice a3 S.ss.length c3,.slice a4 S.cs.length c4],.agg #[.int .i64 a,.int .i64 4,.int .i64 0,.int .i64 n,.int .i64 v],.int .i64 tick,.agg cs] w (NumR (evR S tick g (a,4,0,n,v)) w):=by
 have q1:=hok.d
 have q2:=hok.s
 have q3:=hok.c
 clear hok
 obtain ⟨a0,at1,a1e8⟩:=a0
 go_enter Tryz.func81,Tryz.ntmps81
 go_wp2
 all_goals go_ret
 all_goals exact numR (by exact evR_bad (by simp only;omega) (by rw [evE_shade,if_neg (by omega)]) (by decide)) ((below_two w _ _).alloc (by simp;omega) _)
set_option maxRecDepth 100000 in
set_option maxHeartbeats 6400000 in
theorem rb_mark1 (a1 a2 a3 a4:Option Addr) (c1 c2 c3 c4:Nat) (S:Sp) (hok:SpOk S) (cs:Array Value) (g:Th→Int) (tick a:Int) (a0:0≤a∧tick≤a∧a≤100000000) (n:Int) (h:n<0) (w:World) :
  Calls Tryz.prog 81 #[.agg #[.slice a1 S.ds.length c1,.slice a2 S.rs.length c2,.slice a3 S.ss.length c3,.slice a4 S.cs.length c4],.agg #[.int .i64 a,.int .i64 5,.int .i64 0,.int .i64 n,.int .i64 0],.int .i64 tick,.agg cs] w (NumR (evR S tick g (a,5,0,n,0)) w):=by
 have q1:=hok.d
 have q2:=hok.s
 have q3:=hok.c
 clear hok
 obtain ⟨a0,at1,a1e8⟩:=a0
 go_enter Tryz.func81,Tryz.ntmps81
 go_wp2
 all_goals go_ret
 all_goals exact numR (by exact evR_bad (by simp only;omega) (by rw [evE_mark,if_neg (by omega)]) (by decide)) ((below_two w _ _).alloc (by simp;omega) _)
set_option maxRecDepth 100000 in
set_option maxHeartbeats 6400000 in
theorem rb_mark2 (a1 a2 a3 a4:Option Addr) (c1 c2 c3 c4:Nat) (S:Sp) (hok:SpOk S) (cs:Array Value) (g:Th→Int) (tick a:Int) (a0:0≤a∧tick≤a∧a≤100000000) (n:Int) (h1:0≤n) (h:9999<n) (w:World) :
  Calls Tryz.prog 81 #[.agg #[.slice a1 S.ds.length c1,.slice a2 S.rs.length c2,.slice a3 S.ss.length c3,.slice a4 S.cs.length c4],.agg #[.int .i64 a,.int .i64 5,.int .i64 0,.int .i64 n,.int .i64 0],.int .i64 tick,.agg cs] w (NumR (evR S tick g (a,5,0,n,0)) w):=by
 have q1:=hok.d
 have q2:=hok.s
 have q3:=hok.c
 clear hok
 obtain ⟨a0,at1,a1e8⟩:=a0
 go_enter Tryz.func81,Tryz.ntmps81
 go_wp2
 all_goals go_ret
 all_goals exact numR (by exact evR_bad (by simp only;omega) (by rw [evE_mark,if_neg (by omega)]) (by decide)) ((below_two w _ _).alloc (by simp;omega) _)
set_option maxRecDepth 100000 in
set_option maxHeartbeats 6400000 in
theorem rb_key1 (a1 a2 a3 a4:Option Addr) (c1 c2 c3 c4:Nat) (S:Sp) (hok:SpOk S) (cs:Array Value) (g:Th→Int) (tick a:Int) (a0:0≤a∧tick≤a∧a≤100000000) (d n v:Int) (h:d<0) (w:World) :
  Calls Tryz.prog 81 #[.agg #[.slice a1 S.ds.length c1,.slice a2 S.rs.length c2,.slice a3 S.ss.length c3,.slice a4 S.cs.length c4],.agg #[.int .i64 a,.int .i64 1,.int .i64 d,.int .i64 n,.int .i64 v],.int .i64 tick,.agg cs] w (NumR (evR S tick g (a,1,d,n,v)) w):=by
 have q1:=hok.d
 have q2:=hok.s
 have q3:=hok.c
 clear hok
 obtain ⟨a0,at1,a1e8⟩:=a0
 go_enter Tryz.func81,Tryz.ntmps81
 go_wp2
 all_goals go_ret
 all_goals exact numR (by exact evR_bad (by simp only;omega) (evE_key0 (by omega)) (by decide)) ((below_two w _ _).alloc (by simp;omega) _)
set_option maxRecDepth 100000 in
set_option maxHeartbeats 6400000 in
theorem rb_key2 (a1 a2 a3 a4:Option Addr) (c1 c2 c3 c4:Nat) (S:Sp) (hok:SpOk S) (cs:Array Value) (g:Th→Int) (tick a:Int) (a0:0≤a∧tick≤a∧a≤100000000) (d n v:Int) (h1:0≤d) (h:¬ d<(S.ds.length:Int)) (w:World) :
  Calls Tryz.prog 81 #[.agg #[.slice a1 S.ds.length c1,.slice a2 S.rs.length c2,.slice a3 S.ss.length c3,.slice a4 S.cs.length c4],.agg #[.int .i64 a,.int .i64 1,.int .i64 d,.int .i64 n,.int .i64 v],.int .i64 tick,.agg cs] w (NumR (evR S tick g (a,1,d,n,v)) w):=by
 have q1:=hok.d
 have q2:=hok.s
 have q3:=hok.c
 clear hok
 obtain ⟨a0,at1,a1e8⟩:=a0
 go_enter Tryz.func81,Tryz.ntmps81
 go_wp2
 all_goals go_ret
 all_goals exact numR (by exact evR_bad (by simp only;omega) (evE_key0 (by omega)) (by decide)) ((below_two w _ _).alloc (by simp;omega) _)
set_option maxRecDepth 100000 in
set_option maxHeartbeats 6400000 in
theorem rb_mark3 (a1 a2 a3 a4:Option Addr) (c1 c2 c3 c4:Nat) (S:Sp) (hok:SpOk S) (cs:Array Value) (g:Th→Int) (tick a:Int) (a0:0≤a∧tick≤a∧a≤100000000) (n:Int) (h1:0≤n) (h:n≤9999) (w:World) :
  Calls Tryz.prog 81 #[.agg #[.slice a1 S.ds.length c1,.slice a2 S.rs.length c2,.slice a3 S.ss.length c3,.slice a4 S.cs.length c4],.agg #[.int .i64 a,.int .i64 5,.int .i64 0,.int .i64 n,.int .i64 0],.int .i64 tick,.agg cs] w (NumR (evR S tick g (a,5,0,n,0)) w):=by
 have q1:=hok.d
 have q2:=hok.s
 have q3:=hok.c
 clear hok
 obtain ⟨a0,at1,a1e8⟩:=a0
 go_enter Tryz.func81,Tryz.ntmps81
 go_wp2_with fail
 go_quiet (fail)
 go_wp2
 go_ret
 exact numR (by rw [evR_good (by simp only;omega) (by rw [evE_mark,if_pos ⟨h1,h⟩]),if_neg (fun q=>q.1 rfl)]) (below_drewN ((below_two w _ _).alloc (by simp;omega) _) _)
set_option maxRecDepth 100000 in
set_option maxHeartbeats 6400000 in
theorem rb_keyr1 (a1 a2 a3 a4:Option Addr) (c1 c2 c3 c4:Nat) (S:Sp) (hok:SpOk S) (f:Nat→Value) (cs:Array Value) (g:Th→Int) (tick a:Int) (a0:0≤a∧tick≤a∧a≤100000000) (d:Nat) (hd:d<S.ds.length) (n v:Int) (h:n<S.ds[d].lo) (w:World) (hsp:SpRd w (.slice a1 S.ds.length c1) (.slice a2 S.rs.length c2) (.slice a3 S.ss.length c3) (.slice a4 S.cs.length c4) f S) :
  Calls Tryz.prog 81 #[.agg #[.slice a1 S.ds.length c1,.slice a2 S.rs.length c2,.slice a3 S.ss.length c3,.slice a4 S.cs.length c4],.agg #[.int .i64 a,.int .i64 1,.int .i64 d,.int .i64 n,.int .i64 v],.int .i64 tick,.agg cs] w (NumR (evR S tick g (a,1,(d:Int),n,v)) w):=by
 have q1:=hok.d
 clear hok
 obtain ⟨a0,at1,a1e8⟩:=a0
 have HE:=Lib.hid (evR_bad (S:=S) (tick:=tick) (g:=g) (x:=(a,1,(d:Int),n,v)) (by simp only;omega) (by rw [evE_key S a d n v hd,if_neg (by omega)]) (by decide))
 obtain ⟨b,o,c,evv,hbl,r0,r1,r2⟩:=hsp.dAt d hd
 simp only [Value.slice.injEq] at evv
 obtain ⟨ev1,-,ev2⟩:=evv
 subst ev1
 subst ev2
 have HX:=Lib.hid ((Blk.new (w.alloc (.cells #[.slice (some ⟨b,o,none⟩) S.ds.length c1,.slice a2 S.rs.length c2,.slice a3 S.ss.length c3,.slice a4 S.cs.length c4] 27)) 42 #[.int .i64 a,.int .i64 1,.int .i64 d,.int .i64 n,.int .i64 v]).alloc (.cells cs 119))
 have HS:=Lib.hid (((Blk.new w 27 #[.slice (some ⟨b,o,none⟩) S.ds.length c1,.slice a2 S.rs.length c2,.slice a3 S.ss.length c3,.slice a4 S.cs.length c4]).alloc (.cells #[.int .i64 a,.int .i64 1,.int .i64 d,.int .i64 n,.int .i64 v] 42)).alloc (.cells cs 119))
 have HB:=Lib.hid (show Below w.heap.size w (((w.alloc (.cells #[.slice (some ⟨b,o,none⟩) S.ds.length c1,.slice a2 S.rs.length c2,.slice a3 S.ss.length c3,.slice a4 S.cs.length c4] 27)).alloc (.cells #[.int .i64 a,.int .i64 1,.int .i64 d,.int .i64 n,.int .i64 v] 42)).alloc (.cells cs 119)) from (below_two w _ _).alloc (by simp;omega) _)
 rw [World.size_alloc] at HX
 have hd2:(d:Int)<(S.ds.length:Int):=by omega
 obtain ⟨lo,hlo⟩:∃ lo,lo=S.ds[d].lo:=⟨_,rfl⟩
 obtain ⟨hi,hhi⟩:∃ hi,hi=S.ds[d].hi:=⟨_,rfl⟩
 rw [← hlo] at r1 h
 rw [← hhi] at r2
 clear hlo hhi hsp
 go_enter Tryz.func81,Tryz.ntmps81
 go_upto_region 10 with fail
 generalize ((w.alloc (.cells #[.slice (some ⟨b,o,none⟩) S.ds.length c1,.slice a2 S.rs.length c2,.slice a3 S.ss.length c3,.slice a4 S.cs.length c4] 27)).alloc (.cells #[.int .i64 a,.int .i64 1,.int .i64 d,.int .i64 n,.int .i64 v] 42)).alloc (.cells cs 119)=W0 at *
 have x0:W0.cell? ⟨w.heap.size+1,0,none⟩=some (.int .i64 a):=HX.out.cell 0
 have x1:W0.cell? ⟨w.heap.size+1,1,none⟩=some (.int .i64 1):=HX.out.cell 1
 have x2:W0.cell? ⟨w.heap.size+1,2,none⟩=some (.int .i64 d):=HX.out.cell 2
 have x3:W0.cell? ⟨w.heap.size+1,3,none⟩=some (.int .i64 n):=HX.out.cell 3
 have x4:W0.cell? ⟨w.heap.size+1,4,none⟩=some (.int .i64 v):=HX.out.cell 4
 have s0:W0.cell? ⟨w.heap.size,0,none⟩=some (.slice (some ⟨b,o,none⟩) S.ds.length c1):=HS.out.cell 0
 have r1':=(HB.out.cell (p:=⟨b,o+d * 3+1,none⟩) hbl).trans r1
 have r2':=(HB.out.cell (p:=⟨b,o+d * 3+2,none⟩) hbl).trans r2
 clear r0 r1 r2
 go_wp2_with fail
 go_quiet (fail)
 go_wp2
 all_goals go_ret
 all_goals exact numR HE.out (below_drewN HB.out _)
set_option maxRecDepth 100000 in
set_option maxHeartbeats 6400000 in
theorem rb_keyr2 (a1 a2 a3 a4:Option Addr) (c1 c2 c3 c4:Nat) (S:Sp) (hok:SpOk S) (f:Nat→Value) (cs:Array Value) (g:Th→Int) (tick a:Int) (a0:0≤a∧tick≤a∧a≤100000000) (d:Nat) (hd:d<S.ds.length) (n v:Int) (h1:S.ds[d].lo≤n) (h:S.ds[d].hi<n) (w:World) (hsp:SpRd w (.slice a1 S.ds.length c1) (.slice a2 S.rs.length c2) (.slice a3 S.ss.length c3) (.slice a4 S.cs.length c4) f S) :
  Calls Tryz.prog 81 #[.agg #[.slice a1 S.ds.length c1,.slice a2 S.rs.length c2,.slice a3 S.ss.length c3,.slice a4 S.cs.length c4],.agg #[.int .i64 a,.int .i64 1,.int .i64 d,.int .i64 n,.int .i64 v],.int .i64 tick,.agg cs] w (NumR (evR S tick g (a,1,(d:Int),n,v)) w):=by
 have q1:=hok.d
 clear hok
 obtain ⟨a0,at1,a1e8⟩:=a0
 have HE:=Lib.hid (evR_bad (S:=S) (tick:=tick) (g:=g) (x:=(a,1,(d:Int),n,v)) (by simp only;omega) (by rw [evE_key S a d n v hd,if_neg (by omega)]) (by decide))
 obtain ⟨b,o,c,evv,hbl,r0,r1,r2⟩:=hsp.dAt d hd
 simp only [Value.slice.injEq] at evv
 obtain ⟨ev1,-,ev2⟩:=evv
 subst ev1
 subst ev2
 have HX:=Lib.hid ((Blk.new (w.alloc (.cells #[.slice (some ⟨b,o,none⟩) S.ds.length c1,.slice a2 S.rs.length c2,.slice a3 S.ss.length c3,.slice a4 S.cs.length c4] 27)) 42 #[.int .i64 a,.int .i64 1,.int .i64 d,.int .i64 n,.int .i64 v]).alloc (.cells cs 119))
 have HS:=Lib.hid (((Blk.new w 27 #[.slice (some ⟨b,o,none⟩) S.ds.length c1,.slice a2 S.rs.length c2,.slice a3 S.ss.length c3,.slice a4 S.cs.length c4]).alloc (.cells #[.int .i64 a,.int .i64 1,.int .i64 d,.int .i64 n,.int .i64 v] 42)).alloc (.cells cs 119))
 have HB:=Lib.hid (show Below w.heap.size w (((w.alloc (.cells #[.slice (some ⟨b,o,none⟩) S.ds.length c1,.slice a2 S.rs.length c2,.slice a3 S.ss.length c3,.slice a4 S.cs.length c4] 27)).alloc (.cells #[.int .i64 a,.int .i64 1,.int .i64 d,.int .i64 n,.int .i64 v] 42)).alloc (.cells cs 119)) from (below_two w _ _).alloc (by simp;omega) _)
 rw [World.size_alloc] at HX
 have hd2:(d:Int)<(S.ds.length:Int):=by omega
 obtain ⟨lo,hlo⟩:∃ lo,lo=S.ds[d].lo:=⟨_,rfl⟩
 obtain ⟨hi,hhi⟩:∃ hi,hi=S.ds[d].hi:=⟨_,rfl⟩
 rw [← hlo] at r1 h1
 rw [← hhi] at r2 h
 clear hlo hhi hsp
 go_enter Tryz.func81,Tryz.ntmps81
 go_upto_region 10 with fail
 generalize ((w.alloc (.cells #[.slice (some ⟨b,o,none⟩) S.ds.length c1,.slice a2 S.rs.length c2,.slice a3 S.ss.length c3,.slice a4 S.cs.length c4] 27)).alloc (.cells #[.int .i64 a,.int .i64 1,.int .i64 d,.int .i64 n,.int .i64 v] 42)).alloc (.cells cs 119)=W0 at *
 have x0:W0.cell? ⟨w.heap.size+1,0,none⟩=some (.int .i64 a):=HX.out.cell 0
 have x1:W0.cell? ⟨w.heap.size+1,1,none⟩=some (.int .i64 1):=HX.out.cell 1
 have x2:W0.cell? ⟨w.heap.size+1,2,none⟩=some (.int .i64 d):=HX.out.cell 2
 have x3:W0.cell? ⟨w.heap.size+1,3,none⟩=some (.int .i64 n):=HX.out.cell 3
 have x4:W0.cell? ⟨w.heap.size+1,4,none⟩=some (.int .i64 v):=HX.out.cell 4
 have s0:W0.cell? ⟨w.heap.size,0,none⟩=some (.slice (some ⟨b,o,none⟩) S.ds.length c1):=HS.out.cell 0
 have r1':=(HB.out.cell (p:=⟨b,o+d * 3+1,none⟩) hbl).trans r1
 have r2':=(HB.out.cell (p:=⟨b,o+d * 3+2,none⟩) hbl).trans r2
 clear r0 r1 r2
 go_wp2_with fail
 go_quiet (fail)
 go_wp2
 all_goals go_ret
 all_goals exact numR HE.out (below_drewN HB.out _)
set_option maxRecDepth 100000 in
set_option maxHeartbeats 6400000 in
theorem rb_keyr3 (a1 a2 a3 a4:Option Addr) (c1 c2 c3 c4:Nat) (S:Sp) (hok:SpOk S) (f:Nat→Value) (cs:Array Value) (g:Th→Int) (tick a:Int) (a0:0≤a∧tick≤a∧a≤100000000) (d:Nat) (hd:d<S.ds.length) (n v:Int) (h1:S.ds[d].lo≤n) (h2:n≤S.ds[d].hi) (h:v<0) (w:World) (hsp:SpRd w (.slice a1 S.ds.length c1) (.slice a2 S.rs.length c2) (.slice a3 S.ss.length c3) (.slice a4 S.cs.length c4) f S) :
  Calls Tryz.prog 81 #[.agg #[.slice a1 S.ds.length c1,.slice a2 S.rs.length c2,.slice a3 S.ss.length c3,.slice a4 S.cs.length c4],.agg #[.int .i64 a,.int .i64 1,.int .i64 d,.int .i64 n,.int .i64 v],.int .i64 tick,.agg cs] w (NumR (evR S tick g (a,1,(d:Int),n,v)) w):=by
 have q1:=hok.d
 clear hok
 obtain ⟨a0,at1,a1e8⟩:=a0
 have HE:=Lib.hid (evR_bad (S:=S) (tick:=tick) (g:=g) (x:=(a,1,(d:Int),n,v)) (by simp only;omega) (by rw [evE_key S a d n v hd,if_neg (by omega)]) (by decide))
 obtain ⟨b,o,c,evv,hbl,r0,r1,r2⟩:=hsp.dAt d hd
 simp only [Value.slice.injEq] at evv
 obtain ⟨ev1,-,ev2⟩:=evv
 subst ev1
 subst ev2
 have HX:=Lib.hid ((Blk.new (w.alloc (.cells #[.slice (some ⟨b,o,none⟩) S.ds.length c1,.slice a2 S.rs.length c2,.slice a3 S.ss.length c3,.slice a4 S.cs.length c4] 27)) 42 #[.int .i64 a,.int .i64 1,.int .i64 d,.int .i64 n,.int .i64 v]).alloc (.cells cs 119))
 have HS:=Lib.hid (((Blk.new w 27 #[.slice (some ⟨b,o,none⟩) S.ds.length c1,.slice a2 S.rs.length c2,.slice a3 S.ss.length c3,.slice a4 S.cs.length c4]).alloc (.cells #[.int .i64 a,.int .i64 1,.int .i64 d,.int .i64 n,.int .i64 v] 42)).alloc (.cells cs 119))
 have HB:=Lib.hid (show Below w.heap.size w (((w.alloc (.cells #[.slice (some ⟨b,o,none⟩) S.ds.length c1,.slice a2 S.rs.length c2,.slice a3 S.ss.length c3,.slice a4 S.cs.length c4] 27)).alloc (.cells #[.int .i64 a,.int .i64 1,.int .i64 d,.int .i64 n,.int .i64 v] 42)).alloc (.cells cs 119)) from (below_two w _ _).alloc (by simp;omega) _)
 rw [World.size_alloc] at HX
 have hd2:(d:Int)<(S.ds.length:Int):=by omega
 obtain ⟨lo,hlo⟩:∃ lo,lo=S.ds[d].lo:=⟨_,rfl⟩
 obtain ⟨hi,hhi⟩:∃ hi,hi=S.ds[d].hi:=⟨_,rfl⟩
 rw [← hlo] at r1 h1
 rw [← hhi] at r2 h2
 clear hlo hhi hsp
 go_enter Tryz.func81,Tryz.ntmps81
 go_upto_region 10 with fail
 generalize ((w.alloc (.cells #[.slice (some ⟨b,o,none⟩) S.ds.length c1,.slice a2 S.rs.length c2,.slice a3 S.ss.length c3,.slice a4 S.cs.length c4] 27)).alloc (.cells #[.int .i64 a,.int .i64 1,.int .i64 d,.int .i64 n,.int .i64 v] 42)).alloc (.cells cs 119)=W0 at *
 have x0:W0.cell? ⟨w.heap.size+1,0,none⟩=some (.int .i64 a):=HX.out.cell 0
 have x1:W0.cell? ⟨w.heap.size+1,1,none⟩=some (.int .i64 1):=HX.out.cell 1
 have x2:W0.cell? ⟨w.heap.size+1,2,none⟩=some (.int .i64 d):=HX.out.cell 2
 have x3:W0.cell? ⟨w.heap.size+1,3,none⟩=some (.int .i64 n):=HX.out.cell 3
 have x4:W0.cell? ⟨w.heap.size+1,4,none⟩=some (.int .i64 v):=HX.out.cell 4
 have s0:W0.cell? ⟨w.heap.size,0,none⟩=some (.slice (some ⟨b,o,none⟩) S.ds.length c1):=HS.out.cell 0
 have r1':=(HB.out.cell (p:=⟨b,o+d * 3+1,none⟩) hbl).trans r1
 have r2':=(HB.out.cell (p:=⟨b,o+d * 3+2,none⟩) hbl).trans r2
 clear r0 r1 r2
 go_wp2_with fail
 go_quiet (fail)
 go_wp2
 all_goals go_ret
 all_goals exact numR HE.out (below_drewN HB.out _)
set_option maxRecDepth 100000 in
set_option maxHeartbeats 6400000 in
theorem rb_keyr4 (a1 a2 a3 a4:Option Addr) (c1 c2 c3 c4:Nat) (S:Sp) (hok:SpOk S) (f:Nat→Value) (cs:Array Value) (g:Th→Int) (tick a:Int) (a0:0≤a∧tick≤a∧a≤100000000) (d:Nat) (hd:d<S.ds.length) (n v:Int) (h1:S.ds[d].lo≤n) (h2:n≤S.ds[d].hi) (h3:0≤v) (h:1<v) (w:World) (hsp:SpRd w (.slice a1 S.ds.length c1) (.slice a2 S.rs.length c2) (.slice a3 S.ss.length c3) (.slice a4 S.cs.length c4) f S) :
  Calls Tryz.prog 81 #[.agg #[.slice a1 S.ds.length c1,.slice a2 S.rs.length c2,.slice a3 S.ss.length c3,.slice a4 S.cs.length c4],.agg #[.int .i64 a,.int .i64 1,.int .i64 d,.int .i64 n,.int .i64 v],.int .i64 tick,.agg cs] w (NumR (evR S tick g (a,1,(d:Int),n,v)) w):=by
 have q1:=hok.d
 clear hok
 obtain ⟨a0,at1,a1e8⟩:=a0
 have HE:=Lib.hid (evR_bad (S:=S) (tick:=tick) (g:=g) (x:=(a,1,(d:Int),n,v)) (by simp only;omega) (by rw [evE_key S a d n v hd,if_neg (by omega)]) (by decide))
 obtain ⟨b,o,c,evv,hbl,r0,r1,r2⟩:=hsp.dAt d hd
 simp only [Value.slice.injEq] at evv
 obtain ⟨ev1,-,ev2⟩:=evv
 subst ev1
 subst ev2
 have HX:=Lib.hid ((Blk.new (w.alloc (.cells #[.slice (some ⟨b,o,none⟩) S.ds.length c1,.slice a2 S.rs.length c2,.slice a3 S.ss.length c3,.slice a4 S.cs.length c4] 27)) 42 #[.int .i64 a,.int .i64 1,.int .i64 d,.int .i64 n,.int .i64 v]).alloc (.cells cs 119))
 have HS:=Lib.hid (((Blk.new w 27 #[.slice (some ⟨b,o,none⟩) S.ds.length c1,.slice a2 S.rs.length c2,.slice a3 S.ss.length c3,.slice a4 S.cs.length c4]).alloc (.cells #[.int .i64 a,.int .i64 1,.int .i64 d,.int .i64 n,.int .i64 v] 42)).alloc (.cells cs 119))
 have HB:=Lib.hid (show Below w.heap.size w (((w.alloc (.cells #[.slice (some ⟨b,o,none⟩) S.ds.length c1,.slice a2 S.rs.length c2,.slice a3 S.ss.length c3,.slice a4 S.cs.length c4] 27)).alloc (.cells #[.int .i64 a,.int .i64 1,.int .i64 d,.int .i64 n,.int .i64 v] 42)).alloc (.cells cs 119)) from (below_two w _ _).alloc (by simp;omega) _)
 rw [World.size_alloc] at HX
 have hd2:(d:Int)<(S.ds.length:Int):=by omega
 obtain ⟨lo,hlo⟩:∃ lo,lo=S.ds[d].lo:=⟨_,rfl⟩
 obtain ⟨hi,hhi⟩:∃ hi,hi=S.ds[d].hi:=⟨_,rfl⟩
 rw [← hlo] at r1 h1
 rw [← hhi] at r2 h2
 clear hlo hhi hsp
 go_enter Tryz.func81,Tryz.ntmps81
 go_upto_region 10 with fail
 generalize ((w.alloc (.cells #[.slice (some ⟨b,o,none⟩) S.ds.length c1,.slice a2 S.rs.length c2,.slice a3 S.ss.length c3,.slice a4 S.cs.length c4] 27)).alloc (.cells #[.int .i64 a,.int .i64 1,.int .i64 d,.int .i64 n,.int .i64 v] 42)).alloc (.cells cs 119)=W0 at *
 have x0:W0.cell? ⟨w.heap.size+1,0,none⟩=some (.int .i64 a):=HX.out.cell 0
 have x1:W0.cell? ⟨w.heap.size+1,1,none⟩=some (.int .i64 1):=HX.out.cell 1
 have x2:W0.cell? ⟨w.heap.size+1,2,none⟩=some (.int .i64 d):=HX.out.cell 2
 have x3:W0.cell? ⟨w.heap.size+1,3,none⟩=some (.int .i64 n):=HX.out.cell 3
 have x4:W0.cell? ⟨w.heap.size+1,4,none⟩=some (.int .i64 v):=HX.out.cell 4
 have s0:W0.cell? ⟨w.heap.size,0,none⟩=some (.slice (some ⟨b,o,none⟩) S.ds.length c1):=HS.out.cell 0
 have r1':=(HB.out.cell (p:=⟨b,o+d * 3+1,none⟩) hbl).trans r1
 have r2':=(HB.out.cell (p:=⟨b,o+d * 3+2,none⟩) hbl).trans r2
 clear r0 r1 r2
 go_wp2_with fail
 go_quiet (fail)
 go_wp2
 all_goals go_ret
 all_goals exact numR HE.out (below_drewN HB.out _)
set_option maxHeartbeats 1600000 in
theorem re_any (v1 v2 v3 v4:Value) (S:Sp) (hok:SpOk S) (hc:(checkP S).2=0) (f:Nat→Value) (cs:Array Value) (g:Th→Int) (hon:OnI g cs) (hg:Bin g) (tick:Int) (ht:0≤tick) (x:Ev) (w:World) (hsp:SpRd w v1 v2 v3 v4 f S) :
  Calls Tryz.prog 81 #[.agg #[v1,v2,v3,v4],evV x,.int .i64 tick,.agg cs] w (NumR (evR S tick g x) w):=by
 obtain ⟨a,k,d,n,v⟩:=x
 obtain ⟨⟨a1,e1,rfl⟩,⟨a2,e2,rfl⟩,⟨a3,e3,rfl⟩,⟨a4,e4,rfl⟩⟩:=hsp.forms
 unfold evV
 simp only
 by_cases t1:a<0
 ·exact rb_tick1 a1 a2 a3 a4 e1 e2 e3 e4 S hok cs g tick a ht k d n v t1 w
 by_cases t2:100000000<a
 ·exact rb_tick2 a1 a2 a3 a4 e1 e2 e3 e4 S hok cs g tick a k d n v t2 w
 by_cases t3:a<tick
 ·exact rb_tick3 a1 a2 a3 a4 e1 e2 e3 e4 S hok cs g tick a k d n v (by omega) (by omega) t3 w
 have h0:0≤a∧tick≤a∧a≤100000000:=by omega
 by_cases k0:k<1
 ·exact rb_lo a1 a2 a3 a4 e1 e2 e3 e4 S hok cs g tick a h0 k d n v k0 w
 by_cases k6:5<k
 ·exact rb_hi a1 a2 a3 a4 e1 e2 e3 e4 S hok cs g tick a h0 k d n v k6 w
 have hpl:evE S (a,k,d,n,v)=0→Placed (a,k,d,n,v):=fun h=>ev_placed hc h
 by_cases k1:k=1
 ·subst k1
  by_cases d0:d<0
  ·exact rb_key1 a1 a2 a3 a4 e1 e2 e3 e4 S hok cs g tick a h0 d n v d0 w
  by_cases d1:d<(S.ds.length:Int)
  ·obtain ⟨d,rfl⟩:=Int.eq_ofNat_of_zero_le (show 0≤d by omega)
   have hd:d<S.ds.length:=by omega
   by_cases n0:n<S.ds[d].lo
   ·exact rb_keyr1 a1 a2 a3 a4 e1 e2 e3 e4 S hok f cs g tick a h0 d hd n v n0 w hsp
   by_cases n1:S.ds[d].hi<n
   ·exact rb_keyr2 a1 a2 a3 a4 e1 e2 e3 e4 S hok f cs g tick a h0 d hd n v (by omega) n1 w hsp
   by_cases v0:v<0
   ·exact rb_keyr3 a1 a2 a3 a4 e1 e2 e3 e4 S hok f cs g tick a h0 d hd n v (by omega) (by omega) v0 w hsp
   by_cases v1:1<v
   ·exact rb_keyr4 a1 a2 a3 a4 e1 e2 e3 e4 S hok f cs g tick a h0 d hd n v (by omega) (by omega) (by omega) v1 w hsp
   have hs:=dv_small hc (List.getElem_mem hd)
   obtain ⟨n,rfl⟩:=Int.eq_ofNat_of_zero_le (show 0≤n by omega)
   exact re_key a1 a2 a3 a4 e1 e2 e3 e4 S hok cs g hon hg tick a d hd n v w h0 f hsp (by omega) (by omega) (hpl (by rw [evE_key S a d n v hd,if_pos (by omega)]))
  ·exact rb_key2 a1 a2 a3 a4 e1 e2 e3 e4 S hok cs g tick a h0 d n v (by omega) d1 w
 by_cases d0:d=0
 ·subst d0
  rcases (show k=2∨k=3∨k=4∨k=5 by omega) with rfl | rfl | rfl | rfl
  ·by_cases n0:n<0
   ·exact rb_stop1 a1 a2 a3 a4 e1 e2 e3 e4 S hok cs g tick a h0 n v n0 w
   by_cases n1:n<(S.ss.length:Int)
   ·by_cases v0:v<0
    ·exact rb_stop3 a1 a2 a3 a4 e1 e2 e3 e4 S hok cs g tick a h0 n v (by omega) n1 v0 w
    by_cases v1:1<v
    ·exact rb_stop4 a1 a2 a3 a4 e1 e2 e3 e4 S hok cs g tick a h0 n v (by omega) n1 (by omega) v1 w
    obtain ⟨n,rfl⟩:=Int.eq_ofNat_of_zero_le (show 0≤n by omega)
    exact re_stop a1 a2 a3 a4 e1 e2 e3 e4 S hok cs g hon hg tick a n v w h0 n1 (by omega) (hpl (by rw [evE_stop,if_pos (by omega),if_pos (by omega)]))
   ·exact rb_stop2 a1 a2 a3 a4 e1 e2 e3 e4 S hok cs g tick a h0 n v (by omega) n1 w
  ·by_cases n0:n<0
   ·exact rb_coupler1 a1 a2 a3 a4 e1 e2 e3 e4 S hok cs g tick a h0 n v n0 w
   by_cases n1:n<(S.cs.length:Int)
   ·by_cases v0:v<0
    ·exact rb_coupler3 a1 a2 a3 a4 e1 e2 e3 e4 S hok cs g tick a h0 n v (by omega) n1 v0 w
    by_cases v1:1<v
    ·exact rb_coupler4 a1 a2 a3 a4 e1 e2 e3 e4 S hok cs g tick a h0 n v (by omega) n1 (by omega) v1 w
    obtain ⟨n,rfl⟩:=Int.eq_ofNat_of_zero_le (show 0≤n by omega)
    exact re_coupler a1 a2 a3 a4 e1 e2 e3 e4 S hok cs g hon hg tick a n v w h0 n1 (by omega) (hpl (by rw [evE_coupler,if_pos (by omega),if_pos (by omega)]))
   ·exact rb_coupler2 a1 a2 a3 a4 e1 e2 e3 e4 S hok cs g tick a h0 n v (by omega) n1 w
  ·by_cases n0:n<0
   ·exact rb_shade1 a1 a2 a3 a4 e1 e2 e3 e4 S hok cs g tick a h0 n v n0 w
   by_cases n1:3<n
   ·exact rb_shade2 a1 a2 a3 a4 e1 e2 e3 e4 S hok cs g tick a h0 n v (by omega) n1 w
   by_cases v0:v<0
   ·exact rb_shade3 a1 a2 a3 a4 e1 e2 e3 e4 S hok cs g tick a h0 n v (by omega) (by omega) v0 w
   by_cases v1:127<v
   ·exact rb_shade4 a1 a2 a3 a4 e1 e2 e3 e4 S hok cs g tick a h0 n v (by omega) (by omega) (by omega) v1 w
   obtain ⟨n,rfl⟩:=Int.eq_ofNat_of_zero_le (show 0≤n by omega)
   exact re_shade a1 a2 a3 a4 e1 e2 e3 e4 S hok cs g hon hg tick a n v w h0 (by omega) (by omega) (hpl (by rw [evE_shade,if_pos (by omega)]))
  ·by_cases vz:v=0
   ·subst vz
    by_cases n0:n<0
    ·exact rb_mark1 a1 a2 a3 a4 e1 e2 e3 e4 S hok cs g tick a h0 n n0 w
    by_cases n1:9999<n
    ·exact rb_mark2 a1 a2 a3 a4 e1 e2 e3 e4 S hok cs g tick a h0 n (by omega) n1 w
    exact rb_mark3 a1 a2 a3 a4 e1 e2 e3 e4 S hok cs g tick a h0 n (by omega) (by omega) w
   ·exact rb_mark0 a1 a2 a3 a4 e1 e2 e3 e4 S hok cs g tick a h0 n v vz w
 ·rcases (show k=2∨k=3∨k=4∨k=5 by omega) with rfl | rfl | rfl | rfl
  ·exact rb_div2 a1 a2 a3 a4 e1 e2 e3 e4 S hok cs g tick a h0 d n v d0 w
  ·exact rb_div3 a1 a2 a3 a4 e1 e2 e3 e4 S hok cs g tick a h0 d n v d0 w
  ·exact rb_div4 a1 a2 a3 a4 e1 e2 e3 e4 S hok cs g tick a h0 d n v d0 w
  ·exact rb_div5 a1 a2 a3 a4 e1 e2 e3 e4 S hok cs g tick a h0 d n v d0 w
end Go.Proofs.YthhfmppealmblaaGreatDoor
