/-
  CONTRACTS: the reference's before. CONTRACTS: the reference's thing. CONTRACTS: the reference's CheckScale.
-/
import Derived.Test.YtppccacfdpkkgaaGreatDoorK3
import Derived.Test.YtppccacfdpkkgaaGreatDoorK10
import Derived.Test.YtppccacfdpkkgaaGreatDoorDD
namespace Go.Proofs.YtppccacfdpkkgaaGreatDoor
open Go.RowKit
set_option maxRecDepth 100000 in
set_option maxHeartbeats 3200000 in
theorem rbefore_any (a1 a2 a3 a4 a5 b1 b2 b3 b4 b5 : Int) (w : World) (r : Bool) (hr : decide (evLt (a1, a2, a3, a4, a5) (b1, b2, b3, b4, b5)) = r) :
    Calls Tryz.prog 52 #[.agg #[.int .i64 a1, .int .i64 a2, .int .i64 a3, .int .i64 a4, .int .i64 a5], .agg #[.int .i64 b1, .int .i64 b2, .int .i64 b3, .int .i64 b4, .int .i64 b5]] w fun e w' => e = .returned (.bool r) ∧ Below w.heap.size w w' := by
  have HB := Lib.hid (show Below w.heap.size w ((w.alloc (.cells #[.int .i64 a1, .int .i64 a2, .int .i64 a3, .int .i64 a4, .int .i64 a5] 68)).alloc (.cells #[.int .i64 b1, .int .i64 b2, .int .i64 b3, .int .i64 b4, .int .i64 b5] 68)) from ((Below.refl w.heap.size w).alloc (Nat.le_refl _) _).alloc (by simp) _)
  unfold evLt at hr
  simp only at hr
  by_cases h1 : a1 = b1
  · by_cases h2 : a2 = b2
    · by_cases h3 : a3 = b3
      · have q1 : (a1 == b1) = true := by rw [beq_iff_eq]; exact h1
        have q2 : (a2 == b2) = true := by rw [beq_iff_eq]; exact h2
        have q3 : (a3 == b3) = true := by rw [beq_iff_eq]; exact h3
        have HE := Lib.hid (show decide (a4 < b4) = r by rw [← hr]; exact decide_eq_decide.2 (by omega))
        clear h1 h2 h3 hr
        go_enter Tryz.func52, Tryz.ntmps52
        go_wp2
        go_ret
        exact ⟨by rw [← HE.out]; rfl, HB.out⟩
      · have q1 : (a1 == b1) = true := by rw [beq_iff_eq]; exact h1
        have q2 : (a2 == b2) = true := by rw [beq_iff_eq]; exact h2
        have q3 : (a3 == b3) = false := by rw [beq_eq_false_iff_ne]; exact h3
        have HE := Lib.hid (show decide (a3 < b3) = r by rw [← hr]; exact decide_eq_decide.2 (by omega))
        clear h1 h2 hr
        go_enter Tryz.func52, Tryz.ntmps52
        go_wp2
        go_ret
        exact ⟨by rw [← HE.out]; rfl, HB.out⟩
    · have q1 : (a1 == b1) = true := by rw [beq_iff_eq]; exact h1
      have q2 : (a2 == b2) = false := by rw [beq_eq_false_iff_ne]; exact h2
      have HE := Lib.hid (show decide (a2 < b2) = r by rw [← hr]; exact decide_eq_decide.2 (by omega))
      clear h1 hr
      go_enter Tryz.func52, Tryz.ntmps52
      go_wp2
      go_ret
      exact ⟨by rw [← HE.out]; rfl, HB.out⟩
  · have q1 : (a1 == b1) = false := by rw [beq_eq_false_iff_ne]; exact h1
    have HE := Lib.hid (show decide (a1 < b1) = r by rw [← hr]; exact decide_eq_decide.2 (by omega))
    clear hr
    go_enter Tryz.func52, Tryz.ntmps52
    go_wp2
    go_ret
    exact ⟨by rw [← HE.out]; rfl, HB.out⟩
set_option maxRecDepth 100000 in
set_option maxHeartbeats 1600000 in
theorem rthing_lo (a1 a2 a3 a4 : Option Addr) (c1 c2 c3 c4 : Nat) (S : Sp) (hok : SpOk S) (a d n : Int) (w : World) (h : a < 1) :
    Calls Tryz.prog 43 #[.agg #[.slice a1 S.ds.length c1, .slice a2 S.rs.length c2, .slice a3 S.ss.length c3, .slice a4 S.cs.length c4], .agg #[.int .i64 a, .int .i64 d, .int .i64 n]] w (NumR (2) w) := by
  have q1 := hok.d
  have q2 := hok.s
  have q3 := hok.c
  clear hok
  go_enter Tryz.func43, Tryz.ntmps43
  go_wp2
  go_ret
  exact numR rfl (below_two w _ _)
set_option maxRecDepth 100000 in
set_option maxHeartbeats 1600000 in
theorem rthing_hi (a1 a2 a3 a4 : Option Addr) (c1 c2 c3 c4 : Nat) (S : Sp) (hok : SpOk S) (a d n : Int) (w : World) (h : 3 < a) :
    Calls Tryz.prog 43 #[.agg #[.slice a1 S.ds.length c1, .slice a2 S.rs.length c2, .slice a3 S.ss.length c3, .slice a4 S.cs.length c4], .agg #[.int .i64 a, .int .i64 d, .int .i64 n]] w (NumR (2) w) := by
  have q1 := hok.d
  have q2 := hok.s
  have q3 := hok.c
  clear hok
  have h1 : 1 ≤ a := by omega
  go_enter Tryz.func43, Tryz.ntmps43
  go_wp2
  go_ret
  exact numR rfl (below_two w _ _)
set_option maxRecDepth 100000 in
set_option maxHeartbeats 1600000 in
theorem rthing_2_div (a1 a2 a3 a4 : Option Addr) (c1 c2 c3 c4 : Nat) (S : Sp) (hok : SpOk S) (d n : Int) (w : World) (h : ¬ d = 0) :
    Calls Tryz.prog 43 #[.agg #[.slice a1 S.ds.length c1, .slice a2 S.rs.length c2, .slice a3 S.ss.length c3, .slice a4 S.cs.length c4], .agg #[.int .i64 2, .int .i64 d, .int .i64 n]] w (NumR (2) w) := by
  have q1 := hok.d
  have q2 := hok.s
  have q3 := hok.c
  clear hok
  have hb : (d == 0) = false := beq_eq_false_iff_ne.2 h
  go_enter Tryz.func43, Tryz.ntmps43
  go_wp2
  go_ret
  exact numR rfl (below_two w _ _)
set_option maxRecDepth 100000 in
set_option maxHeartbeats 1600000 in
theorem rthing_2_lo (a1 a2 a3 a4 : Option Addr) (c1 c2 c3 c4 : Nat) (S : Sp) (hok : SpOk S) (n : Int) (w : World) (h : n < 0) :
    Calls Tryz.prog 43 #[.agg #[.slice a1 S.ds.length c1, .slice a2 S.rs.length c2, .slice a3 S.ss.length c3, .slice a4 S.cs.length c4], .agg #[.int .i64 2, .int .i64 0, .int .i64 n]] w (NumR (4) w) := by
  have q1 := hok.d
  have q2 := hok.s
  have q3 := hok.c
  clear hok
  go_enter Tryz.func43, Tryz.ntmps43
  go_wp2
  go_ret
  exact numR rfl (below_two w _ _)
set_option maxRecDepth 100000 in
set_option maxHeartbeats 1600000 in
theorem rthing_2_hi (a1 a2 a3 a4 : Option Addr) (c1 c2 c3 c4 : Nat) (S : Sp) (hok : SpOk S) (n : Int) (w : World) (h0 : 0 ≤ n) (h : ¬ n < (S.ss.length : Int)) :
    Calls Tryz.prog 43 #[.agg #[.slice a1 S.ds.length c1, .slice a2 S.rs.length c2, .slice a3 S.ss.length c3, .slice a4 S.cs.length c4], .agg #[.int .i64 2, .int .i64 0, .int .i64 n]] w (NumR (4) w) := by
  have q1 := hok.d
  have q2 := hok.s
  have q3 := hok.c
  clear hok
  have h1 : (S.ss.length : Int) ≤ n := by omega
  have h2 : decide (n < 0) = false := by rw [decide_eq_false_iff_not]; omega
  go_enter Tryz.func43, Tryz.ntmps43
  go_wp2
  go_ret
  exact numR rfl (below_two w _ _)
set_option maxRecDepth 100000 in
set_option maxHeartbeats 1600000 in
theorem rthing_2_ok (a1 a2 a3 a4 : Option Addr) (c1 c2 c3 c4 : Nat) (S : Sp) (hok : SpOk S) (n : Int) (w : World) (h0 : 0 ≤ n) (h : n < (S.ss.length : Int)) :
    Calls Tryz.prog 43 #[.agg #[.slice a1 S.ds.length c1, .slice a2 S.rs.length c2, .slice a3 S.ss.length c3, .slice a4 S.cs.length c4], .agg #[.int .i64 2, .int .i64 0, .int .i64 n]] w (NumR (0) w) := by
  have q1 := hok.d
  have q2 := hok.s
  have q3 := hok.c
  clear hok
  have h1 : decide ((S.ss.length : Int) ≤ n) = false := by rw [decide_eq_false_iff_not]; omega
  have h2 : decide (n < 0) = false := by rw [decide_eq_false_iff_not]; omega
  have h3 : ¬ (S.ss.length : Int) ≤ n := by omega
  have h4 : ¬ n < 0 := by omega
  go_enter Tryz.func43, Tryz.ntmps43
  go_wp2_with fail
  go_quiet (fail)
  go_wp2_with fail
  go_ret
  exact numR rfl (below_drewN (below_two w _ _) _)
set_option maxRecDepth 100000 in
set_option maxHeartbeats 1600000 in
theorem rthing_3_div (a1 a2 a3 a4 : Option Addr) (c1 c2 c3 c4 : Nat) (S : Sp) (hok : SpOk S) (d n : Int) (w : World) (h : ¬ d = 0) :
    Calls Tryz.prog 43 #[.agg #[.slice a1 S.ds.length c1, .slice a2 S.rs.length c2, .slice a3 S.ss.length c3, .slice a4 S.cs.length c4], .agg #[.int .i64 3, .int .i64 d, .int .i64 n]] w (NumR (2) w) := by
  have q1 := hok.d
  have q2 := hok.s
  have q3 := hok.c
  clear hok
  have hb : (d == 0) = false := beq_eq_false_iff_ne.2 h
  go_enter Tryz.func43, Tryz.ntmps43
  go_wp2
  go_ret
  exact numR rfl (below_two w _ _)
set_option maxRecDepth 100000 in
set_option maxHeartbeats 1600000 in
theorem rthing_3_lo (a1 a2 a3 a4 : Option Addr) (c1 c2 c3 c4 : Nat) (S : Sp) (hok : SpOk S) (n : Int) (w : World) (h : n < 0) :
    Calls Tryz.prog 43 #[.agg #[.slice a1 S.ds.length c1, .slice a2 S.rs.length c2, .slice a3 S.ss.length c3, .slice a4 S.cs.length c4], .agg #[.int .i64 3, .int .i64 0, .int .i64 n]] w (NumR (4) w) := by
  have q1 := hok.d
  have q2 := hok.s
  have q3 := hok.c
  clear hok
  go_enter Tryz.func43, Tryz.ntmps43
  go_wp2
  go_ret
  exact numR rfl (below_two w _ _)
set_option maxRecDepth 100000 in
set_option maxHeartbeats 1600000 in
theorem rthing_3_hi (a1 a2 a3 a4 : Option Addr) (c1 c2 c3 c4 : Nat) (S : Sp) (hok : SpOk S) (n : Int) (w : World) (h0 : 0 ≤ n) (h : ¬ n < (S.cs.length : Int)) :
    Calls Tryz.prog 43 #[.agg #[.slice a1 S.ds.length c1, .slice a2 S.rs.length c2, .slice a3 S.ss.length c3, .slice a4 S.cs.length c4], .agg #[.int .i64 3, .int .i64 0, .int .i64 n]] w (NumR (4) w) := by
  have q1 := hok.d
  have q2 := hok.s
  have q3 := hok.c
  clear hok
  have h1 : (S.cs.length : Int) ≤ n := by omega
  have h2 : decide (n < 0) = false := by rw [decide_eq_false_iff_not]; omega
  go_enter Tryz.func43, Tryz.ntmps43
  go_wp2
  go_ret
  exact numR rfl (below_two w _ _)
set_option maxRecDepth 100000 in
set_option maxHeartbeats 1600000 in
theorem rthing_3_ok (a1 a2 a3 a4 : Option Addr) (c1 c2 c3 c4 : Nat) (S : Sp) (hok : SpOk S) (n : Int) (w : World) (h0 : 0 ≤ n) (h : n < (S.cs.length : Int)) :
    Calls Tryz.prog 43 #[.agg #[.slice a1 S.ds.length c1, .slice a2 S.rs.length c2, .slice a3 S.ss.length c3, .slice a4 S.cs.length c4], .agg #[.int .i64 3, .int .i64 0, .int .i64 n]] w (NumR (0) w) := by
  have q1 := hok.d
  have q2 := hok.s
  have q3 := hok.c
  clear hok
  have h1 : decide ((S.cs.length : Int) ≤ n) = false := by rw [decide_eq_false_iff_not]; omega
  have h2 : decide (n < 0) = false := by rw [decide_eq_false_iff_not]; omega
  have h3 : ¬ (S.cs.length : Int) ≤ n := by omega
  have h4 : ¬ n < 0 := by omega
  go_enter Tryz.func43, Tryz.ntmps43
  go_wp2_with fail
  go_quiet (fail)
  go_wp2_with fail
  go_ret
  exact numR rfl (below_drewN (below_two w _ _) _)
set_option maxRecDepth 100000 in
set_option maxHeartbeats 1600000 in
theorem rthing_1_lo (a1 a2 a3 a4 : Option Addr) (c1 c2 c3 c4 : Nat) (S : Sp) (hok : SpOk S) (d n : Int) (w : World) (h : d < 0) :
    Calls Tryz.prog 43 #[.agg #[.slice a1 S.ds.length c1, .slice a2 S.rs.length c2, .slice a3 S.ss.length c3, .slice a4 S.cs.length c4], .agg #[.int .i64 1, .int .i64 d, .int .i64 n]] w (NumR (4) w) := by
  have q1 := hok.d
  have q2 := hok.s
  have q3 := hok.c
  clear hok
  go_enter Tryz.func43, Tryz.ntmps43
  go_wp2
  go_ret
  exact numR rfl (below_two w _ _)
set_option maxRecDepth 100000 in
set_option maxHeartbeats 1600000 in
theorem rthing_1_hi (a1 a2 a3 a4 : Option Addr) (c1 c2 c3 c4 : Nat) (S : Sp) (hok : SpOk S) (d n : Int) (w : World) (h0 : 0 ≤ d) (h : ¬ d < (S.ds.length : Int)) :
    Calls Tryz.prog 43 #[.agg #[.slice a1 S.ds.length c1, .slice a2 S.rs.length c2, .slice a3 S.ss.length c3, .slice a4 S.cs.length c4], .agg #[.int .i64 1, .int .i64 d, .int .i64 n]] w (NumR (4) w) := by
  have q1 := hok.d
  have q2 := hok.s
  have q3 := hok.c
  clear hok
  have h1 : (S.ds.length : Int) ≤ d := by omega
  have h2 : decide (d < 0) = false := by rw [decide_eq_false_iff_not]; omega
  go_enter Tryz.func43, Tryz.ntmps43
  go_wp2
  go_ret
  exact numR rfl (below_two w _ _)
set_option maxRecDepth 100000 in
set_option maxHeartbeats 1600000 in
theorem rthing_key_lo (v1 v2 v3 v4 : Value) (S : Sp) (hok : SpOk S) (f : Nat → Value) (d : Nat) (n : Int) (w : World) (hsp : SpRd w v1 v2 v3 v4 f S) (hd : d < S.ds.length) (h : n < S.ds[d].lo) :
    Calls Tryz.prog 43 #[.agg #[v1, v2, v3, v4], .agg #[.int .i64 1, .int .i64 d, .int .i64 n]] w (NumR (7) w) := by
  have q1 := hok.d
  obtain ⟨⟨a1, e1, rfl⟩, ⟨a2, e2, rfl⟩, ⟨a3, e3, rfl⟩, ⟨a4, e4, rfl⟩⟩ := hsp.forms
  obtain ⟨b, o, c, ev, hbl, r0, r1, r2⟩ := hsp.dAt d hd
  cases ev
  have k0 := fun x => cell_alloc r0 x
  have k1 := fun x => cell_alloc r1 x
  have k2 := fun x => cell_alloc r2 x
  have m0 := fun x y => cell_alloc (k0 x) y
  have m1 := fun x y => cell_alloc (k1 x) y
  have m2 := fun x y => cell_alloc (k2 x) y
  have hd2 : (d : Int) < (S.ds.length : Int) := by omega
  have hd3 : decide ((S.ds.length : Int) ≤ (d : Int)) = false := by rw [decide_eq_false_iff_not]; omega
  obtain ⟨lo, hlo⟩ : ∃ lo, lo = S.ds[d].lo := ⟨_, rfl⟩
  obtain ⟨hi, hhi⟩ : ∃ hi, hi = S.ds[d].hi := ⟨_, rfl⟩
  rw [← hlo] at r1 k1 m1
  rw [← hhi] at r2 k2 m2
  rw [← hlo] at h
  clear hlo hhi hok hsp
  go_enter Tryz.func43, Tryz.ntmps43
  go_wp2_with fail
  go_quiet (fail)
  go_wp2
  go_ret
  exact numR rfl (below_drewN (below_two w _ _) _)
set_option maxRecDepth 100000 in
set_option maxHeartbeats 1600000 in
theorem rthing_key_hi (v1 v2 v3 v4 : Value) (S : Sp) (hok : SpOk S) (f : Nat → Value) (d : Nat) (n : Int) (w : World) (hsp : SpRd w v1 v2 v3 v4 f S) (hd : d < S.ds.length) (h0 : ¬ n < S.ds[d].lo) (h : S.ds[d].hi < n) :
    Calls Tryz.prog 43 #[.agg #[v1, v2, v3, v4], .agg #[.int .i64 1, .int .i64 d, .int .i64 n]] w (NumR (7) w) := by
  have q1 := hok.d
  obtain ⟨⟨a1, e1, rfl⟩, ⟨a2, e2, rfl⟩, ⟨a3, e3, rfl⟩, ⟨a4, e4, rfl⟩⟩ := hsp.forms
  obtain ⟨b, o, c, ev, hbl, r0, r1, r2⟩ := hsp.dAt d hd
  cases ev
  have k0 := fun x => cell_alloc r0 x
  have k1 := fun x => cell_alloc r1 x
  have k2 := fun x => cell_alloc r2 x
  have m0 := fun x y => cell_alloc (k0 x) y
  have m1 := fun x y => cell_alloc (k1 x) y
  have m2 := fun x y => cell_alloc (k2 x) y
  have hd2 : (d : Int) < (S.ds.length : Int) := by omega
  have hd3 : decide ((S.ds.length : Int) ≤ (d : Int)) = false := by rw [decide_eq_false_iff_not]; omega
  obtain ⟨lo, hlo⟩ : ∃ lo, lo = S.ds[d].lo := ⟨_, rfl⟩
  obtain ⟨hi, hhi⟩ : ∃ hi, hi = S.ds[d].hi := ⟨_, rfl⟩
  rw [← hlo] at r1 k1 m1
  rw [← hhi] at r2 k2 m2
  rw [← hlo] at h0
  rw [← hhi] at h
  have h1 : lo ≤ n := by omega
  have h2 : decide (n < lo) = false := by rw [decide_eq_false_iff_not]; omega
  clear h0
  clear hlo hhi hok hsp
  go_enter Tryz.func43, Tryz.ntmps43
  go_wp2_with fail
  go_quiet (fail)
  go_wp2
  go_ret
  exact numR rfl (below_drewN (below_two w _ _) _)
set_option maxRecDepth 100000 in
set_option maxHeartbeats 1600000 in
theorem rthing_key_ok (v1 v2 v3 v4 : Value) (S : Sp) (hok : SpOk S) (f : Nat → Value) (d : Nat) (n : Int) (w : World) (hsp : SpRd w v1 v2 v3 v4 f S) (hd : d < S.ds.length) (h0 : ¬ n < S.ds[d].lo) (h : ¬ S.ds[d].hi < n) :
    Calls Tryz.prog 43 #[.agg #[v1, v2, v3, v4], .agg #[.int .i64 1, .int .i64 d, .int .i64 n]] w (NumR (0) w) := by
  have q1 := hok.d
  obtain ⟨⟨a1, e1, rfl⟩, ⟨a2, e2, rfl⟩, ⟨a3, e3, rfl⟩, ⟨a4, e4, rfl⟩⟩ := hsp.forms
  obtain ⟨b, o, c, ev, hbl, r0, r1, r2⟩ := hsp.dAt d hd
  cases ev
  have k0 := fun x => cell_alloc r0 x
  have k1 := fun x => cell_alloc r1 x
  have k2 := fun x => cell_alloc r2 x
  have m0 := fun x y => cell_alloc (k0 x) y
  have m1 := fun x y => cell_alloc (k1 x) y
  have m2 := fun x y => cell_alloc (k2 x) y
  have hd2 : (d : Int) < (S.ds.length : Int) := by omega
  have hd3 : decide ((S.ds.length : Int) ≤ (d : Int)) = false := by rw [decide_eq_false_iff_not]; omega
  obtain ⟨lo, hlo⟩ : ∃ lo, lo = S.ds[d].lo := ⟨_, rfl⟩
  obtain ⟨hi, hhi⟩ : ∃ hi, hi = S.ds[d].hi := ⟨_, rfl⟩
  rw [← hlo] at r1 k1 m1
  rw [← hhi] at r2 k2 m2
  rw [← hlo] at h0
  rw [← hhi] at h
  have h1 : lo ≤ n := by omega
  have h2 : decide (n < lo) = false := by rw [decide_eq_false_iff_not]; omega
  have h3 : n ≤ hi := by omega
  have h4 : decide (hi < n) = false := by rw [decide_eq_false_iff_not]; omega
  clear h0 h
  clear hlo hhi hok hsp
  go_enter Tryz.func43, Tryz.ntmps43
  go_wp2_with fail
  go_quiet (fail)
  go_wp2
  go_ret
  exact numR rfl (below_drewN (below_two w _ _) _)
theorem rthing_any (v1 v2 v3 v4 : Value) (S : Sp) (hok : SpOk S) (f : Nat → Value) (x : Th) (w : World) (hsp : SpRd w v1 v2 v3 v4 f S) :
    Calls Tryz.prog 43 #[.agg #[v1, v2, v3, v4], .agg #[.int .i64 x.1, .int .i64 x.2.1, .int .i64 x.2.2]] w (NumR (thE S x) w) := by
  obtain ⟨a, d, n⟩ := x
  obtain ⟨⟨a1, c1, e1⟩, ⟨a2, c2, e2⟩, ⟨a3, c3, e3⟩, ⟨a4, c4, e4⟩⟩ := hsp.forms
  by_cases h1 : a < 1
  · have he : 2 = thE S (a, d, n) := by unfold thE; rw [if_pos (.inl h1)]
    subst e1; subst e2; subst e3; subst e4
    exact (rthing_lo a1 a2 a3 a4 c1 c2 c3 c4 S hok a d n w h1).mono fun e w' h => h.of he
  by_cases h2 : 3 < a
  · have he : 2 = thE S (a, d, n) := by unfold thE; rw [if_pos (.inr (.inl h2))]
    subst e1; subst e2; subst e3; subst e4
    exact (rthing_hi a1 a2 a3 a4 c1 c2 c3 c4 S hok a d n w h2).mono fun e w' h => h.of he
  by_cases ha1 : a = 1
  · subst ha1
    have hn : ¬ ((1 : Int) < 1 ∨ (3 : Int) < 1 ∨ ((1 : Int) ≠ 1 ∧ d ≠ 0)) := by omega
    have key : thE S (1, d, n) = if decide (0 ≤ d ∧ d < S.ds.length) = false then 4 else if keyIn S d n = false then 7 else 0 := by
      unfold thE
      rw [if_neg hn, there1]
      congr 1
      by_cases hk : keyIn S d n = false
      · rw [if_pos hk, if_pos ⟨rfl, hk⟩]
      · rw [if_neg hk, if_neg (fun h => hk h.2)]
    by_cases hd0 : d < 0
    · have he : 4 = thE S (1, d, n) := by rw [key, if_pos (by rw [decide_eq_false_iff_not]; omega)]
      subst e1; subst e2; subst e3; subst e4
      exact (rthing_1_lo a1 a2 a3 a4 c1 c2 c3 c4 S hok d n w hd0).mono fun e w' h => h.of he
    by_cases hd1 : d < (S.ds.length : Int)
    · obtain ⟨k, rfl⟩ := Int.eq_ofNat_of_zero_le (show 0 ≤ d by omega)
      have hk : k < S.ds.length := by omega
      rw [if_neg (by rw [decide_eq_false_iff_not]; omega), keyIn_at hk] at key
      by_cases hl : n < S.ds[k].lo
      · have he : 7 = thE S (1, (k : Int), n) := by rw [key, if_pos (by rw [decide_eq_false_iff_not]; omega)]
        exact (rthing_key_lo v1 v2 v3 v4 S hok f k n w hsp hk hl).mono fun e w' h => h.of he
      by_cases hh : S.ds[k].hi < n
      · have he : 7 = thE S (1, (k : Int), n) := by rw [key, if_pos (by rw [decide_eq_false_iff_not]; omega)]
        exact (rthing_key_hi v1 v2 v3 v4 S hok f k n w hsp hk hl hh).mono fun e w' h => h.of he
      have he : 0 = thE S (1, (k : Int), n) := by rw [key, if_neg (by rw [decide_eq_false_iff_not]; omega)]
      exact (rthing_key_ok v1 v2 v3 v4 S hok f k n w hsp hk hl hh).mono fun e w' h => h.of he
    · have he : 4 = thE S (1, d, n) := by rw [key, if_pos (by rw [decide_eq_false_iff_not]; omega)]
      subst e1; subst e2; subst e3; subst e4
      exact (rthing_1_hi a1 a2 a3 a4 c1 c2 c3 c4 S hok d n w (by omega) hd1).mono fun e w' h => h.of he
  have rest : ∀ (k : Int) (len : Nat), a = k → k ≠ 1 → 1 ≤ k → k ≤ 3 → (∀ d n, there S k d n = decide (0 ≤ n ∧ n < len)) → (d ≠ 0 → 2 = thE S (a, d, n)) ∧ (d = 0 → (n < 0 ∨ ¬ n < len) → 4 = thE S (a, d, n)) ∧ (d = 0 → 0 ≤ n → n < len → 0 = thE S (a, d, n)) := by
    rintro k len rfl h1 h2 h3 h4
    refine ⟨fun hd => ?_, fun hd hn => ?_, fun hd hn hl => ?_⟩
    · unfold thE; rw [if_pos (.inr (.inr ⟨h1, hd⟩))]
    · unfold thE
      rw [if_neg (by simp only; omega), h4, if_pos (by rw [decide_eq_false_iff_not]; simp only; omega)]
    · unfold thE
      rw [if_neg (by simp only; omega), h4, if_neg (by rw [decide_eq_false_iff_not]; simp only; omega), if_neg (fun h => h1 h.1)]
  subst e1; subst e2; subst e3; subst e4
  by_cases ha2 : a = 2
  · obtain ⟨r1, r2, r3⟩ := rest 2 S.ss.length ha2 (by decide) (by decide) (by decide) (there2 S)
    subst ha2
    by_cases hd : d = 0
    · subst hd
      by_cases hn : n < 0
      · exact (rthing_2_lo a1 a2 a3 a4 c1 c2 c3 c4 S hok n w hn).mono fun e w' h => h.of (r2 rfl (.inl hn))
      by_cases hl : n < (S.ss.length : Int)
      · exact (rthing_2_ok a1 a2 a3 a4 c1 c2 c3 c4 S hok n w (by omega) hl).mono fun e w' h => h.of (r3 rfl (by omega) hl)
      · exact (rthing_2_hi a1 a2 a3 a4 c1 c2 c3 c4 S hok n w (by omega) hl).mono fun e w' h => h.of (r2 rfl (.inr hl))
    · exact (rthing_2_div a1 a2 a3 a4 c1 c2 c3 c4 S hok d n w hd).mono fun e w' h => h.of (r1 hd)
  · have ha3 : a = 3 := by omega
    obtain ⟨r1, r2, r3⟩ := rest 3 S.cs.length ha3 (by decide) (by decide) (by decide) (there3 S)
    subst ha3
    by_cases hd : d = 0
    · subst hd
      by_cases hn : n < 0
      · exact (rthing_3_lo a1 a2 a3 a4 c1 c2 c3 c4 S hok n w hn).mono fun e w' h => h.of (r2 rfl (.inl hn))
      by_cases hl : n < (S.cs.length : Int)
      · exact (rthing_3_ok a1 a2 a3 a4 c1 c2 c3 c4 S hok n w (by omega) hl).mono fun e w' h => h.of (r3 rfl (by omega) hl)
      · exact (rthing_3_hi a1 a2 a3 a4 c1 c2 c3 c4 S hok n w (by omega) hl).mono fun e w' h => h.of (r2 rfl (.inr hl))
    · exact (rthing_3_div a1 a2 a3 a4 c1 c2 c3 c4 S hok d n w hd).mono fun e w' h => h.of (r1 hd)
set_option maxRecDepth 100000 in
set_option maxHeartbeats 6400000 in
theorem rscale_any (v1 v2 v3 v4 : Value) (S : Sp) (ok : SpOk S) (f : Nat → Value) (rt : Int) (th : List Th) (vt : Value) (w : World) (hsp : SpRd w v1 v2 v3 v4 f S) (hl : th.length ≤ 1000000) (hth : ARd w vt 3 (th.map thC)) :
    Calls Tryz.prog 12 #[.agg #[v1, v2, v3, v4], .agg #[.int .i64 rt, vt]] w (NumR (scE S rt th) w) := by
  obtain ⟨at', ct, rfl⟩ := hth.thForm
  have hb0 : Below w.heap.size w ((w.alloc (.cells #[v1, v2, v3, v4] 27)).alloc (.cells #[.int .i64 rt, .slice at' th.length ct] 31)) := below_two w _ _
  have HX := Lib.hid ((Blk.new w 27 #[v1, v2, v3, v4]).alloc (.cells #[.int .i64 rt, .slice at' th.length ct] 31))
  have HY := Lib.hid (Blk.new (w.alloc (.cells #[v1, v2, v3, v4] 27)) 31 #[.int .i64 rt, .slice at' th.length ct])
  rw [World.size_alloc] at HY
  have HB0 := Lib.hid hb0
  have HSP := Lib.hid hsp
  have HOK := Lib.hid ok
  have HTH := Lib.hid hth
  obtain ⟨fl, er, hck⟩ : ∃ (fl : Int × Int × Int) (er : Int), ckV (checkP S) = .tuple #[.agg #[.int .i64 fl.1, .int .i64 fl.2.1, .int .i64 fl.2.2], .int .i64 er] ∧ (checkP S).2 = er := ⟨_, _, rfl, rfl⟩
  have HCK := Lib.hid hck.1
  have HER := Lib.hid hck.2
  clear hb0 hsp ok hth hck
  go_enter Tryz.func12, Tryz.ntmps12
  go_wp2_with fail
  refine (rcheck_any v1 v2 v3 v4 S HOK.out _ f (HSP.out.later HB0.out)).mono ?_
  rw [HCK.out]
  rintro e W1 ⟨rfl, hb1⟩
  obtain ⟨W2, hw2⟩ : ∃ W2, W1.alloc (.cells #[.int .i64 fl.1, .int .i64 fl.2.1, .int .i64 fl.2.2] 94) = W2 := ⟨_, rfl⟩
  have hb2 : Below W1.heap.size W1 W2 := by rw [← hw2]; exact (Below.refl _ _).alloc (Nat.le_refl _) _
  have HB := Lib.hid (below_step (below_step HB0.out hb1) hb2)
  have HX2 := Lib.hid ((HX.out.below hb1).below hb2)
  have HY2 := Lib.hid ((HY.out.below hb1).below hb2)
  have y0 : W2.cell? ⟨w.heap.size + 1, 0, none⟩ = some (.int .i64 rt) := HY2.out.cell 0
  have y1 : W2.cell? ⟨w.heap.size + 1, 1, none⟩ = some (.slice at' th.length ct) := HY2.out.cell 1
  clear hb1 hb2
  by_cases he : er = 0
  · have HE : RowKit.Hid ((checkP S).2 = 0) := by rw [HER.out]; exact Lib.hid he
    subst he
    by_cases hr : rt < 1
    · have HEX := Lib.hid (scE_rt (th := th) HE.out (.inl hr))
      go_wp2
      go_ret
      exact numR HEX.out HB.out
    · have hr1 : 1 ≤ rt := by omega
      clear hr
      by_cases hr : 1000 < rt
      · have HEX := Lib.hid (scE_rt (th := th) HE.out (.inr hr))
        go_wp2
        go_ret
        exact numR HEX.out HB.out
      · have hr2 : rt ≤ 1000 := by omega
        have HRT : RowKit.Hid (¬ (rt < 1 ∨ 1000 < rt)) := Lib.hid (by omega)
        clear hr
        by_cases hz : th.length = 0
        · have HEX := Lib.hid (scE_none HE.out HRT.out hz)
          have hz2 : ((th.length : Int) == 0) = true := by rw [beq_iff_eq]; omega
          clear hz
          go_wp2
          go_ret
          exact numR HEX.out HB.out
        · have hz1 : 0 < th.length := by omega
          have hz2 : ((th.length : Int) == 0) = false := by rw [beq_eq_false_iff_ne]; omega
          clear hz
          by_cases hg : 127 < th.length
          · have HEX := Lib.hid (scE_long HE.out HRT.out hg)
            have hg2 : decide ((127 : Int) < (th.length : Int)) = true := by rw [decide_eq_true_iff]; omega
            clear hg
            go_wp2
            go_ret
            exact numR HEX.out HB.out
          · have hg2 : decide ((127 : Int) < (th.length : Int)) = false := by rw [decide_eq_false_iff_not]; omega
            have hg3 : th.length ≤ 127 := by omega
            have HOF := Lib.hid (scE_of HE.out HRT.out hz1 hg)
            clear hg
            go_wp2
            clear y0 y1 hw2
            go_loopw [7] (fun x wr => ∃ i : Nat, i ≤ th.length ∧ x = .int .i64 i ∧ RowKit.Hid (firstErr (scF S th) i = 0) ∧ RowKit.Hid (Below W2.heap.size W2 wr)) (fun x _ => th.length - (intOf x).toNat)
            case atStart => exact ⟨0, by omega, rfl, Lib.hid rfl, Lib.hid (Below.refl _ _)⟩
            obtain ⟨i, hi, rfl, hF, hW⟩ := hrel
            have y1 : wr.cell? ⟨w.heap.size + 1, 1, none⟩ = some (.slice at' th.length ct) := (HY2.out.below hW.out).cell 1
            by_cases hlt : i < th.length
            · have hi2 : (i : Int) < (th.length : Int) := by omega
              have HBW := Lib.hid (below_step HB.out hW.out)
              obtain ⟨b, o, c', ev', hbl, q0, q1, q2⟩ := (HTH.out.later HBW.out).thAt i hlt
              cases ev'
              have x0 : wr.cell? ⟨w.heap.size, 0, none⟩ = some v1 := (HX2.out.below hW.out).cell 0
              have x1 : wr.cell? ⟨w.heap.size, 1, none⟩ = some v2 := (HX2.out.below hW.out).cell 1
              have x2 : wr.cell? ⟨w.heap.size, 2, none⟩ = some v3 := (HX2.out.below hW.out).cell 2
              have x3 : wr.cell? ⟨w.heap.size, 3, none⟩ = some v4 := (HX2.out.below hW.out).cell 3
              obtain ⟨te, hte⟩ : ∃ te, te = thE S th[i] := ⟨_, rfl⟩
              have HTE := Lib.hid hte
              have HWD := Lib.hid (below_drew hW.out)
              have HBD := Lib.hid (below_drew HBW.out)
              clear hte
              by_cases hte : te = 0
              · subst hte
                go_wp2_with fail
                go_region_with (go_at_call 43; refine (rthing_any v1 v2 v3 v4 S HOK.out f th[i] wr.drew (HSP.out.later HBD.out)).mono ?_; rw [← HTE.out]; rintro e W3 ⟨rfl, hb3⟩; have HW3 := Lib.hid (below_step HWD.out hb3); clear hb3)
                all_goals
                  clear x0 x1 x2 x3 y1 q0 q1 q2
                  go_wp2
                  go_loopw [9] (fun x wr => ∃ k : Nat, k ≤ i ∧ x = .int .i64 k ∧ RowKit.Hid (th[i] ∉ th.take k) ∧ RowKit.Hid (Below W2.heap.size W2 wr)) (fun x _ => i - (intOf x).toNat)
                  case atStart => exact ⟨0, by omega, rfl, Lib.hid (by simp), HW3⟩
                  obtain ⟨k, hk, rfl, hN, hW4⟩ := hrel
                  have y1 : wr.cell? ⟨w.heap.size + 1, 1, none⟩ = some (.slice (some ⟨b, o, none⟩) th.length ct) := (HY2.out.below hW4.out).cell 1
                  have HB4 := Lib.hid (below_step HB.out hW4.out)
                  by_cases hki : k < i
                  · have hki2 : (k : Int) < (i : Int) := by omega
                    have hkt : k < th.length := by omega
                    have hkt2 : (k : Int) < (th.length : Int) := by omega
                    obtain ⟨b1, o1, c1, ev1, hbl1, q0, q1, q2⟩ := (HTH.out.later HB4.out).thAt i hlt
                    simp only [Value.slice.injEq, Option.some.injEq, Addr.mk.injEq, true_and, and_true] at ev1
                    obtain ⟨⟨rfl, rfl⟩, rfl⟩ := ev1
                    obtain ⟨b2, o2, c2, ev2, hbl2, p0, p1, p2⟩ := (HTH.out.later HB4.out).thAt k hkt
                    simp only [Value.slice.injEq, Option.some.injEq, Addr.mk.injEq, true_and, and_true] at ev2
                    obtain ⟨⟨rfl, rfl⟩, rfl⟩ := ev2
                    by_cases he : th[k] = th[i]
                    · have heq : ∀ w, (binOp .eql 82 (.agg #[.int .i64 th[k].1, .int .i64 th[k].2.1, .int .i64 th[k].2.2]) (.agg #[.int .i64 th[i].1, .int .i64 th[i].2.1, .int .i64 th[i].2.2])).run Tryz.prog w = .ok (.bool true) w := fun w => by
                        rw [run_eqTh, decide_eq_true he]
                      have HEX := Lib.hid (HOF.out.trans (firstErr_hit hF.out hlt (scF_twice hlt HTE.out.symm (by rw [← he]; exact List.mem_take_iff_getElem.2 ⟨k, by omega, rfl⟩)) (by decide)))
                      clear he
                      go_wp2_with fail
                      go_quiet (fail)
                      go_wp2
                      go_ret
                      exact numR HEX.out (below_drewN HB4.out _)
                    · have heq : ∀ w, (binOp .eql 82 (.agg #[.int .i64 th[k].1, .int .i64 th[k].2.1, .int .i64 th[k].2.2]) (.agg #[.int .i64 th[i].1, .int .i64 th[i].2.1, .int .i64 th[i].2.2])).run Tryz.prog w = .ok (.bool false) w := fun w => by
                        rw [run_eqTh, decide_eq_false he]
                      have HN := Lib.hid (not_memTh_next hkt hN.out he)
                      clear he
                      go_wp2_with fail
                      go_quiet (fail)
                      go_wp2
                      go_roundw
                      case rel => exact ⟨k + 1, by omega, by go_num, HN, Lib.hid (below_drewN hW4.out _)⟩
                      case measure => simp [intOf]; omega
                  · have hki2 : ¬ ((k : Int) < (i : Int)) := by omega
                    have hke : k = i := by omega
                    have HF2 : RowKit.Hid (firstErr (scF S th) (i + 1) = 0) := Lib.hid (by rw [firstErr_next hF.out]; exact scF_good hlt HTE.out.symm (by have := hN.out; rw [hke] at this; exact this))
                    clear hke
                    go_wp2
                    go_roundw
                    case rel => exact ⟨i + 1, by omega, by go_num, HF2, hW4⟩
                    case measure => simp [intOf]; omega
              · have HEX := Lib.hid (HOF.out.trans (firstErr_hit hF.out hlt (scF_thing hlt HTE.out.symm hte) hte))
                have ht2 : (te == 0) = false := beq_eq_false_iff_ne.2 hte
                have HB3 := Lib.hid HB.out
                clear hte
                go_wp2_with fail
                go_region_with (go_at_call 43; refine (rthing_any v1 v2 v3 v4 S HOK.out f th[i] wr.drew (HSP.out.later HBD.out)).mono ?_; rw [← HTE.out]; rintro e W3 ⟨rfl, hb3⟩; have HW3 := Lib.hid (below_step HBD.out hb3); clear hb3)
                all_goals
                  go_wp2
                  go_ret
                  exact numR HEX.out HW3.out
            · have hi2 : ¬ ((i : Int) < (th.length : Int)) := by omega
              have hie : i = th.length := by omega
              have HEX : RowKit.Hid (scE S rt th = 0) := Lib.hid (by rw [HOF.out, ← hie]; exact hF.out)
              have HBW := Lib.hid (below_step HB.out hW.out)
              clear hie
              go_wp2
              go_ret
              exact numR HEX.out HBW.out
  · have HEX := Lib.hid (scE_sp (rt := rt) (th := th) HER.out he)
    have he2 : (er == 0) = false := beq_eq_false_iff_ne.2 he
    clear he
    go_wp2
    go_ret
    exact numR HEX.out HB.out
end Go.Proofs.YtppccacfdpkkgaaGreatDoor
