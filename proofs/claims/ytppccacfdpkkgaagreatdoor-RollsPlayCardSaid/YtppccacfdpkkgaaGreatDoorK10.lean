/-
  CONTRACTS: the error of a thing of a scale. CONTRACTS: the error of a thing of a scale; Index and Contains of things. CONTRACTS: Index and Contains of things. CONTRACTS: CheckScale.
-/
import Derived.Test.YtppccacfdpkkgaaGreatDoorH
import Derived.Test.YtppccacfdpkkgaaGreatDoorC
import Derived.Test.YtppccacfdpkkgaaGreatDoorKRow
import Derived.Deep.QuietTactic
import Derived.BigQuiet
import Derived.Laws.StructEq
import Derived.Deep.RegionWith
namespace Go.Proofs.YtppccacfdpkkgaaGreatDoor
open Go.RowKit
/-- How a call ends that returns a number. -/
def NumR (n : Int) (w : World) (e : Ending) (w' : World) : Prop := e = .returned (.int .i64 n) ∧ Below w.heap.size w w'
theorem numR {n m : Int} (h : n = m) {w w' : World} (hb : Below w.heap.size w w') : NumR n w (.returned (.int .i64 m)) w' := ⟨by rw [h], hb⟩
theorem below_two (w : World) (a b : Obj) : Below w.heap.size w ((w.alloc a).alloc b) := ((Below.refl _ _).alloc (Nat.le_refl _) _).alloc (by simp) _
theorem keyIn_at {S : Sp} {d : Nat} (h : d < S.ds.length) (n : Int) : keyIn S d n = decide (S.ds[d].lo ≤ n ∧ n ≤ S.ds[d].hi) := by
  unfold keyIn
  rw [Int.toNat_natCast, List.getElem?_eq_getElem h]
theorem there1 (S : Sp) (d n : Int) : there S 1 d n = decide (0 ≤ d ∧ d < S.ds.length) := rfl
theorem there2 (S : Sp) (d n : Int) : there S 2 d n = decide (0 ≤ n ∧ n < S.ss.length) := rfl
theorem there3 (S : Sp) (d n : Int) : there S 3 d n = decide (0 ≤ n ∧ n < S.cs.length) := rfl
set_option maxRecDepth 100000 in
set_option maxHeartbeats 1600000 in
theorem thing_lo (a1 a2 a3 a4 : Option Addr) (c1 c2 c3 c4 : Nat) (S : Sp) (hok : SpOk S) (a d n : Int) (w : World) (h : a < 1) :
    Calls Tryz.prog 41 #[.agg #[.slice a1 S.ds.length c1, .slice a2 S.rs.length c2, .slice a3 S.ss.length c3, .slice a4 S.cs.length c4], .agg #[.int .i64 a, .int .i64 d, .int .i64 n]] w (NumR (2) w) := by
  have q1 := hok.d
  have q2 := hok.s
  have q3 := hok.c
  clear hok
  go_enter Tryz.func41, Tryz.ntmps41
  go_wp2
  go_ret
  exact numR rfl (below_two w _ _)
set_option maxRecDepth 100000 in
set_option maxHeartbeats 1600000 in
theorem thing_hi (a1 a2 a3 a4 : Option Addr) (c1 c2 c3 c4 : Nat) (S : Sp) (hok : SpOk S) (a d n : Int) (w : World) (h : 3 < a) :
    Calls Tryz.prog 41 #[.agg #[.slice a1 S.ds.length c1, .slice a2 S.rs.length c2, .slice a3 S.ss.length c3, .slice a4 S.cs.length c4], .agg #[.int .i64 a, .int .i64 d, .int .i64 n]] w (NumR (2) w) := by
  have q1 := hok.d
  have q2 := hok.s
  have q3 := hok.c
  clear hok
  have h1 : 1 ≤ a := by omega
  go_enter Tryz.func41, Tryz.ntmps41
  go_wp2
  go_ret
  exact numR rfl (below_two w _ _)
set_option maxRecDepth 100000 in
set_option maxHeartbeats 1600000 in
theorem thing_2_div (a1 a2 a3 a4 : Option Addr) (c1 c2 c3 c4 : Nat) (S : Sp) (hok : SpOk S) (d n : Int) (w : World) (h : ¬ d = 0) :
    Calls Tryz.prog 41 #[.agg #[.slice a1 S.ds.length c1, .slice a2 S.rs.length c2, .slice a3 S.ss.length c3, .slice a4 S.cs.length c4], .agg #[.int .i64 2, .int .i64 d, .int .i64 n]] w (NumR (2) w) := by
  have q1 := hok.d
  have q2 := hok.s
  have q3 := hok.c
  clear hok
  have hb : (d == 0) = false := beq_eq_false_iff_ne.2 h
  go_enter Tryz.func41, Tryz.ntmps41
  go_wp2
  go_ret
  exact numR rfl (below_two w _ _)
set_option maxRecDepth 100000 in
set_option maxHeartbeats 1600000 in
theorem thing_2_lo (a1 a2 a3 a4 : Option Addr) (c1 c2 c3 c4 : Nat) (S : Sp) (hok : SpOk S) (n : Int) (w : World) (h : n < 0) :
    Calls Tryz.prog 41 #[.agg #[.slice a1 S.ds.length c1, .slice a2 S.rs.length c2, .slice a3 S.ss.length c3, .slice a4 S.cs.length c4], .agg #[.int .i64 2, .int .i64 0, .int .i64 n]] w (NumR (4) w) := by
  have q1 := hok.d
  have q2 := hok.s
  have q3 := hok.c
  clear hok
  go_enter Tryz.func41, Tryz.ntmps41
  go_wp2_with fail
  go_quiet (fail)
  go_wp2_with fail
  go_quiet (fail)
  go_wp2_with fail
  go_ret
  exact numR rfl (below_drewN (below_two w _ _) _)
set_option maxRecDepth 100000 in
set_option maxHeartbeats 1600000 in
theorem thing_2_hi (a1 a2 a3 a4 : Option Addr) (c1 c2 c3 c4 : Nat) (S : Sp) (hok : SpOk S) (n : Int) (w : World) (h0 : 0 ≤ n) (h : ¬ n < (S.ss.length : Int)) :
    Calls Tryz.prog 41 #[.agg #[.slice a1 S.ds.length c1, .slice a2 S.rs.length c2, .slice a3 S.ss.length c3, .slice a4 S.cs.length c4], .agg #[.int .i64 2, .int .i64 0, .int .i64 n]] w (NumR (4) w) := by
  have q1 := hok.d
  have q2 := hok.s
  have q3 := hok.c
  clear hok
  have h1 : (S.ss.length : Int) ≤ n := by omega
  have h2 : decide (n < 0) = false := by rw [decide_eq_false_iff_not]; omega
  go_enter Tryz.func41, Tryz.ntmps41
  go_wp2_with fail
  go_quiet (fail)
  go_wp2_with fail
  go_quiet (fail)
  go_wp2_with fail
  go_ret
  exact numR rfl (below_drewN (below_two w _ _) _)
set_option maxRecDepth 100000 in
set_option maxHeartbeats 1600000 in
theorem thing_2_ok (a1 a2 a3 a4 : Option Addr) (c1 c2 c3 c4 : Nat) (S : Sp) (hok : SpOk S) (n : Int) (w : World) (h0 : 0 ≤ n) (h : n < (S.ss.length : Int)) :
    Calls Tryz.prog 41 #[.agg #[.slice a1 S.ds.length c1, .slice a2 S.rs.length c2, .slice a3 S.ss.length c3, .slice a4 S.cs.length c4], .agg #[.int .i64 2, .int .i64 0, .int .i64 n]] w (NumR (0) w) := by
  have q1 := hok.d
  have q2 := hok.s
  have q3 := hok.c
  clear hok
  have h1 : decide ((S.ss.length : Int) ≤ n) = false := by rw [decide_eq_false_iff_not]; omega
  have h2 : decide (n < 0) = false := by rw [decide_eq_false_iff_not]; omega
  go_enter Tryz.func41, Tryz.ntmps41
  go_wp2_with fail
  go_quiet (fail)
  go_wp2_with fail
  go_quiet (fail)
  go_wp2_with fail
  go_ret
  exact numR rfl (below_drewN (below_two w _ _) _)
set_option maxRecDepth 100000 in
set_option maxHeartbeats 1600000 in
theorem thing_3_div (a1 a2 a3 a4 : Option Addr) (c1 c2 c3 c4 : Nat) (S : Sp) (hok : SpOk S) (d n : Int) (w : World) (h : ¬ d = 0) :
    Calls Tryz.prog 41 #[.agg #[.slice a1 S.ds.length c1, .slice a2 S.rs.length c2, .slice a3 S.ss.length c3, .slice a4 S.cs.length c4], .agg #[.int .i64 3, .int .i64 d, .int .i64 n]] w (NumR (2) w) := by
  have q1 := hok.d
  have q2 := hok.s
  have q3 := hok.c
  clear hok
  have hb : (d == 0) = false := beq_eq_false_iff_ne.2 h
  go_enter Tryz.func41, Tryz.ntmps41
  go_wp2
  go_ret
  exact numR rfl (below_two w _ _)
set_option maxRecDepth 100000 in
set_option maxHeartbeats 1600000 in
theorem thing_3_lo (a1 a2 a3 a4 : Option Addr) (c1 c2 c3 c4 : Nat) (S : Sp) (hok : SpOk S) (n : Int) (w : World) (h : n < 0) :
    Calls Tryz.prog 41 #[.agg #[.slice a1 S.ds.length c1, .slice a2 S.rs.length c2, .slice a3 S.ss.length c3, .slice a4 S.cs.length c4], .agg #[.int .i64 3, .int .i64 0, .int .i64 n]] w (NumR (4) w) := by
  have q1 := hok.d
  have q2 := hok.s
  have q3 := hok.c
  clear hok
  go_enter Tryz.func41, Tryz.ntmps41
  go_wp2_with fail
  go_quiet (fail)
  go_wp2_with fail
  go_quiet (fail)
  go_wp2_with fail
  go_ret
  exact numR rfl (below_drewN (below_two w _ _) _)
set_option maxRecDepth 100000 in
set_option maxHeartbeats 1600000 in
theorem thing_3_hi (a1 a2 a3 a4 : Option Addr) (c1 c2 c3 c4 : Nat) (S : Sp) (hok : SpOk S) (n : Int) (w : World) (h0 : 0 ≤ n) (h : ¬ n < (S.cs.length : Int)) :
    Calls Tryz.prog 41 #[.agg #[.slice a1 S.ds.length c1, .slice a2 S.rs.length c2, .slice a3 S.ss.length c3, .slice a4 S.cs.length c4], .agg #[.int .i64 3, .int .i64 0, .int .i64 n]] w (NumR (4) w) := by
  have q1 := hok.d
  have q2 := hok.s
  have q3 := hok.c
  clear hok
  have h1 : (S.cs.length : Int) ≤ n := by omega
  have h2 : decide (n < 0) = false := by rw [decide_eq_false_iff_not]; omega
  go_enter Tryz.func41, Tryz.ntmps41
  go_wp2_with fail
  go_quiet (fail)
  go_wp2_with fail
  go_quiet (fail)
  go_wp2_with fail
  go_ret
  exact numR rfl (below_drewN (below_two w _ _) _)
set_option maxRecDepth 100000 in
set_option maxHeartbeats 1600000 in
theorem thing_3_ok (a1 a2 a3 a4 : Option Addr) (c1 c2 c3 c4 : Nat) (S : Sp) (hok : SpOk S) (n : Int) (w : World) (h0 : 0 ≤ n) (h : n < (S.cs.length : Int)) :
    Calls Tryz.prog 41 #[.agg #[.slice a1 S.ds.length c1, .slice a2 S.rs.length c2, .slice a3 S.ss.length c3, .slice a4 S.cs.length c4], .agg #[.int .i64 3, .int .i64 0, .int .i64 n]] w (NumR (0) w) := by
  have q1 := hok.d
  have q2 := hok.s
  have q3 := hok.c
  clear hok
  have h1 : decide ((S.cs.length : Int) ≤ n) = false := by rw [decide_eq_false_iff_not]; omega
  have h2 : decide (n < 0) = false := by rw [decide_eq_false_iff_not]; omega
  go_enter Tryz.func41, Tryz.ntmps41
  go_wp2_with fail
  go_quiet (fail)
  go_wp2_with fail
  go_quiet (fail)
  go_wp2_with fail
  go_ret
  exact numR rfl (below_drewN (below_two w _ _) _)
set_option maxRecDepth 100000 in
set_option maxHeartbeats 1600000 in
theorem thing_1_lo (a1 a2 a3 a4 : Option Addr) (c1 c2 c3 c4 : Nat) (S : Sp) (hok : SpOk S) (d n : Int) (w : World) (h : d < 0) :
    Calls Tryz.prog 41 #[.agg #[.slice a1 S.ds.length c1, .slice a2 S.rs.length c2, .slice a3 S.ss.length c3, .slice a4 S.cs.length c4], .agg #[.int .i64 1, .int .i64 d, .int .i64 n]] w (NumR (4) w) := by
  have q1 := hok.d
  have q2 := hok.s
  have q3 := hok.c
  clear hok
  go_enter Tryz.func41, Tryz.ntmps41
  go_wp2_with fail
  go_quiet (fail)
  go_wp2_with fail
  go_ret
  exact numR rfl (below_drewN (below_two w _ _) _)
set_option maxRecDepth 100000 in
set_option maxHeartbeats 1600000 in
theorem thing_1_hi (a1 a2 a3 a4 : Option Addr) (c1 c2 c3 c4 : Nat) (S : Sp) (hok : SpOk S) (d n : Int) (w : World) (h0 : 0 ≤ d) (h : ¬ d < (S.ds.length : Int)) :
    Calls Tryz.prog 41 #[.agg #[.slice a1 S.ds.length c1, .slice a2 S.rs.length c2, .slice a3 S.ss.length c3, .slice a4 S.cs.length c4], .agg #[.int .i64 1, .int .i64 d, .int .i64 n]] w (NumR (4) w) := by
  have q1 := hok.d
  have q2 := hok.s
  have q3 := hok.c
  clear hok
  have h1 : (S.ds.length : Int) ≤ d := by omega
  have h2 : decide (d < 0) = false := by rw [decide_eq_false_iff_not]; omega
  go_enter Tryz.func41, Tryz.ntmps41
  go_wp2_with fail
  go_quiet (fail)
  go_wp2_with fail
  go_ret
  exact numR rfl (below_drewN (below_two w _ _) _)
set_option maxRecDepth 100000 in
set_option maxHeartbeats 1600000 in
theorem thing_key_lo (v1 v2 v3 v4 : Value) (S : Sp) (hok : SpOk S) (f : Nat → Value) (d : Nat) (n : Int) (w : World) (hsp : SpRd w v1 v2 v3 v4 f S) (hd : d < S.ds.length) (h : n < S.ds[d].lo) :
    Calls Tryz.prog 41 #[.agg #[v1, v2, v3, v4], .agg #[.int .i64 1, .int .i64 d, .int .i64 n]] w (NumR (7) w) := by
  have q1 := hok.d
  obtain ⟨⟨a1, e1, rfl⟩, ⟨a2, e2, rfl⟩, ⟨a3, e3, rfl⟩, ⟨a4, e4, rfl⟩⟩ := hsp.forms
  obtain ⟨b, o, c, ev, hbl, r0, r1, r2⟩ := hsp.dAt d hd
  cases ev
  have k0 := fun x => cell_alloc r0 x
  have k1 := fun x => cell_alloc r1 x
  have k2 := fun x => cell_alloc r2 x
  have m0 := fun x y => cell_alloc (k0 x) y
  have m1 := fun x y => cell_alloc (k1 x) y
  have m2 := fun x y => cell_alloc (k2 x) y
  have hd2 : (d : Int) < (S.ds.length : Int) := by omega
  have hd3 : decide ((S.ds.length : Int) ≤ (d : Int)) = false := by rw [decide_eq_false_iff_not]; omega
  obtain ⟨lo, hlo⟩ : ∃ lo, lo = S.ds[d].lo := ⟨_, rfl⟩
  obtain ⟨hi, hhi⟩ : ∃ hi, hi = S.ds[d].hi := ⟨_, rfl⟩
  rw [← hlo] at r1 k1 m1
  rw [← hhi] at r2 k2 m2
  rw [← hlo] at h
  clear hlo hhi hok hsp
  go_enter Tryz.func41, Tryz.ntmps41
  go_wp2_with fail
  go_quiet (fail)
  go_wp2
  go_ret
  exact numR rfl ((below_drewN (below_two w _ _) _).alloc (by simp; omega) _)
set_option maxRecDepth 100000 in
set_option maxHeartbeats 1600000 in
theorem thing_key_hi (v1 v2 v3 v4 : Value) (S : Sp) (hok : SpOk S) (f : Nat → Value) (d : Nat) (n : Int) (w : World) (hsp : SpRd w v1 v2 v3 v4 f S) (hd : d < S.ds.length) (h0 : ¬ n < S.ds[d].lo) (h : S.ds[d].hi < n) :
    Calls Tryz.prog 41 #[.agg #[v1, v2, v3, v4], .agg #[.int .i64 1, .int .i64 d, .int .i64 n]] w (NumR (7) w) := by
  have q1 := hok.d
  obtain ⟨⟨a1, e1, rfl⟩, ⟨a2, e2, rfl⟩, ⟨a3, e3, rfl⟩, ⟨a4, e4, rfl⟩⟩ := hsp.forms
  obtain ⟨b, o, c, ev, hbl, r0, r1, r2⟩ := hsp.dAt d hd
  cases ev
  have k0 := fun x => cell_alloc r0 x
  have k1 := fun x => cell_alloc r1 x
  have k2 := fun x => cell_alloc r2 x
  have m0 := fun x y => cell_alloc (k0 x) y
  have m1 := fun x y => cell_alloc (k1 x) y
  have m2 := fun x y => cell_alloc (k2 x) y
  have hd2 : (d : Int) < (S.ds.length : Int) := by omega
  have hd3 : decide ((S.ds.length : Int) ≤ (d : Int)) = false := by rw [decide_eq_false_iff_not]; omega
  obtain ⟨lo, hlo⟩ : ∃ lo, lo = S.ds[d].lo := ⟨_, rfl⟩
  obtain ⟨hi, hhi⟩ : ∃ hi, hi = S.ds[d].hi := ⟨_, rfl⟩
  rw [← hlo] at r1 k1 m1
  rw [← hhi] at r2 k2 m2
  rw [← hlo] at h0
  rw [← hhi] at h
  have h1 : lo ≤ n := by omega
  have h2 : decide (n < lo) = false := by rw [decide_eq_false_iff_not]; omega
  clear h0
  clear hlo hhi hok hsp
  go_enter Tryz.func41, Tryz.ntmps41
  go_wp2_with fail
  go_quiet (fail)
  go_wp2
  go_ret
  exact numR rfl ((below_drewN (below_two w _ _) _).alloc (by simp; omega) _)
set_option maxRecDepth 100000 in
set_option maxHeartbeats 1600000 in
theorem thing_key_ok (v1 v2 v3 v4 : Value) (S : Sp) (hok : SpOk S) (f : Nat → Value) (d : Nat) (n : Int) (w : World) (hsp : SpRd w v1 v2 v3 v4 f S) (hd : d < S.ds.length) (h0 : ¬ n < S.ds[d].lo) (h : ¬ S.ds[d].hi < n) :
    Calls Tryz.prog 41 #[.agg #[v1, v2, v3, v4], .agg #[.int .i64 1, .int .i64 d, .int .i64 n]] w (NumR (0) w) := by
  have q1 := hok.d
  obtain ⟨⟨a1, e1, rfl⟩, ⟨a2, e2, rfl⟩, ⟨a3, e3, rfl⟩, ⟨a4, e4, rfl⟩⟩ := hsp.forms
  obtain ⟨b, o, c, ev, hbl, r0, r1, r2⟩ := hsp.dAt d hd
  cases ev
  have k0 := fun x => cell_alloc r0 x
  have k1 := fun x => cell_alloc r1 x
  have k2 := fun x => cell_alloc r2 x
  have m0 := fun x y => cell_alloc (k0 x) y
  have m1 := fun x y => cell_alloc (k1 x) y
  have m2 := fun x y => cell_alloc (k2 x) y
  have hd2 : (d : Int) < (S.ds.length : Int) := by omega
  have hd3 : decide ((S.ds.length : Int) ≤ (d : Int)) = false := by rw [decide_eq_false_iff_not]; omega
  obtain ⟨lo, hlo⟩ : ∃ lo, lo = S.ds[d].lo := ⟨_, rfl⟩
  obtain ⟨hi, hhi⟩ : ∃ hi, hi = S.ds[d].hi := ⟨_, rfl⟩
  rw [← hlo] at r1 k1 m1
  rw [← hhi] at r2 k2 m2
  rw [← hlo] at h0
  rw [← hhi] at h
  have h1 : lo ≤ n := by omega
  have h2 : decide (n < lo) = false := by rw [decide_eq_false_iff_not]; omega
  have h3 : n ≤ hi := by omega
  have h4 : decide (hi < n) = false := by rw [decide_eq_false_iff_not]; omega
  clear h0 h
  clear hlo hhi hok hsp
  go_enter Tryz.func41, Tryz.ntmps41
  go_wp2_with fail
  go_quiet (fail)
  go_wp2
  go_ret
  exact numR rfl ((below_drewN (below_two w _ _) _).alloc (by simp; omega) _)
theorem NumR.of {n m : Int} (h : n = m) {w : World} {e : Ending} {w' : World} (hr : NumR n w e w') : NumR m w e w' := by rw [← h]; exact hr
theorem thing_any (v1 v2 v3 v4 : Value) (S : Sp) (hok : SpOk S) (f : Nat → Value) (x : Th) (w : World) (hsp : SpRd w v1 v2 v3 v4 f S) :
    Calls Tryz.prog 41 #[.agg #[v1, v2, v3, v4], .agg #[.int .i64 x.1, .int .i64 x.2.1, .int .i64 x.2.2]] w (NumR (thE S x) w) := by
  obtain ⟨a, d, n⟩ := x
  obtain ⟨⟨a1, c1, e1⟩, ⟨a2, c2, e2⟩, ⟨a3, c3, e3⟩, ⟨a4, c4, e4⟩⟩ := hsp.forms
  by_cases h1 : a < 1
  · have he : 2 = thE S (a, d, n) := by unfold thE; rw [if_pos (.inl h1)]
    subst e1; subst e2; subst e3; subst e4
    exact (thing_lo a1 a2 a3 a4 c1 c2 c3 c4 S hok a d n w h1).mono fun e w' h => h.of he
  by_cases h2 : 3 < a
  · have he : 2 = thE S (a, d, n) := by unfold thE; rw [if_pos (.inr (.inl h2))]
    subst e1; subst e2; subst e3; subst e4
    exact (thing_hi a1 a2 a3 a4 c1 c2 c3 c4 S hok a d n w h2).mono fun e w' h => h.of he
  by_cases ha1 : a = 1
  · subst ha1
    have hn : ¬ ((1 : Int) < 1 ∨ (3 : Int) < 1 ∨ ((1 : Int) ≠ 1 ∧ d ≠ 0)) := by omega
    have key : thE S (1, d, n) = if decide (0 ≤ d ∧ d < S.ds.length) = false then 4 else if keyIn S d n = false then 7 else 0 := by
      unfold thE
      rw [if_neg hn, there1]
      congr 1
      by_cases hk : keyIn S d n = false
      · rw [if_pos hk, if_pos ⟨rfl, hk⟩]
      · rw [if_neg hk, if_neg (fun h => hk h.2)]
    by_cases hd0 : d < 0
    · have he : 4 = thE S (1, d, n) := by rw [key, if_pos (by rw [decide_eq_false_iff_not]; omega)]
      subst e1; subst e2; subst e3; subst e4
      exact (thing_1_lo a1 a2 a3 a4 c1 c2 c3 c4 S hok d n w hd0).mono fun e w' h => h.of he
    by_cases hd1 : d < (S.ds.length : Int)
    · obtain ⟨k, rfl⟩ := Int.eq_ofNat_of_zero_le (show 0 ≤ d by omega)
      have hk : k < S.ds.length := by omega
      rw [if_neg (by rw [decide_eq_false_iff_not]; omega), keyIn_at hk] at key
      by_cases hl : n < S.ds[k].lo
      · have he : 7 = thE S (1, (k : Int), n) := by rw [key, if_pos (by rw [decide_eq_false_iff_not]; omega)]
        exact (thing_key_lo v1 v2 v3 v4 S hok f k n w hsp hk hl).mono fun e w' h => h.of he
      by_cases hh : S.ds[k].hi < n
      · have he : 7 = thE S (1, (k : Int), n) := by rw [key, if_pos (by rw [decide_eq_false_iff_not]; omega)]
        exact (thing_key_hi v1 v2 v3 v4 S hok f k n w hsp hk hl hh).mono fun e w' h => h.of he
      have he : 0 = thE S (1, (k : Int), n) := by rw [key, if_neg (by rw [decide_eq_false_iff_not]; omega)]
      exact (thing_key_ok v1 v2 v3 v4 S hok f k n w hsp hk hl hh).mono fun e w' h => h.of he
    · have he : 4 = thE S (1, d, n) := by rw [key, if_pos (by rw [decide_eq_false_iff_not]; omega)]
      subst e1; subst e2; subst e3; subst e4
      exact (thing_1_hi a1 a2 a3 a4 c1 c2 c3 c4 S hok d n w (by omega) hd1).mono fun e w' h => h.of he
  have rest : ∀ (k : Int) (len : Nat), a = k → k ≠ 1 → 1 ≤ k → k ≤ 3 → (∀ d n, there S k d n = decide (0 ≤ n ∧ n < len)) → (d ≠ 0 → 2 = thE S (a, d, n)) ∧ (d = 0 → (n < 0 ∨ ¬ n < len) → 4 = thE S (a, d, n)) ∧ (d = 0 → 0 ≤ n → n < len → 0 = thE S (a, d, n)) := by
    rintro k len rfl h1 h2 h3 h4
    refine ⟨fun hd => ?_, fun hd hn => ?_, fun hd hn hl => ?_⟩
    · unfold thE; rw [if_pos (.inr (.inr ⟨h1, hd⟩))]
    · unfold thE
      rw [if_neg (by simp only; omega), h4, if_pos (by rw [decide_eq_false_iff_not]; simp only; omega)]
    · unfold thE
      rw [if_neg (by simp only; omega), h4, if_neg (by rw [decide_eq_false_iff_not]; simp only; omega), if_neg (fun h => h1 h.1)]
  subst e1; subst e2; subst e3; subst e4
  by_cases ha2 : a = 2
  · obtain ⟨r1, r2, r3⟩ := rest 2 S.ss.length ha2 (by decide) (by decide) (by decide) (there2 S)
    subst ha2
    by_cases hd : d = 0
    · subst hd
      by_cases hn : n < 0
      · exact (thing_2_lo a1 a2 a3 a4 c1 c2 c3 c4 S hok n w hn).mono fun e w' h => h.of (r2 rfl (.inl hn))
      by_cases hl : n < (S.ss.length : Int)
      · exact (thing_2_ok a1 a2 a3 a4 c1 c2 c3 c4 S hok n w (by omega) hl).mono fun e w' h => h.of (r3 rfl (by omega) hl)
      · exact (thing_2_hi a1 a2 a3 a4 c1 c2 c3 c4 S hok n w (by omega) hl).mono fun e w' h => h.of (r2 rfl (.inr hl))
    · exact (thing_2_div a1 a2 a3 a4 c1 c2 c3 c4 S hok d n w hd).mono fun e w' h => h.of (r1 hd)
  · have ha3 : a = 3 := by omega
    obtain ⟨r1, r2, r3⟩ := rest 3 S.cs.length ha3 (by decide) (by decide) (by decide) (there3 S)
    subst ha3
    by_cases hd : d = 0
    · subst hd
      by_cases hn : n < 0
      · exact (thing_3_lo a1 a2 a3 a4 c1 c2 c3 c4 S hok n w hn).mono fun e w' h => h.of (r2 rfl (.inl hn))
      by_cases hl : n < (S.cs.length : Int)
      · exact (thing_3_ok a1 a2 a3 a4 c1 c2 c3 c4 S hok n w (by omega) hl).mono fun e w' h => h.of (r3 rfl (by omega) hl)
      · exact (thing_3_hi a1 a2 a3 a4 c1 c2 c3 c4 S hok n w (by omega) hl).mono fun e w' h => h.of (r2 rfl (.inr hl))
    · exact (thing_3_div a1 a2 a3 a4 c1 c2 c3 c4 S hok d n w hd).mono fun e w' h => h.of (r1 hd)
def thC (x : Th) : List Value := [.int .i64 x.1, .int .i64 x.2.1, .int .i64 x.2.2]
def thV (x : Th) : Value := .agg #[.int .i64 x.1, .int .i64 x.2.1, .int .i64 x.2.2]
theorem thC_len (x : Th) : (thC x).length = 3 := rfl
/-- Where a thing first lies in a list (-1: nowhere). -/
def idxI (x : Th) (l : List Th) : Int := match fst0 (fun i => if l.getD i th0 = x then 1 else 0) l.length with
  | some i => (i : Int)
  | none => -1
theorem idxI_at {x : Th} {l : List Th} {k : Nat} (hk : k < l.length) (he : l[k] = x) (hn : x ∉ l.take k) : idxI x l = k := by
  unfold idxI
  rw [fst0_some (i := k) hk (by rw [getD_at hk, if_pos he]; decide) (fun j hj => ?_)]
  rw [getD_at (show j < l.length by omega), if_neg]
  intro e
  apply hn
  rw [← e, List.mem_take_iff_getElem]
  exact ⟨j, by omega, rfl⟩
theorem idxI_no {x : Th} {l : List Th} (hn : x ∉ l) : idxI x l = -1 := by
  unfold idxI
  rw [fst0_none.2 (fun j hj => ?_)]
  rw [getD_at hj, if_neg]
  intro e
  exact hn (by rw [← e]; exact List.getElem_mem hj)
theorem idxI_mem {x : Th} {l : List Th} (h : x ∈ l) : ∃ k : Nat, ∃ hk : k < l.length, l[k] = x ∧ idxI x l = k := by
  unfold idxI
  cases hf : fst0 (fun i => if l.getD i th0 = x then 1 else 0) l.length with
  | none =>
    obtain ⟨j, hj, e⟩ := List.getElem_of_mem h
    have := fst0_none.1 hf j hj
    rw [getD_at hj, if_pos e] at this
    cases this
  | some k =>
    obtain ⟨h1, h2, _⟩ := fst0_is hf
    refine ⟨k, h1, ?_, rfl⟩
    by_cases e : l.getD k th0 = x
    · rwa [getD_at h1] at e
    · rw [if_neg e] at h2; exact absurd rfl h2
theorem th_eq (x y : Th) : (x.1 == y.1 && x.2.1 == y.2.1 && x.2.2 == y.2.2) = decide (x = y) := by
  rw [Bool.eq_iff_iff]
  simp [Prod.ext_iff]
  omega
theorem run_eqTh (x y : Th) (w : World) : (binOp .eql 82 (.agg #[.int .i64 x.1, .int .i64 x.2.1, .int .i64 x.2.2]) (.agg #[.int .i64 y.1, .int .i64 y.2.1, .int .i64 y.2.2])).run Tryz.prog w = .ok (.bool (decide (x = y))) w := by
  rw [← th_eq, run_eql_struct]
  rw [run_equalIn_agg w 9999 82 _ _ (by kernel_rfl) (by kernel_rfl)]
  simp only [Program.fieldsOf, Tryz.underlying82]
  simp [go_sem, Tryz.underlying3, part]
  by_cases h1 : x.1 = y.1 <;> by_cases h2 : x.2.1 = y.2.1 <;> by_cases h3 : x.2.2 = y.2.2 <;> simp [h1, h2, h3]
theorem ARd.thAt {w : World} {v : Value} {l : List Th} (h : ARd w v 3 (l.map thC)) (i : Nat) (hi : i < l.length) : ∃ b o c, v = .slice (some ⟨b, o, none⟩) l.length c ∧ b < w.heap.size ∧ w.cell? ⟨b, o + i * 3, none⟩ = some (.int .i64 l[i].1) ∧ w.cell? ⟨b, o + i * 3 + 1, none⟩ = some (.int .i64 l[i].2.1) ∧ w.cell? ⟨b, o + i * 3 + 2, none⟩ = some (.int .i64 l[i].2.2) := by
  obtain ⟨b, o, c, e, hlt, hc⟩ := h.at i (by simpa using hi)
  rw [List.getElem_map] at hc
  rw [List.length_map] at e
  exact ⟨b, o, c, e, hlt, hc 0 _ rfl, hc 1 _ rfl, hc 2 _ rfl⟩
theorem ARd.thForm {w : World} {v : Value} {l : List Th} (h : ARd w v 3 (l.map thC)) : ∃ a c, v = .slice a l.length c := by
  obtain ⟨a, c, e⟩ := h.form
  exact ⟨a, c, by simpa using e⟩
theorem not_memTh_next {l : List Th} {x : Th} {k : Nat} (hk : k < l.length) (h : x ∉ l.take k) (he : l[k] ≠ x) : x ∉ l.take (k + 1) := by
  rw [List.take_succ_eq_append_getElem hk, List.mem_append, List.mem_singleton]
  rintro (h' | h')
  · exact h h'
  · exact he h'.symm
set_option maxRecDepth 100000 in
set_option maxHeartbeats 1600000 in
theorem index_any (l : List Th) (x : Th) (v : Value) (w : World) (hl : l.length ≤ 1000000) (hv : ARd w v 3 (l.map thC)) :
    Calls Tryz.prog 36 #[v, .agg #[.int .i64 x.1, .int .i64 x.2.1, .int .i64 x.2.2]] w (NumR (idxI x l) w) := by
  obtain ⟨a, c, ev⟩ := hv.thForm
  subst ev
  have hb0 : Below w.heap.size w (w.alloc (.cells #[.int .i64 x.1, .int .i64 x.2.1, .int .i64 x.2.2] 82)) := (Below.refl _ _).alloc (Nat.le_refl _) _
  have HX := Lib.hid (Blk.new w 82 #[.int .i64 x.1, .int .i64 x.2.1, .int .i64 x.2.2])
  have HB0 := Lib.hid hb0
  have HV := Lib.hid hv
  clear hv hb0
  go_enter Tryz.func36, Tryz.ntmps36
  go_wp2
  obtain ⟨w1, hw1⟩ : ∃ w1, w.alloc (.cells #[.int .i64 x.1, .int .i64 x.2.1, .int .i64 x.2.2] 82) = w1 := ⟨_, rfl⟩
  rw [hw1] at HX HB0 ⊢
  clear hw1
  go_loopw [8] (fun y wr => ∃ k : Nat, k ≤ l.length ∧ y = .int .i64 k ∧ RowKit.Hid (x ∉ l.take k) ∧ RowKit.Hid (∃ n, wr = w1.drewN n)) (fun y _ => l.length - (intOf y).toNat)
  case atStart => exact ⟨0, Nat.zero_le _, rfl, Lib.hid (by simp), Lib.hid ⟨0, rfl⟩⟩
  obtain ⟨k, hk, rfl, hN, hW⟩ := hrel
  obtain ⟨n, hn⟩ := hW.out
  have HN := Lib.hid hn
  have HB : RowKit.Hid (Below w.heap.size w wr) := by rw [hn]; exact Lib.hid (below_drewN HB0.out n)
  have x0 : wr.cell? ⟨w.heap.size, 0, none⟩ = some (.int .i64 x.1) := by rw [hn]; exact HX.out.cell 0
  have x1 : wr.cell? ⟨w.heap.size, 1, none⟩ = some (.int .i64 x.2.1) := by rw [hn]; exact HX.out.cell 1
  have x2 : wr.cell? ⟨w.heap.size, 2, none⟩ = some (.int .i64 x.2.2) := by rw [hn]; exact HX.out.cell 2
  clear hn hW
  by_cases hlt : k < l.length
  · obtain ⟨b, o, c', ev', hbl, q0, q1, q2⟩ := (HV.out.later HB.out).thAt k hlt
    cases ev'
    have hk2 : (k : Int) < (l.length : Int) := by omega
    by_cases he : l[k] = x
    · have heq : ∀ w, (binOp .eql 82 (.agg #[.int .i64 x.1, .int .i64 x.2.1, .int .i64 x.2.2]) (.agg #[.int .i64 l[k].1, .int .i64 l[k].2.1, .int .i64 l[k].2.2])).run Tryz.prog w = .ok (.bool true) w := fun w => by
        rw [run_eqTh, decide_eq_true he.symm]
      have HE := Lib.hid (idxI_at hlt he hN.out)
      clear he
      go_wp2_with fail
      go_quiet (fail)
      go_wp2
      go_ret
      exact numR HE.out (below_drewN HB.out _)
    · have heq : ∀ w, (binOp .eql 82 (.agg #[.int .i64 x.1, .int .i64 x.2.1, .int .i64 x.2.2]) (.agg #[.int .i64 l[k].1, .int .i64 l[k].2.1, .int .i64 l[k].2.2])).run Tryz.prog w = .ok (.bool false) w := fun w => by
        rw [run_eqTh, decide_eq_false (fun e => he e.symm)]
      have HE := Lib.hid (not_memTh_next hlt hN.out he)
      clear he
      go_wp2_with fail
      go_quiet (fail)
      go_wp2
      go_roundw
      case rel => exact ⟨k + 1, by omega, by go_num, HE, Lib.hid ⟨n + nq, by rw [HN.out]; exact World.drewN_drewN _ _ _⟩⟩
      case measure => simp [intOf]; omega
  · have hk2 : ¬ ((k : Int) < (l.length : Int)) := by omega
    have HE := Lib.hid (idxI_no (x := x) (l := l) (by have := hN.out; rwa [List.take_of_length_le (by omega)] at this))
    go_wp2
    go_ret
    exact numR HE.out HB.out
/-- How a call ends that returns a Bool. -/
def BoolR (b : Bool) (w : World) (e : Ending) (w' : World) : Prop := e = .returned (.bool b) ∧ Below w.heap.size w w'
theorem boolR {b c : Bool} (h : b = c) {w w' : World} (hb : Below w.heap.size w w') : BoolR b w (.returned (.bool c)) w' := ⟨by rw [h], hb⟩
set_option maxHeartbeats 1600000 in
theorem contains_any (l : List Th) (x : Th) (v : Value) (w : World) (hl : l.length ≤ 1000000) (hv : ARd w v 3 (l.map thC)) (b : Bool) (hb : decide (x ∈ l) = b) :
    Calls Tryz.prog 34 #[v, .agg #[.int .i64 x.1, .int .i64 x.2.1, .int .i64 x.2.2]] w (BoolR b w) := by
  have hb0 : Below w.heap.size w (w.alloc (.cells #[.int .i64 x.1, .int .i64 x.2.1, .int .i64 x.2.2] 82)) := (Below.refl _ _).alloc (Nat.le_refl _) _
  have HB0 := Lib.hid hb0
  have HV := Lib.hid hv
  clear hv hb0
  cases b with
  | true =>
    obtain ⟨k, hk, _, hi⟩ := idxI_mem (of_decide_eq_true hb)
    have HI := Lib.hid hi
    clear hi hb
    go_enter Tryz.func34, Tryz.ntmps34
    go_wp2_with fail
    refine (index_any l x v _ hl (HV.out.later HB0.out)).mono ?_
    rintro e w1 ⟨rfl, hb1⟩
    have HB := Lib.hid (below_step HB0.out hb1)
    clear hb1
    rw [HI.out]
    go_wp2
    go_ret
    exact boolR (by simp) HB.out
  | false =>
    have HI := Lib.hid (idxI_no (of_decide_eq_false hb))
    clear hb
    go_enter Tryz.func34, Tryz.ntmps34
    go_wp2_with fail
    refine (index_any l x v _ hl (HV.out.later HB0.out)).mono ?_
    rintro e w1 ⟨rfl, hb1⟩
    have HB := Lib.hid (below_step HB0.out hb1)
    clear hb1
    rw [HI.out]
    go_wp2
    go_ret
    exact boolR (by simp) HB.out
theorem scE_sp {S : Sp} {rt : Int} {th : List Th} {e : Int} (h : (checkP S).2 = e) (h0 : e ≠ 0) : scE S rt th = e := by unfold scE; rw [h, if_neg h0]
theorem scE_rt {S : Sp} {rt : Int} {th : List Th} (h : (checkP S).2 = 0) (hr : rt < 1 ∨ 1000 < rt) : scE S rt th = 7 := by unfold scE; rw [if_pos h, if_pos hr]
theorem scE_none {S : Sp} {rt : Int} {th : List Th} (h : (checkP S).2 = 0) (hr : ¬ (rt < 1 ∨ 1000 < rt)) (hl : th.length = 0) : scE S rt th = 2 := by unfold scE; rw [if_pos h, if_neg hr, if_pos hl]
theorem scE_long {S : Sp} {rt : Int} {th : List Th} (h : (checkP S).2 = 0) (hr : ¬ (rt < 1 ∨ 1000 < rt)) (hl : 127 < th.length) : scE S rt th = 3 := by unfold scE; rw [if_pos h, if_neg hr, if_neg (by omega), if_pos hl]
theorem scE_of {S : Sp} {rt : Int} {th : List Th} (h : (checkP S).2 = 0) (hr : ¬ (rt < 1 ∨ 1000 < rt)) (hl : 0 < th.length) (hl2 : ¬ 127 < th.length) : scE S rt th = firstErr (scF S th) th.length := by unfold scE; rw [if_pos h, if_neg hr, if_neg (by omega), if_neg hl2]
theorem scF_thing {S : Sp} {th : List Th} {i : Nat} (hi : i < th.length) {e : Int} (he : thE S th[i] = e) (h0 : e ≠ 0) : scF S th i = e := by unfold scF; rw [getD_at hi, he, if_neg h0]
theorem scF_twice {S : Sp} {th : List Th} {i : Nat} (hi : i < th.length) (he : thE S th[i] = 0) (hm : th[i] ∈ th.take i) : scF S th i = 8 := by unfold scF; rw [getD_at hi, if_pos he, if_pos hm]
theorem scF_good {S : Sp} {th : List Th} {i : Nat} (hi : i < th.length) (he : thE S th[i] = 0) (hm : th[i] ∉ th.take i) : scF S th i = 0 := by unfold scF; rw [getD_at hi, if_pos he, if_neg hm]
theorem firstErr_hit {f : Nat → Int} {k n : Nat} (h : firstErr f k = 0) (hk : k < n) {e : Int} (he : f k = e) (h0 : e ≠ 0) : firstErr f n = e := by
  have h1 : firstErr f (k + 1) = e := by rw [firstErr_next h, he]
  have h2 := firstErr_at (f := f) (k := k + 1) (by rw [h1]; exact h0) (n := n) (by omega)
  rw [h2, h1]
theorem below_drew {n : Nat} {a w : World} (h : Below n a w) : Below n a w.drew := ⟨h.os, h.tape, h.output, h.size, h.block⟩
theorem ARd.thTake {w : World} {a : Option Addr} {n c : Nat} {l : List Th} (h : ARd w (.slice a n c) 3 (l.map thC)) {i : Nat} (hi : i ≤ l.length) (c2 : Nat) : ARd w (.slice a i c2) 3 ((l.take i).map thC) := by
  obtain ⟨a', c', e, hc⟩ := h
  cases e
  refine ⟨a, c2, by rw [List.length_map, List.length_take, Nat.min_eq_left hi], fun j hj => ?_⟩
  rw [List.length_map, List.length_take, Nat.min_eq_left hi] at hj
  obtain ⟨b, o, ha, hlt, hc⟩ := hc j (by rw [List.length_map]; omega)
  refine ⟨b, o, ha, hlt, fun k u hk => hc k u ?_⟩
  rw [List.getElem_map] at hk ⊢
  rw [List.getElem_take] at hk
  exact hk
set_option maxRecDepth 100000 in
set_option maxHeartbeats 6400000 in
theorem scale_any (v1 v2 v3 v4 : Value) (S : Sp) (ok : SpOk S) (f : Nat → Value) (rt : Int) (th : List Th) (vt : Value) (w : World) (t : Tabs w) (hsp : SpRd w v1 v2 v3 v4 f S) (hl : th.length ≤ 1000000) (hth : ARd w vt 3 (th.map thC)) (hcap : ∀ a n c, vt = .slice a n c → n ≤ c) :
    Calls Tryz.prog 11 #[.agg #[v1, v2, v3, v4], .agg #[.int .i64 rt, vt]] w (NumR (scE S rt th) w) := by
  obtain ⟨at', ct, rfl⟩ := hth.thForm
  have hct : th.length ≤ ct := hcap _ _ _ rfl
  clear hcap
  have hb0 : Below w.heap.size w ((w.alloc (.cells #[v1, v2, v3, v4] 27)).alloc (.cells #[.int .i64 rt, .slice at' th.length ct] 31)) := below_two w _ _
  have HX := Lib.hid ((Blk.new w 27 #[v1, v2, v3, v4]).alloc (.cells #[.int .i64 rt, .slice at' th.length ct] 31))
  have HY := Lib.hid (Blk.new (w.alloc (.cells #[v1, v2, v3, v4] 27)) 31 #[.int .i64 rt, .slice at' th.length ct])
  rw [World.size_alloc] at HY
  have HB0 := Lib.hid hb0
  have HSP := Lib.hid hsp
  have HT := Lib.hid t
  have HOK := Lib.hid ok
  have HTH := Lib.hid hth
  obtain ⟨fl, er, hck⟩ : ∃ (fl : Int × Int × Int) (er : Int), ckV (checkP S) = .tuple #[.agg #[.int .i64 fl.1, .int .i64 fl.2.1, .int .i64 fl.2.2], .int .i64 er] ∧ (checkP S).2 = er := ⟨_, _, rfl, rfl⟩
  have HCK := Lib.hid hck.1
  have HER := Lib.hid hck.2
  clear hb0 hsp t ok hth hck
  go_enter Tryz.func11, Tryz.ntmps11
  go_wp2_with fail
  refine (check_any v1 v2 v3 v4 S HOK.out _ (HT.out.below HB0.out) f (HSP.out.later HB0.out)).mono ?_
  rw [HCK.out]
  rintro e W1 ⟨rfl, hb1⟩
  obtain ⟨W2, hw2⟩ : ∃ W2, W1.alloc (.cells #[.int .i64 fl.1, .int .i64 fl.2.1, .int .i64 fl.2.2] 94) = W2 := ⟨_, rfl⟩
  have hb2 : Below W1.heap.size W1 W2 := by rw [← hw2]; exact (Below.refl _ _).alloc (Nat.le_refl _) _
  have HB := Lib.hid (below_step (below_step HB0.out hb1) hb2)
  have HX2 := Lib.hid ((HX.out.below hb1).below hb2)
  have HY2 := Lib.hid ((HY.out.below hb1).below hb2)
  have y0 : W2.cell? ⟨w.heap.size + 1, 0, none⟩ = some (.int .i64 rt) := HY2.out.cell 0
  have y1 : W2.cell? ⟨w.heap.size + 1, 1, none⟩ = some (.slice at' th.length ct) := HY2.out.cell 1
  clear hb1 hb2
  by_cases he : er = 0
  · have HE : RowKit.Hid ((checkP S).2 = 0) := by rw [HER.out]; exact Lib.hid he
    subst he
    by_cases hr : rt < 1
    · have HEX := Lib.hid (scE_rt (th := th) HE.out (.inl hr))
      go_wp2
      go_ret
      exact numR HEX.out HB.out
    · have hr1 : 1 ≤ rt := by omega
      clear hr
      by_cases hr : 1000 < rt
      · have HEX := Lib.hid (scE_rt (th := th) HE.out (.inr hr))
        go_wp2
        go_ret
        exact numR HEX.out HB.out
      · have hr2 : rt ≤ 1000 := by omega
        have HRT : RowKit.Hid (¬ (rt < 1 ∨ 1000 < rt)) := Lib.hid (by omega)
        clear hr
        by_cases hz : th.length = 0
        · have HEX := Lib.hid (scE_none HE.out HRT.out hz)
          have hz2 : ((th.length : Int) == 0) = true := by rw [beq_iff_eq]; omega
          clear hz
          go_wp2
          go_ret
          exact numR HEX.out HB.out
        · have hz1 : 0 < th.length := by omega
          have hz2 : ((th.length : Int) == 0) = false := by rw [beq_eq_false_iff_ne]; omega
          clear hz
          by_cases hg : 127 < th.length
          · have HEX := Lib.hid (scE_long HE.out HRT.out hg)
            have hg2 : decide ((127 : Int) < (th.length : Int)) = true := by rw [decide_eq_true_iff]; omega
            clear hg
            go_wp2
            go_ret
            exact numR HEX.out HB.out
          · have hg2 : decide ((127 : Int) < (th.length : Int)) = false := by rw [decide_eq_false_iff_not]; omega
            have hg3 : th.length ≤ 127 := by omega
            have HOF := Lib.hid (scE_of HE.out HRT.out hz1 hg)
            clear hg
            go_wp2
            clear y0 y1 hw2
            go_loopw [40] (fun x wr => ∃ i : Nat, i ≤ th.length ∧ x = .int .i64 i ∧ RowKit.Hid (firstErr (scF S th) i = 0) ∧ RowKit.Hid (Below W2.heap.size W2 wr)) (fun x _ => th.length - (intOf x).toNat)
            case atStart => exact ⟨0, by omega, rfl, Lib.hid rfl, Lib.hid (Below.refl _ _)⟩
            obtain ⟨i, hi, rfl, hF, hW⟩ := hrel
            by_cases hlt : i < th.length
            · have hi2 : (i : Int) < (th.length : Int) := by omega
              have HBW := Lib.hid (below_step HB.out hW.out)
              obtain ⟨b, o, c', ev', hbl, q0, q1, q2⟩ := (HTH.out.later HBW.out).thAt i hlt
              cases ev'
              have x0 : wr.cell? ⟨w.heap.size, 0, none⟩ = some v1 := (HX2.out.below hW.out).cell 0
              have x1 : wr.cell? ⟨w.heap.size, 1, none⟩ = some v2 := (HX2.out.below hW.out).cell 1
              have x2 : wr.cell? ⟨w.heap.size, 2, none⟩ = some v3 := (HX2.out.below hW.out).cell 2
              have x3 : wr.cell? ⟨w.heap.size, 3, none⟩ = some v4 := (HX2.out.below hW.out).cell 3
              have x0' := cell_alloc x0
              have x1' := cell_alloc x1
              have x2' := cell_alloc x2
              have x3' := cell_alloc x3
              have HBX := Lib.hid (show Below wr.heap.size wr (wr.alloc (.cells #[.int .i64 th[i].1, .int .i64 th[i].2.1, .int .i64 th[i].2.2] 82)) from (Below.refl _ wr).alloc (Nat.le_refl _) _)
              have HKX := Lib.hid (Blk.new wr 82 #[.int .i64 th[i].1, .int .i64 th[i].2.1, .int .i64 th[i].2.2])
              obtain ⟨te, hte⟩ : ∃ te, te = thE S th[i] := ⟨_, rfl⟩
              have HTE := Lib.hid hte
              clear hte
              go_wp2_with fail
              refine (thing_any v1 v2 v3 v4 S HOK.out f th[i] _ (HSP.out.later (below_step HBW.out HBX.out))).mono ?_
              rw [← HTE.out]
              rintro e W3 ⟨rfl, hb3⟩
              have HW3 := Lib.hid (below_step (below_step hW.out HBX.out) hb3)
              have HB3 := Lib.hid (below_step HB.out HW3.out)
              have HK3 := Lib.hid (HKX.out.below hb3)
              clear hb3 x0 x1 x2 x3 x0' x1' x2' x3' q0 q1 q2
              by_cases hte : te = 0
              · subst hte
                have y1 : W3.cell? ⟨w.heap.size + 1, 1, none⟩ = some (.slice (some ⟨b, o, none⟩) th.length ct) := (HY2.out.below HW3.out).cell 1
                have k0 : W3.cell? ⟨wr.heap.size, 0, none⟩ = some (.int .i64 th[i].1) := HK3.out.cell 0
                have k1 : W3.cell? ⟨wr.heap.size, 1, none⟩ = some (.int .i64 th[i].2.1) := HK3.out.cell 1
                have k2 : W3.cell? ⟨wr.heap.size, 2, none⟩ = some (.int .i64 th[i].2.2) := HK3.out.cell 2
                have HTK := Lib.hid ((HTH.out.later HB3.out).thTake (i := i) hi ct)
                obtain ⟨bb, hbb⟩ : ∃ bb, decide (th[i] ∈ th.take i) = bb := ⟨_, rfl⟩
                have HBB := Lib.hid hbb
                have hict : i ≤ ct := by omega
                have HB3' := Lib.hid (below_drew HB3.out)
                have HW3' := Lib.hid (below_drew HW3.out)
                have hlti : (th.take i).length ≤ 1000000 := by rw [List.length_take]; omega
                clear hbb
                cases bb with
                | true =>
                  have HEX := Lib.hid (HOF.out.trans (firstErr_hit hF.out hlt (scF_twice hlt HTE.out.symm (of_decide_eq_true HBB.out)) (by decide)))
                  go_wp2_with fail
                  go_region_with (go_at_call 34; refine (contains_any (th.take i) th[i] _ W3.drew hlti HTK.out true HBB.out).mono ?_; rintro e w' ⟨rfl, hb4⟩; have HB4 := Lib.hid (below_step HB3'.out hb4); clear hb4)
                  all_goals
                    go_wp2
                    go_ret
                    exact numR HEX.out HB4.out
                | false =>
                  have HF2 : RowKit.Hid (firstErr (scF S th) (i + 1) = 0) := Lib.hid (by rw [firstErr_next hF.out]; exact scF_good hlt HTE.out.symm (of_decide_eq_false HBB.out))
                  go_wp2_with fail
                  go_region_with (go_at_call 34; refine (contains_any (th.take i) th[i] _ W3.drew hlti HTK.out false HBB.out).mono ?_; rintro e w' ⟨rfl, hb4⟩; have HB4 := Lib.hid (below_step HW3'.out hb4); clear hb4)
                  all_goals
                    go_wp2
                    go_roundw
                    case rel => exact ⟨i + 1, by omega, by go_num, HF2, HB4⟩
                    case measure => simp [intOf]; omega
              · have HEX := Lib.hid (HOF.out.trans (firstErr_hit hF.out hlt (scF_thing hlt HTE.out.symm hte) hte))
                have ht2 : (te == 0) = false := beq_eq_false_iff_ne.2 hte
                clear hte
                go_wp2
                go_ret
                exact numR HEX.out HB3.out
            · have hi2 : ¬ ((i : Int) < (th.length : Int)) := by omega
              have hie : i = th.length := by omega
              have HEX : RowKit.Hid (scE S rt th = 0) := Lib.hid (by rw [HOF.out, ← hie]; exact hF.out)
              have HBW := Lib.hid (below_step HB.out hW.out)
              clear hie
              go_wp2
              go_ret
              exact numR HEX.out HBW.out
  · have HEX := Lib.hid (scE_sp (rt := rt) (th := th) HER.out he)
    have he2 : (er == 0) = false := beq_eq_false_iff_ne.2 he
    clear he
    go_wp2
    go_ret
    exact numR HEX.out HB.out
end Go.Proofs.YtppccacfdpkkgaaGreatDoor
