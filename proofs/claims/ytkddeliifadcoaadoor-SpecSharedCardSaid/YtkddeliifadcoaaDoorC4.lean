/-
  CONTRACTS: the checker's part.
-/
import Derived.Test.YtkddeliifadcoaaDoorC2
import Derived.StillTailTactics
import Derived.Deep.RegionHeld3
import Derived.RegionTactic
import Derived.ChangeAlike
import Derived.BigRegion
namespace Go.Proofs.YtkddeliifadcoaaDoor
open Go.RowKit
theorem within_yes' (n a b : Int) (w : World) (h1 : a ≤ n) (h2 : n ≤ b) : Calls Tryd.prog 35 #[.int .i64 n, .int .i64 a, .int .i64 b] w fun e w' => e = .returned (.bool true) ∧ w' = w := (within_yes n a b w h1 h2).mono fun _ _ ⟨h, k⟩ => ⟨h, k.symm⟩
theorem within_no' (n a b : Int) (w : World) (h : ¬ (a ≤ n ∧ n ≤ b)) : Calls Tryd.prog 35 #[.int .i64 n, .int .i64 a, .int .i64 b] w fun e w' => e = .returned (.bool false) ∧ w' = w := (within_no n a b w h).mono fun _ _ ⟨h, k⟩ => ⟨h, k.symm⟩
set_option maxRecDepth 100000 in
set_option maxHeartbeats 3200000 in
theorem part_norank (S : Sp) (x : St) (d : Dv) (p : Pt) (Bc Bm n : Nat) (a2 : Option Addr) (c2 : Nat) (v1 v3 v4 : Value) (ks : List (List UInt8 × List UInt8)) (w : World) (hc : Chk w Bc Bm n v1 (.slice a2 S.rs.length c2) v3 v4 ks) (hs : S.rs.length ≤ 1000) (h : ¬ (0 ≤ p.rank ∧ p.rank < S.rs.length)) :
    Calls Tryd.prog 26 #[.pointer (some ⟨Bc, 0, none⟩), .agg #[.string d.name, .int .i64 d.lo, .int .i64 d.hi], .agg #[.int .i64 p.rank, .int .i64 p.shift, .int .i64 p.lo, .int .i64 p.hi]] w fun e w' => e = .returned (.int .i64 (ptE S x p)) ∧ Below w.heap.size w w' := by
  have hb0 : Below w.heap.size w ((w.alloc (.cells #[.string d.name, .int .i64 d.lo, .int .i64 d.hi] 54)).alloc (.cells #[.int .i64 p.rank, .int .i64 p.shift, .int .i64 p.lo, .int .i64 p.hi] 75)) := ((Below.refl _ w).alloc (Nat.le_refl _) _).alloc (by simp) _
  have hc0 := hc.below hb0
  have W1 := fun W => within_no' p.rank 0 ((S.rs.length : Int) - 1) W (by omega)
  have HD := Lib.hid (ptE_none (S := S) (x := x) h)
  obtain ⟨z0, z1, z2, z3, z4⟩ := hc0.cells
  have hcast : ((S.rs.length : Nat) : Int) ≤ 1000 := by omega
  clear h
  go_enter Tryd.func26, Tryd.ntmps26
  go_wp2_with fail
  go_quiet ((go_at_call 35; exact Calls.quiet_of_same (W1 _)))
  go_wp2
  go_ret
  exact ⟨by rw [HD.out]; rfl, below_drewN hb0 _⟩
set_option maxRecDepth 100000 in
set_option maxHeartbeats 6400000 in
theorem part_ways (S : Sp) (x : St) (d : Dv) (p : Pt) (Bc Bm n : Nat) (v1 v2 v3 v4 : Value) (f : Nat → Value) (ks : List (List UInt8 × List UInt8)) (w : World) (hc : Chk w Bc Bm n v1 v2 v3 v4 ks) (hsp : SpRd w v1 v2 v3 v4 f S) (hs : S.rs.length ≤ 1000)
    (hd : x.div.toNat < S.ds.length) (hdd : S.ds[x.div.toNat] = d) (hdv : dvE d = 0) (hrv : ∀ r ∈ S.rs, rkE r = 0) (hp1 : 0 ≤ p.rank) (hp2 : p.rank < S.rs.length) :
    Calls Tryd.prog 26 #[.pointer (some ⟨Bc, 0, none⟩), .agg #[.string d.name, .int .i64 d.lo, .int .i64 d.hi], .agg #[.int .i64 p.rank, .int .i64 p.shift, .int .i64 p.lo, .int .i64 p.hi]] w fun e w' => e = .returned (.int .i64 (ptE S x p)) ∧ Below w.heap.size w w' := by
  have hb0 : Below w.heap.size w ((w.alloc (.cells #[.string d.name, .int .i64 d.lo, .int .i64 d.hi] 54)).alloc (.cells #[.int .i64 p.rank, .int .i64 p.shift, .int .i64 p.lo, .int .i64 p.hi] 75)) := ((Below.refl _ w).alloc (Nat.le_refl _) _).alloc (by simp) _
  have hc0 := hc.below hb0
  have hsp0 := hsp.later hb0
  obtain ⟨i, hi⟩ := Int.eq_ofNat_of_zero_le hp1
  have hil : i < S.rs.length := by omega
  have HP := ptE_is hd hp1 hp2
  have hti : p.rank.toNat = i := by omega
  obtain ⟨b, o, c2, rfl, hlt, r0, r1, r2, r3, r4, r5⟩ := hsp0.rAt i hil
  have hrk := hrv S.rs[i] (List.getElem_mem hil)
  simp only [hti] at HP
  rw [hdd] at HP
  generalize S.rs[i] = r at *
  obtain ⟨z0, z1, z2, z3, z4⟩ := hc0.cells
  have hcast : ((S.rs.length : Nat) : Int) ≤ 1000 := by omega
  have W1 := fun W => within_yes' (i : Int) 0 ((S.rs.length : Int) - 1) W (by omega) (by omega)
  have HPP := Lib.hid HP
  have hi1 : (0 : Int) ≤ (i : Int) := by omega
  have hi2 : (i : Int) < (S.rs.length : Int) := by omega
  have hb1 : 0 ≤ d.lo ∧ d.lo ≤ 127 ∧ d.hi ≤ 127 := by unfold dvE at hdv; split at hdv <;> omega
  have hb2 : 0 ≤ r.low ∧ r.low + r.cnt ≤ 128 ∧ 1 ≤ r.cnt := by
    unfold rkE at hrk
    split at hrk
    · split at hrk
      · omega
      · omega
    · omega
  obtain ⟨pr, ps, pl, ph⟩ := p
  dsimp only at *
  subst hi
  have hmove := hb0
  have kd : Blk ((w.alloc (.cells #[.string d.name, .int .i64 d.lo, .int .i64 d.hi] 54)).alloc (.cells #[.int .i64 i, .int .i64 ps, .int .i64 pl, .int .i64 ph] 75)) w.heap.size 54 #[.string d.name, .int .i64 d.lo, .int .i64 d.hi] := (Blk.new w _ _).alloc _
  have kp : Blk ((w.alloc (.cells #[.string d.name, .int .i64 d.lo, .int .i64 d.hi] 54)).alloc (.cells #[.int .i64 i, .int .i64 ps, .int .i64 pl, .int .i64 ph] 75)) (w.heap.size + 1) 75 #[.int .i64 i, .int .i64 ps, .int .i64 pl, .int .i64 ph] := by have := Blk.new (w.alloc (.cells #[.string d.name, .int .i64 d.lo, .int .i64 d.hi] 54)) 75 #[.int .i64 i, .int .i64 ps, .int .i64 pl, .int .i64 ph]; rwa [World.size_alloc] at this
  by_cases h1 : d.lo ≤ pl ∧ pl ≤ d.hi
  · have W2 := Lib.hid (fun W => within_yes pl d.lo d.hi W h1.1 h1.2)
    by_cases h2 : pl ≤ ph ∧ ph ≤ d.hi
    · have W3 := Lib.hid (fun W => within_yes ph pl d.hi W h2.1 h2.2)
      by_cases h3 : -96 ≤ ps ∧ ps ≤ 96
      · have W4 := Lib.hid (fun W => within_yes ps (-96) 96 W h3.1 h3.2)
        clear HP hdv hrk hrv hti hsp hsp0 hdd
        have q1 : -9223372036854775808 ≤ pl + ps := by omega
        go_enter Tryd.func26, Tryd.ntmps26
        go_wp2_with fail
        go_quiet ((go_at_call 35; exact Calls.quiet_of_same (W1 _)))
        go_wp2_with (first | (go_at_call 35; with_reducible refine (W2.out _).mono ?_; rintro e w' ⟨rfl, rfl⟩) | (go_at_call 35; with_reducible refine (W3.out _).mono ?_; rintro e w' ⟨rfl, rfl⟩) | (go_at_call 35; with_reducible refine (W4.out _).mono ?_; rintro e w' ⟨rfl, rfl⟩))
        have hB := below_drewN hb0 nq
        have kd1 := kd.drewN nq
        have kp1 := kp.drewN nq
        have kc1 := hc0.blk.drewN nq
        have y0 : (((w.alloc (.cells #[.string d.name, .int .i64 d.lo, .int .i64 d.hi] 54)).alloc (.cells #[.int .i64 i, .int .i64 ps, .int .i64 pl, .int .i64 ph] 75)).drewN nq).cell? ⟨b, o + i * 6, none⟩ = some (.string r.name) := r0
        have y1 : (((w.alloc (.cells #[.string d.name, .int .i64 d.lo, .int .i64 d.hi] 54)).alloc (.cells #[.int .i64 i, .int .i64 ps, .int .i64 pl, .int .i64 ph] 75)).drewN nq).cell? ⟨b, o + i * 6 + 1, none⟩ = some (.int .i64 r.kind) := r1
        have y2 : (((w.alloc (.cells #[.string d.name, .int .i64 d.lo, .int .i64 d.hi] 54)).alloc (.cells #[.int .i64 i, .int .i64 ps, .int .i64 pl, .int .i64 ph] 75)).drewN nq).cell? ⟨b, o + i * 6 + 2, none⟩ = some (.int .i64 r.num) := r2
        have y3 : (((w.alloc (.cells #[.string d.name, .int .i64 d.lo, .int .i64 d.hi] 54)).alloc (.cells #[.int .i64 i, .int .i64 ps, .int .i64 pl, .int .i64 ph] 75)).drewN nq).cell? ⟨b, o + i * 6 + 3, none⟩ = some (.int .i64 r.den) := r3
        have y4 : (((w.alloc (.cells #[.string d.name, .int .i64 d.lo, .int .i64 d.hi] 54)).alloc (.cells #[.int .i64 i, .int .i64 ps, .int .i64 pl, .int .i64 ph] 75)).drewN nq).cell? ⟨b, o + i * 6 + 4, none⟩ = some (.int .i64 r.low) := r4
        have y5 : (((w.alloc (.cells #[.string d.name, .int .i64 d.lo, .int .i64 d.hi] 54)).alloc (.cells #[.int .i64 i, .int .i64 ps, .int .i64 pl, .int .i64 ph] 75)).drewN nq).cell? ⟨b, o + i * 6 + 5, none⟩ = some (.int .i64 r.cnt) := r5
        have hbl : b < (((w.alloc (.cells #[.string d.name, .int .i64 d.lo, .int .i64 d.hi] 54)).alloc (.cells #[.int .i64 i, .int .i64 ps, .int .i64 pl, .int .i64 ph] 75)).drewN nq).heap.size := hlt
        generalize ((w.alloc (.cells #[.string d.name, .int .i64 d.lo, .int .i64 d.hi] 54)).alloc (.cells #[.int .i64 i, .int .i64 ps, .int .i64 pl, .int .i64 ph] 75)).drewN nq = w1 at *
        have l1 := kd1.lt
        have l2 := kp1.lt
        have l3 := kc1.lt
        have e0 := kd1.cell 0
        have e1 := kd1.cell 1
        have e2 := kd1.cell 2
        have g0 := kp1.cell 0
        have g1 := kp1.cell 1
        have g2 := kp1.cell 2
        have g3 := kp1.cell 3
        have m1 := kc1.cell 1
        clear z0 z1 z2 z3 z4 r0 r1 r2 r3 r4 r5 hc0 kd kp kd1 kp1 kc1 hb0 hmove hlt
        go_region
        all_goals go_wp2
        all_goals go_ret
        all_goals
          refine ⟨?_, by first | exact below_drewN (hB.alloc hB.size _) _ | exact (hB.alloc hB.size _).drew | exact hB.alloc hB.size _⟩
          rw [HPP.out, if_pos (by omega)]
          first
            | (rw [if_neg (by omega)]; rfl)
            | (rw [if_pos (by omega)]; rfl)
      · have W4 := Lib.hid (fun W => within_no ps (-96) 96 W h3)
        have HD := Lib.hid (HPP.out.trans (if_neg (by omega)))
        clear HP hdv hrk hrv hti hsp hsp0 hdd h3
        go_enter Tryd.func26, Tryd.ntmps26
        go_wp2_with fail
        go_quiet ((go_at_call 35; exact Calls.quiet_of_same (W1 _)))
        go_wp2_with (first | (go_at_call 35; with_reducible refine (W2.out _).mono ?_; rintro e w' ⟨rfl, rfl⟩) | (go_at_call 35; with_reducible refine (W3.out _).mono ?_; rintro e w' ⟨rfl, rfl⟩) | (go_at_call 35; with_reducible refine (W4.out _).mono ?_; rintro e w' ⟨rfl, rfl⟩))
        go_ret
        exact ⟨by rw [HD.out]; rfl, below_drewN hb0 _⟩
    · have W3 := Lib.hid (fun W => within_no ph pl d.hi W h2)
      have HD := Lib.hid (HPP.out.trans (if_neg (by omega)))
      clear HP hdv hrk hrv hti hsp hsp0 hdd h2
      go_enter Tryd.func26, Tryd.ntmps26
      go_wp2_with fail
      go_quiet ((go_at_call 35; exact Calls.quiet_of_same (W1 _)))
      go_wp2_with (first | (go_at_call 35; with_reducible refine (W2.out _).mono ?_; rintro e w' ⟨rfl, rfl⟩) | (go_at_call 35; with_reducible refine (W3.out _).mono ?_; rintro e w' ⟨rfl, rfl⟩))
      go_ret
      exact ⟨by rw [HD.out]; rfl, below_drewN hb0 _⟩
  · have W2 := Lib.hid (fun W => within_no pl d.lo d.hi W h1)
    have HD := Lib.hid (HPP.out.trans (if_neg (by omega)))
    clear HP hdv hrk hrv hti hsp hsp0 hdd h1
    go_enter Tryd.func26, Tryd.ntmps26
    go_wp2_with fail
    go_quiet ((go_at_call 35; exact Calls.quiet_of_same (W1 _)))
    go_wp2_with (first | (go_at_call 35; with_reducible refine (W2.out _).mono ?_; rintro e w' ⟨rfl, rfl⟩))
    go_ret
    exact ⟨by rw [HD.out]; rfl, below_drewN hb0 _⟩
theorem part_any (S : Sp) (x : St) (d : Dv) (p : Pt) (Bc Bm n : Nat) (v1 v2 v3 v4 : Value) (f : Nat → Value) (ks : List (List UInt8 × List UInt8)) (w : World) (hc : Chk w Bc Bm n v1 v2 v3 v4 ks) (hsp : SpRd w v1 v2 v3 v4 f S) (hs : S.rs.length ≤ 1000)
    (hd : x.div.toNat < S.ds.length) (hdd : S.ds[x.div.toNat] = d) (hdv : dvE d = 0) (hrv : ∀ r ∈ S.rs, rkE r = 0) :
    Calls Tryd.prog 26 #[.pointer (some ⟨Bc, 0, none⟩), .agg #[.string d.name, .int .i64 d.lo, .int .i64 d.hi], .agg #[.int .i64 p.rank, .int .i64 p.shift, .int .i64 p.lo, .int .i64 p.hi]] w fun e w' => e = .returned (.int .i64 (ptE S x p)) ∧ Below w.heap.size w w' := by
  by_cases h : 0 ≤ p.rank ∧ p.rank < S.rs.length
  · exact part_ways S x d p Bc Bm n v1 v2 v3 v4 f ks w hc hsp hs hd hdd hdv hrv h.1 h.2
  · obtain ⟨_, ⟨a2, c2, rfl⟩, _, _⟩ := hsp.forms
    exact part_norank S x d p Bc Bm n a2 c2 v1 v3 v4 ks w hc hs h
end Go.Proofs.YtkddeliifadcoaaDoor
