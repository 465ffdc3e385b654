/-
  CONTRACTS: Check.
-/
import Derived.Test.YtkddeliifadcoaaDoorC7
namespace Go.Proofs.YtkddeliifadcoaaDoor
open Go.RowKit
def ckV (c : (Int × Int × Int) × Int) : Value := .tuple #[.agg #[.int .i64 c.1.1, .int .i64 c.1.2.1, .int .i64 c.1.2.2], .int .i64 c.2]
/-- The numbers of a list of lengths that is too long. -/
theorem check_toolong {S : Sp} (h : 6 < S.ds.length ∨ 40 < S.rs.length ∨ 80 < S.ss.length ∨ 24 < S.cs.length) : checkP S = ((0, 0, 0), 3) := by unfold checkP; rw [if_pos h]
theorem Blk.three {W : World} {B : Nat} {t : TypeId} {a b c : Value} (h : Blk W B t #[a, b, c]) : W.cell? ⟨B, 0, none⟩ = some a ∧ W.cell? ⟨B, 1, none⟩ = some b ∧ W.cell? ⟨B, 2, none⟩ = some c ∧ W.frozen? ⟨B, 0, none⟩ = false ∧ W.frozen? ⟨B, 1, none⟩ = false ∧ W.frozen? ⟨B, 2, none⟩ = false :=
  ⟨h.cell 0, h.cell 1, h.cell 2, h.frozen 0, h.frozen 1, h.frozen 2⟩
theorem set_three {W : World} {B : Nat} {t : TypeId} {u v x : Value} (h : Blk W B t #[u, v, x]) (a b c : Value) : Blk (((W.setCell ⟨B, 0, none⟩ a).setCell ⟨B, 1, none⟩ b).setCell ⟨B, 2, none⟩ c) B t #[a, b, c] := ((h.set 0 a).set 1 b).set 2 c
theorem below_three {w W : World} {B : Nat} (h : Below w.heap.size w W) (hB : w.heap.size ≤ B) (a b c : Value) : Below w.heap.size w (((W.setCell ⟨B, 0, none⟩ a).setCell ⟨B, 1, none⟩ b).setCell ⟨B, 2, none⟩ c) :=
  ((h.setCell (p := ⟨B, 0, none⟩) hB _).setCell (p := ⟨B, 1, none⟩) hB _).setCell (p := ⟨B, 2, none⟩) hB _
set_option maxRecDepth 100000 in
set_option maxHeartbeats 3200000 in
theorem check_long (a1 a2 a3 a4 : Option Addr) (c1 c2 c3 c4 : Nat) (S : Sp) (w : World) (h : 6 < S.ds.length ∨ (S.ds.length ≤ 6 ∧ 40 < S.rs.length) ∨ (S.ds.length ≤ 6 ∧ S.rs.length ≤ 40 ∧ 80 < S.ss.length) ∨ (S.ds.length ≤ 6 ∧ S.rs.length ≤ 40 ∧ S.ss.length ≤ 80 ∧ 24 < S.cs.length)) :
    Calls Tryd.prog 8 #[.agg #[.slice a1 S.ds.length c1, .slice a2 S.rs.length c2, .slice a3 S.ss.length c3, .slice a4 S.cs.length c4]] w fun e w' => e = .returned (ckV (checkP S)) ∧ Below w.heap.size w w' := by
  have HL := Lib.hid (check_toolong (S := S) (by omega))
  have hb0 : Below w.heap.size w ((w.alloc (.cells #[.slice a1 S.ds.length c1, .slice a2 S.rs.length c2, .slice a3 S.ss.length c3, .slice a4 S.cs.length c4] 27)).alloc (.cells #[.int .i64 0, .int .i64 0, .int .i64 0] 31)) := ((Below.refl _ w).alloc (Nat.le_refl _) _).alloc (by simp) _
  rcases h with h | ⟨h1, h⟩ | ⟨h1, h2, h⟩ | ⟨h1, h2, h3, h⟩
  all_goals
    go_enter Tryd.func8, Tryd.ntmps8
    go_wp2
    refine bodyPost_ret (v := .tuple #[.agg #[.int .i64 0, .int .i64 0, .int .i64 0], .int .i64 3]) (by simp [results, Tryd.results8, go_sem]) rfl ⟨by rw [HL.out]; rfl, ?_⟩
    exact hb0
/-- The world behind the first statements. -/
def ckW (w : World) (v1 v2 v3 v4 : Value) : World := ((((w.alloc (.cells #[v1, v2, v3, v4] 27)).alloc (.cells #[.int .i64 0, .int .i64 0, .int .i64 0] 31)).alloc (.map #[] 0)).alloc (.cells #[v1, v2, v3, v4, .map (some (w.heap.size + 2))] 68)).alloc (.cells #[.pointer (some ⟨w.heap.size + 3, 0, none⟩)] 65)
theorem ckW_st (w : World) (v1 v2 v3 v4 : Value) : CkSt w v1 v2 v3 v4 0 [] (ckW w v1 v2 v3 v4) where
  spec := ((((Blk.new w _ _).alloc _).alloc _).alloc _).alloc _
  res := by
    have := (((Blk.new (w.alloc (.cells #[v1, v2, v3, v4] 27)) 31 #[.int .i64 0, .int .i64 0, .int .i64 0]).alloc (.map #[] 0)).alloc (.cells #[v1, v2, v3, v4, .map (some (w.heap.size + 2))] 68)).alloc (.cells #[.pointer (some ⟨w.heap.size + 3, 0, none⟩)] 65)
    rwa [World.size_alloc] at this
  chk := by
    refine ⟨?_, ?_, by omega⟩
    · have := (Blk.new (((w.alloc (.cells #[v1, v2, v3, v4] 27)).alloc (.cells #[.int .i64 0, .int .i64 0, .int .i64 0] 31)).alloc (.map #[] 0)) 68 #[v1, v2, v3, v4, .map (some (w.heap.size + 2))]).alloc (.cells #[.pointer (some ⟨w.heap.size + 3, 0, none⟩)] 65)
      simp only [World.size_alloc] at this
      exact this
    · have := Seen.made Tryd.prog 9 4 ((w.alloc (.cells #[v1, v2, v3, v4] 27)).alloc (.cells #[.int .i64 0, .int .i64 0, .int .i64 0] 31))
      simp only [World.size_alloc] at this
      exact (this.kept (World.grownBy_alloc _ _ none) (by simp)).kept (World.grownBy_alloc _ _ none) (by simp)
  ptr := by
    have := Blk.new ((((w.alloc (.cells #[v1, v2, v3, v4] 27)).alloc (.cells #[.int .i64 0, .int .i64 0, .int .i64 0] 31)).alloc (.map #[] 0)).alloc (.cells #[v1, v2, v3, v4, .map (some (w.heap.size + 2))] 68)) 65 #[.pointer (some ⟨w.heap.size + 3, 0, none⟩)]
    simp only [World.size_alloc] at this
    exact this
  low := (((((Below.refl _ w).alloc (Nat.le_refl _) _).alloc (by simp) _).alloc (by simp; omega) _).alloc (by simp; omega) _).alloc (by simp; omega) _
theorem checkP_d {S : Sp} {i : Nat} (hl : ¬ (6 < S.ds.length ∨ 40 < S.rs.length ∨ 80 < S.ss.length ∨ 24 < S.cs.length)) (h : fst0 (errD S) S.ds.length = some i) : checkP S = ((1, (i : Int), 0), errD S i) := by unfold checkP; rw [if_neg hl, h]
theorem checkP_r {S : Sp} {i : Nat} (hl : ¬ (6 < S.ds.length ∨ 40 < S.rs.length ∨ 80 < S.ss.length ∨ 24 < S.cs.length)) (h0 : fst0 (errD S) S.ds.length = none) (h : fst0 (errR S) S.rs.length = some i) : checkP S = ((2, (i : Int), 0), errR S i) := by unfold checkP; rw [if_neg hl, h0, h]
theorem checkP_s {S : Sp} {i : Nat} (hl : ¬ (6 < S.ds.length ∨ 40 < S.rs.length ∨ 80 < S.ss.length ∨ 24 < S.cs.length)) (h0 : fst0 (errD S) S.ds.length = none) (h1 : fst0 (errR S) S.rs.length = none) (hi : i < S.ss.length) (h2 : (stopE S i).2 ≠ 0) (h3 : ∀ j, j < i → (stopE S j).2 = 0) : checkP S = ((3, (i : Int), (stopE S i).1), (stopE S i).2) := by
  unfold checkP
  rw [if_neg hl, h0, h1, fst0_some (f := fun i => (stopE S i).2) hi h2 h3]
theorem checkP_c {S : Sp} {i : Nat} (hl : ¬ (6 < S.ds.length ∨ 40 < S.rs.length ∨ 80 < S.ss.length ∨ 24 < S.cs.length)) (h0 : fst0 (errD S) S.ds.length = none) (h1 : fst0 (errR S) S.rs.length = none) (h2 : ∀ j, j < S.ss.length → (stopE S j).2 = 0) (h : fst0 (errC S) S.cs.length = some i) : checkP S = ((4, (i : Int), 0), errC S i) := by
  unfold checkP
  rw [if_neg hl, h0, h1, fst0_none.2 h2, h]
theorem checkP_ok {S : Sp} (hl : ¬ (6 < S.ds.length ∨ 40 < S.rs.length ∨ 80 < S.ss.length ∨ 24 < S.cs.length)) (h0 : fst0 (errD S) S.ds.length = none) (h1 : fst0 (errR S) S.rs.length = none) (h2 : ∀ j, j < S.ss.length → (stopE S j).2 = 0) (h : fst0 (errC S) S.cs.length = none) : checkP S = ((0, 0, 0), 0) := by
  unfold checkP
  rw [if_neg hl, h0, h1, fst0_none.2 h2, h]
theorem fstV_of {E : Nat → Int} {n i : Nat} (h : fst0 E n = some i) : fstV E n = .tuple #[.int .i64 i, .int .i64 (E i)] := by unfold fstV; rw [h]
theorem fstV_no {E : Nat → Int} {n : Nat} (h : fst0 E n = none) : fstV E n = .tuple #[.int .i64 0, .int .i64 0] := by unfold fstV; rw [h]
theorem nmE_zero {nm : ByteArray} {es : List ByteArray} {n : Int} (h : nmE nm es n = 0) : n = 0 := by
  unfold nmE at h
  split at h
  · cases h
  · split at h
    · cases h
    · exact h
theorem all_dvE {S : Sp} (h : fst0 (errD S) S.ds.length = none) : ∀ d ∈ S.ds, dvE d = 0 := by
  intro d hd
  obtain ⟨k, hk, rfl⟩ := List.mem_iff_getElem.1 hd
  have := fst0_none.1 h k hk
  rw [errD_is hk] at this
  exact nmE_zero this
theorem all_rkE {S : Sp} (h : fst0 (errR S) S.rs.length = none) : ∀ r ∈ S.rs, rkE r = 0 := by
  intro r hr
  obtain ⟨k, hk, rfl⟩ := List.mem_iff_getElem.1 hr
  have := fst0_none.1 h k hk
  rw [errR_is hk] at this
  exact nmE_zero this
set_option maxRecDepth 100000 in
set_option maxHeartbeats 6400000 in
theorem check_early (a1 a2 a3 a4 : Option Addr) (c1 c2 c3 c4 : Nat) (S : Sp) (ok : SpOk S) (w : World) (t : Tabs w) (f : Nat → Value) (hsp : SpRd w (.slice a1 S.ds.length c1) (.slice a2 S.rs.length c2) (.slice a3 S.ss.length c3) (.slice a4 S.cs.length c4) f S)
    (l1 : S.ds.length ≤ 6) (l2 : S.rs.length ≤ 40) (l3 : S.ss.length ≤ 80) (l4 : S.cs.length ≤ 24) (hbad : fst0 (errD S) S.ds.length ≠ none ∨ fst0 (errR S) S.rs.length ≠ none) :
    Calls Tryd.prog 8 #[.agg #[.slice a1 S.ds.length c1, .slice a2 S.rs.length c2, .slice a3 S.ss.length c3, .slice a4 S.cs.length c4]] w fun e w' => e = .returned (ckV (checkP S)) ∧ Below w.heap.size w w' := by
  have hmm := @run_makeMap Tryd.prog
  have hmf : ∀ (fn : Fn) (first cap : Array Value) (w : World), (Instr.makeFunc fn first cap).run Tryd.prog w = .ok (.func fn first cap) w := fun _ _ _ _ => rfl
  have h0 := ckW_st w (.slice a1 S.ds.length c1) (.slice a2 S.rs.length c2) (.slice a3 S.ss.length c3) (.slice a4 S.cs.length c4)
  have hl : ¬ (6 < S.ds.length ∨ 40 < S.rs.length ∨ 80 < S.ss.length ∨ 24 < S.cs.length) := by omega
  have HLL := Lib.hid hl
  have CD := Lib.hid (ckD S ok w _ _ _ _ f hsp _ h0)
  have HSP := Lib.hid hsp
  have HOK := Lib.hid ok
  unfold ckW at CD
  have g6 : decide ((6 : Int) < (S.ds.length : Int)) = false := by rw [decide_eq_false_iff_not]; omega
  have g40 : decide ((40 : Int) < (S.rs.length : Int)) = false := by rw [decide_eq_false_iff_not]; omega
  have g80 : decide ((80 : Int) < (S.ss.length : Int)) = false := by rw [decide_eq_false_iff_not]; omega
  have g24 : decide ((24 : Int) < (S.cs.length : Int)) = false := by rw [decide_eq_false_iff_not]; omega
  clear hl h0 hsp ok
  cases hD : fst0 (errD S) S.ds.length with
  | some i =>
    have HP := Lib.hid (checkP_d HLL.out hD)
    have HV := Lib.hid (fstV_of hD)
    obtain ⟨ei, hei⟩ : ∃ ei, ei = errD S i := ⟨_, rfl⟩
    have b1 : (ei == 0) = false := by rw [hei]; exact beq_eq_false_iff_ne.2 (fst0_is hD).2.1
    have b2 := Lib.hid (fst0_is hD).2.1
    rw [← hei] at HP HV b2
    clear hD hei
    go_enter Tryd.func8, Tryd.ntmps8
    go_wp2_with fail
    refine (CD.out).mono ?_
    rintro e w1 ⟨rfl, hw1, _⟩
    rw [HV.out]
    obtain ⟨x0, x1, x2, f0, f1, f2⟩ := hw1.res.three
    have HLW := hw1.low
    go_wp2
    have yy := set_three hw1.res (.int .i64 1) (.int .i64 i) (.int .i64 0)
    obtain ⟨y0, y1, y2, _, _, _⟩ := yy.three
    refine bodyPost_ret (v := .tuple #[.agg #[.int .i64 1, .int .i64 i, .int .i64 0], .int .i64 ei]) (by simp [results, Tryd.results8, go_sem, y0, y1, y2]) rfl ⟨by rw [HP.out]; rfl, ?_⟩
    exact below_three HLW (by omega) _ _ _
  | none =>
    have HD := Lib.hid hD
    have HV := Lib.hid (fstV_no hD)
    clear hD
    cases hR : fst0 (errR S) S.rs.length with
    | some i =>
      have HP := Lib.hid (checkP_r HLL.out HD.out hR)
      have HV2 := Lib.hid (fstV_of hR)
      obtain ⟨ei, hei⟩ : ∃ ei, ei = errR S i := ⟨_, rfl⟩
      have b1 : (ei == 0) = false := by rw [hei]; exact beq_eq_false_iff_ne.2 (fst0_is hR).2.1
      have b2 := Lib.hid (fst0_is hR).2.1
      rw [← hei] at HP HV2 b2
      clear hR hei
      go_enter Tryd.func8, Tryd.ntmps8
      go_wp2_with fail
      refine (CD.out).mono ?_
      rintro e w1 ⟨rfl, hw1, hi1⟩
      rw [HV.out]
      have st1 := hi1 HD.out
      have CR := Lib.hid (ckR S HOK.out w t _ _ _ _ f HSP.out w1 st1)
      have s0 := st1.spec.four
      have q0 := st1.ptr.cell 0
      clear hi1
      obtain ⟨s0, s1, s2, s3⟩ := s0
      go_wp2_with fail
      refine (CR.out).mono ?_
      rintro e w2 ⟨rfl, hw2, _⟩
      rw [HV2.out]
      obtain ⟨x0, x1, x2, f0, f1, f2⟩ := hw2.res.three
      have HLW := hw2.low
      go_wp2
      have yy := set_three hw2.res (.int .i64 2) (.int .i64 i) (.int .i64 0)
      obtain ⟨y0, y1, y2, _, _, _⟩ := yy.three
      refine bodyPost_ret (v := .tuple #[.agg #[.int .i64 2, .int .i64 i, .int .i64 0], .int .i64 ei]) (by simp [results, Tryd.results8, go_sem, y0, y1, y2]) rfl ⟨by rw [HP.out]; rfl, ?_⟩
      exact below_three HLW (by omega) _ _ _
    | none => exact absurd hR (by rcases hbad with h | h; exact absurd HD.out h; exact h)
end Go.Proofs.YtkddeliifadcoaaDoor
