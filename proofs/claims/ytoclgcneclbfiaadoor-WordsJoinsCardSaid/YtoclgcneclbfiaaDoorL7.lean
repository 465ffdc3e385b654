/-
  WALKS: WordsSplits and WordsJoins.
-/
import Derived.Test.YtoclgcneclbfiaaDoorW27
namespace Go.Proofs.YtoclgcneclbfiaaDoor
open Go.RowKit
theorem split_len (l : List UInt8) : (splitL l).2.length ≤ 64 ∧ ((splitL l).1 ≠ 0 → (splitL l).2 = []) := by
  unfold splitL
  split
  · simp
  · split
    · simp
    · split
      · simp
      · split
        · simp
        · next hc => exact ⟨Nat.le_of_not_lt hc, fun h => absurd rfl h⟩
theorem right_size {fs : List (Bool × ByteArray)} (h : (fs.map fL).all rightF = true) : ∀ f ∈ fs, f.2.size ≤ 20000 := by
  intro f hf
  have h1 := List.all_eq_true.1 h (fL f) (List.mem_map_of_mem hf)
  obtain ⟨q, x⟩ := f
  cases q with
  | true =>
    have h2 := textB_le (show textB (L x) = true from h1)
    rw [L_length] at h2
    show x.size ≤ 20000
    omega
  | false =>
    have hb : bareB (L x) = true := h1
    unfold bareB at hb
    simp only [Bool.and_eq_true, decide_eq_true_eq, L_length] at hb
    show x.size ≤ 20000
    omega
theorem join_right {fs : List (Bool × List UInt8)} {l : List UInt8} (h : joinL fs = (0, l)) : fs.all rightF = true := by
  unfold joinL at h
  split at h
  · cases h
  · split at h
    · cases h
    · next hr => simpa using hr
theorem split_ok (s : ByteArray) (k : Int) (F : List (Bool × List UInt8)) (h : splitL (L s) = (k, F)) (w : World) (t : Tabs w) : Calls Tryd.prog 26 #[.string s] w fun e w' => ∃ v fs, e = .returned (.tuple #[v, .int .i64 k]) ∧ F = fs.map fL ∧ FRead w' v fs ∧ Below w.heap.size w w' := by
  refine (split_any s w t).mono ?_
  rintro e w' ⟨v, fs, rfl, hfs, hrow, hb⟩
  rw [h] at hfs ⊢
  exact ⟨v, fs, rfl, hfs, FRead.of_row hrow, hb⟩
theorem rsplit_ok (s : ByteArray) (k : Int) (F : List (Bool × List UInt8)) (h : splitL (L s) = (k, F)) (w : World) (hs : s.size ≤ 1000000) : Calls Tryd.prog 27 #[.string s] w fun e w' => ∃ v fs, e = .returned (.tuple #[v, .int .i64 k]) ∧ F = fs.map fL ∧ FRead w' v fs ∧ Below w.heap.size w w' := by
  refine (rsplit_any s w hs).mono ?_
  rintro e w' ⟨v, fs, rfl, hfs, hrow, hb⟩
  rw [h] at hfs ⊢
  exact ⟨v, fs, rfl, hfs, FRead.of_row hrow, hb⟩
theorem fields_ok (v : Value) (fs : List (Bool × ByteArray)) (w : World) (h : FRead w v fs) (hn : fs.length ≤ 100000) :
    Calls Tryd.prog 29 #[v] w fun e w' => ∃ v, e = .returned v ∧ FRead w' v fs ∧ Below w.heap.size w w' :=
  (fields_any v fs w h hn).mono fun _ _ ⟨v, he, hr, hb⟩ => ⟨v, he, FRead.of_row hr, hb⟩
theorem alike_ok (v1 v2 : Value) (fs gs : List (Bool × ByteArray)) (w : World) (h1 : FRead w v1 fs) (h2 : FRead w v2 gs) (hn : fs.length ≤ 100000) (he : fs.map fL = gs.map fL) :
    Calls Tryd.prog 28 #[v1, v2] w fun e w' => e = .returned (.bool true) ∧ Below w.heap.size w w' := by
  have := alike_any v1 v2 fs gs w h1 h2 hn
  rwa [decide_eq_true he] at this
theorem join_ok (v : Value) (fs : List (Bool × ByteArray)) (k : Int) (y : ByteArray) (h : joinL (fs.map fL) = (k, L y)) (w : World) (t : Tabs w) (hr : FRead w v fs) (hz : ∀ f ∈ fs, f.2.size ≤ 20000) :
    Calls Tryd.prog 30 #[v] w fun e w' => e = .returned (.tuple #[.string y, .int .i64 k]) ∧ Below w.heap.size w w' := by
  refine (join_any v fs w t hr hz).mono ?_
  rintro e w' ⟨s, rfl, hs, hb⟩
  rw [h] at hs ⊢
  exact ⟨by rw [eq_of_L hs], hb⟩
theorem rjoin_ok (v : Value) (fs : List (Bool × ByteArray)) (k : Int) (y : ByteArray) (h : joinL (fs.map fL) = (k, L y)) (w : World) (hr : FRead w v fs) (hz : ∀ f ∈ fs, f.2.size ≤ 20000) :
    Calls Tryd.prog 31 #[v] w fun e w' => e = .returned (.tuple #[.string y, .int .i64 k]) ∧ Below w.heap.size w w' := by
  refine (rjoin_any v fs w hr hz).mono ?_
  rintro e w' ⟨s, rfl, hs, hb⟩
  rw [h] at hs ⊢
  exact ⟨by rw [eq_of_L hs], hb⟩
set_option maxRecDepth 100000 in
set_option maxHeartbeats 6400000 in
theorem wordsSplits_walk (s : ByteArray) (w : World) (t : Tabs w) :
    Calls Tryd.prog 7 #[.string s] w fun e w' => e = .returned (.bool true) ∧ Below w.heap.size w w' := by
  by_cases hl : 6000 < s.size
  · go_enter Tryd.func7, Tryd.ntmps7
    go_wp2_with fail
    refine (shown_any _ t).mono ?_
    rintro e w2 ⟨rfl, hb⟩
    go_wp2_with fail
    go_ret
    exact ⟨rfl, hb⟩
  · obtain ⟨k, F, hF⟩ : ∃ k F, splitL (L s) = (k, F) := ⟨_, _, rfl⟩
    have hFl : F.length ≤ 64 := by have := (split_len (L s)).1; rwa [hF] at this
    have C1 := Lib.hid (fun W t => split_ok s k F hF W t)
    have C2 := Lib.hid (fun W => rsplit_ok s k F hF W (by omega))
    have HF := Lib.hid hF
    have HL := Lib.hid hFl
    clear hF hFl
    go_enter Tryd.func7, Tryd.ntmps7
    go_wp2_with fail
    refine (C1.out _ t).mono ?_
    rintro e w1 ⟨v1, fs1, rfl, hf1, hr1, hb1⟩
    have t1 := t.below hb1
    have G1 := Lib.hid hf1
    clear hf1
    go_wp2_with fail
    refine (C2.out _).mono ?_
    rintro e w2 ⟨v2, fs2, rfl, hf2, hr2, hb2⟩
    have hB2 := below_step hb1 hb2
    have r12 := hr1.later hb2
    have G2 := Lib.hid hf2
    have GE := Lib.hid (show fs1.map fL = fs2.map fL by rw [← G1.out, ← G2.out])
    have hn1 : fs1.length ≤ 64 := by have := HL.out; rw [G1.out, List.length_map] at this; exact this
    clear hf2 hb2 hr1
    go_wp2_with fail
    refine (fields_ok v1 fs1 _ r12 (by omega)).mono ?_
    rintro e w3 ⟨v3, rfl, hr3, hb3⟩
    have hB3 := below_step hB2 hb3
    have r23 := hr2.later hb3
    have r13 := r12.later hb3
    clear hb3 hr2 r12
    go_wp2_with fail
    refine (alike_ok v3 v2 fs1 fs2 _ hr3 r23 (by omega) GE.out).mono ?_
    rintro e w4 ⟨rfl, hb4⟩
    have hB4 := below_step hB3 hb4
    have r14 := r13.later hb4
    have t4 := t.below hB4
    clear hb4 hr3 r23 r13
    by_cases hk : k = 0
    · subst hk
      have hj := join_split HF.out
      rw [G1.out] at hj
      have HJ := Lib.hid hj
      have hz1 := Lib.hid (right_size (join_right hj))
      clear hj
      go_wp2_with fail
      refine (join_ok v1 fs1 0 s HJ.out _ t4 r14 hz1.out).mono ?_
      rintro e w5 ⟨rfl, hb5⟩
      have hB5 := below_step hB4 hb5
      have t5 := t.below hB5
      go_wp2_with fail
      refine (shown_any _ t5).mono ?_
      rintro e w6 ⟨rfl, hb6⟩
      go_wp2_with fail
      go_ret
      exact ⟨rfl, below_step hB5 hb6⟩
    · have hk1 : (k == 0) = false := beq_eq_false_iff_ne.2 hk
      have HK := Lib.hid hk
      clear hk
      go_wp2_with fail
      refine (shown_any _ t4).mono ?_
      rintro e w6 ⟨rfl, hb6⟩
      go_wp2_with fail
      go_ret
      exact ⟨rfl, below_step hB4 hb6⟩
/-- What the law adds up. -/
def mins (fs : List (Bool × ByteArray)) : Nat := (fs.map fun f => min f.2.size 6001).sum
theorem mins_snoc (fs : List (Bool × ByteArray)) (k : Nat) (h : k < fs.length) : mins (fs.take (k + 1)) = mins (fs.take k) + min fs[k].2.size 6001 := by
  unfold mins
  rw [List.take_succ_eq_append_getElem h, List.map_append, List.sum_append]
  simp
theorem mins_le (fs : List (Bool × ByteArray)) : mins fs ≤ 6001 * fs.length := by
  induction fs with
  | nil => simp [mins]
  | cons f r ih =>
    simp only [mins, List.map_cons, List.sum_cons, List.length_cons] at *
    omega
theorem mins_all {fs : List (Bool × ByteArray)} (h : mins fs ≤ 6000) : ∀ f ∈ fs, f.2.size ≤ 6000 := by
  induction fs with
  | nil => intro f hf; cases hf
  | cons f r ih =>
    simp only [mins, List.map_cons, List.sum_cons] at *
    intro g hg
    rcases List.mem_cons.1 hg with rfl | hg
    · omega
    · exact ih (by omega) g hg
theorem mins_step {fs : List (Bool × ByteArray)} {k : Nat} (h : k < fs.length) (z : Nat) (hz : fs[k].2.size = z) : (z ≤ 6001 ∧ mins (fs.take (k + 1)) = mins (fs.take k) + z) ∨ (6001 < z ∧ mins (fs.take (k + 1)) = mins (fs.take k) + 6001) := by
  have e := mins_snoc fs k h
  rw [hz] at e
  omega
/-- A slice of fields that can be read, wherever it lies if it is empty. -/
def ARead (w : World) (v : Value) (fs : List (Bool × ByteArray)) : Prop := ∃ a c, v = .slice a fs.length c ∧
  ∀ i (h : i < fs.length), ∃ b o, a = some ⟨b, o, none⟩ ∧ w.cell? ⟨b, o + i * 2, none⟩ = some (.bool fs[i].1) ∧ w.cell? ⟨b, o + i * 2 + 1, none⟩ = some (.string fs[i].2)
theorem ARead.later {w w' : World} {v : Value} {fs : List (Bool × ByteArray)} (h : ARead w v fs) (hb : Below w.heap.size w w') : ARead w' v fs := by
  obtain ⟨a, c, rfl, hr⟩ := h
  refine ⟨a, c, rfl, fun i hi => ?_⟩
  obtain ⟨b, o, ha, h1, h2⟩ := hr i hi
  exact ⟨b, o, ha, (hb.cell (cell_size h1)).trans h1, (hb.cell (cell_size h2)).trans h2⟩
theorem join_arg (v : Value) (fs : List (Bool × ByteArray)) (k : Int) (y : ByteArray) (h : joinL (fs.map fL) = (k, L y)) (w : World) (t : Tabs w) (hr : ARead w v fs) (hz : ∀ f ∈ fs, f.2.size ≤ 20000) :
    Calls Tryd.prog 30 #[v] w fun e w' => e = .returned (.tuple #[.string y, .int .i64 k]) ∧ Below w.heap.size w w' := by
  have key : Calls Tryd.prog 30 #[v] w (JoinEnds fs w) := by
    obtain ⟨a, c, rfl, h1⟩ := hr
    by_cases hn : 64 < fs.length
    · exact join_toolong a c fs w hn
    · exact join_mem fs a c w t hn hz h1
  refine key.mono ?_
  rintro e w' ⟨s, rfl, hs, hb⟩
  rw [h] at hs ⊢
  exact ⟨by rw [eq_of_L hs], hb⟩
theorem fields_arg (v : Value) (fs : List (Bool × ByteArray)) (w : World) (h : ARead w v fs) (hn : fs.length ≤ 100000) :
    Calls Tryd.prog 29 #[v] w fun e w' => ∃ v, e = .returned v ∧ FRead w' v fs ∧ Below w.heap.size w w' := by
  obtain ⟨a, c, rfl, h1⟩ := h
  exact (fields_mem fs a c w hn h1).mono fun _ _ ⟨v, he, hr, hb⟩ => ⟨v, he, FRead.of_row hr, hb⟩
set_option maxRecDepth 100000 in
set_option maxHeartbeats 6400000 in
theorem wordsJoins_tail (fs : List (Bool × ByteArray)) (v : Value) (w : World) (t : Tabs w) (hr : ARead w v fs) (hn : fs.length ≤ 100) :
    Calls Tryd.prog 8 #[v] w fun e w' => e = .returned (.bool true) ∧ Below w.heap.size w w' := by
  have hr0 := hr
  obtain ⟨a, c, rfl, h1⟩ := hr0
  have H1 := Lib.hid h1
  clear h1
  go_enter Tryd.func8, Tryd.ntmps8
  go_wp2
  go_loop [3, 4] (fun n i => ∃ k : Nat, k ≤ fs.length ∧ i = .int .i64 k ∧ n = .int .i64 (mins (fs.take k)) ∧ mins (fs.take k) ≤ 6001 * k) (fun _ i => fs.length - (intOf i).toNat)
  case atStart => exact ⟨0, Nat.zero_le _, rfl, rfl, by simp [mins]⟩
  case round =>
    obtain ⟨k, hk, rfl, rfl, hm⟩ := hrel
    by_cases hlt : k < fs.length
    · obtain ⟨b, o, rfl, a1, a2⟩ := H1.out k hlt
      obtain ⟨x, hx⟩ : ∃ x, fs[k].2 = x := ⟨_, rfl⟩
      have hst := mins_step hlt x.size (by rw [hx])
      rw [hx] at a2
      have hi1 : (0 : Int) ≤ (k : Int) := Int.natCast_nonneg _
      have hi2 : (k : Int) < (fs.length : Int) := by omega
      clear hx a1
      go_wp2
      go_round
      case rel => exact ⟨k + 1, by omega, by go_num, congrArg (Value.int .i64) (by omega), by omega⟩
      case measure => simp [intOf]; omega
    · have he : mins (fs.take k) = mins fs := by rw [List.take_of_length_le (by omega)]
      rw [he] at hm ⊢
      clear he
      by_cases hm2 : 6000 < mins fs
      · go_wp2_with fail
        refine (shown_any _ t).mono ?_
        rintro e w2 ⟨rfl, hb⟩
        go_wp2_with fail
        go_ret
        exact ⟨rfl, hb⟩
      · have hsz : ∀ f ∈ fs, f.2.size ≤ 20000 := fun f hf => by have := mins_all (by omega) f hf; omega
        obtain ⟨k0, y0, hJ⟩ : ∃ k0 y0, joinL (fs.map fL) = (k0, y0) := ⟨_, _, rfl⟩
        obtain ⟨y, hy⟩ := mkL y0
        rw [← hy] at hJ
        have HJ := Lib.hid hJ
        have HS := Lib.hid hsz
        clear hy hJ hsz
        go_wp2_with fail
        refine (join_arg _ fs k0 y HJ.out _ t hr HS.out).mono ?_
        rintro e w1 ⟨rfl, hB1⟩
        have r1 := hr.later hB1
        go_wp2_with fail
        refine (fields_arg _ fs _ r1 (by omega)).mono ?_
        rintro e w2 ⟨v2, rfl, hr2, hb2⟩
        have hB2 := below_step hB1 hb2
        have r2 := r1.later hb2
        clear hb2
        go_wp2_with fail
        refine (rjoin_ok v2 fs k0 y HJ.out _ hr2 HS.out).mono ?_
        rintro e w3 ⟨rfl, hb3⟩
        have hB3 := below_step hB2 hb3
        have r3 := r2.later hb3
        have t3 := t.below hB3
        clear hb3 hr2 r2 r1
        by_cases hk0 : k0 = 0
        · subst hk0
          have HP := Lib.hid (split_join HJ.out)
          go_wp2_with fail
          refine (split_ok y 0 _ HP.out _ t3).mono ?_
          rintro e w4 ⟨v4, gs, rfl, hgs, hr4, hb4⟩
          have hB4 := below_step hB3 hb4
          have r4 := r3.later hb4
          have hgl : gs.length ≤ 100 := by have := congrArg List.length hgs; rw [List.length_map, List.length_map] at this; omega
          have HG := Lib.hid hgs
          clear hb4 hgs r3
          go_wp2_with fail
          refine (fields_ok v4 gs _ hr4 (by omega)).mono ?_
          rintro e w5 ⟨v5, rfl, hr5, hb5⟩
          have hB5 := below_step hB4 hb5
          have r5 := r4.later hb5
          clear hb5 r4 hr4
          go_wp2_with fail
          refine (fields_arg _ fs _ r5 (by omega)).mono ?_
          rintro e w6 ⟨v6, rfl, hr6, hb6⟩
          have hB6 := below_step hB5 hb6
          have r6 := hr5.later hb6
          clear hb6 hr5 r5
          go_wp2_with fail
          refine (alike_ok v5 v6 gs fs _ r6 hr6 (by omega) HG.out.symm).mono ?_
          rintro e w7 ⟨rfl, hb7⟩
          have hB7 := below_step hB6 hb7
          have t7 := t.below hB7
          clear hb7 r6 hr6
          go_wp2_with fail
          refine (shown_any _ t7).mono ?_
          rintro e w8 ⟨rfl, hb8⟩
          go_wp2_with fail
          go_ret
          exact ⟨rfl, below_step hB7 hb8⟩
        · have hk1 : (k0 == 0) = false := beq_eq_false_iff_ne.2 hk0
          have HK := Lib.hid hk0
          clear hk0
          go_wp2_with fail
          refine (shown_any _ t3).mono ?_
          rintro e w6 ⟨rfl, hb6⟩
          go_wp2_with fail
          go_ret
          exact ⟨rfl, below_step hB3 hb6⟩
set_option maxHeartbeats 400000 in
theorem wordsJoins_walk (v : Value) (fs : List (Bool × ByteArray)) (w : World) (t : Tabs w) (h : ARead w v fs) : Calls Tryd.prog 8 #[v] w fun e w' => e = .returned (.bool true) ∧ Below w.heap.size w w' := by
  by_cases hn : 100 < fs.length
  · obtain ⟨a, c, rfl, _⟩ := h
    go_enter Tryd.func8, Tryd.ntmps8
    go_wp2_with fail
    refine (shown_any _ t).mono ?_
    rintro e w2 ⟨rfl, hb⟩
    go_wp2_with fail
    go_ret
    exact ⟨rfl, hb⟩
  · exact wordsJoins_tail fs v w t h (by omega)
end Go.Proofs.YtoclgcneclbfiaaDoor
