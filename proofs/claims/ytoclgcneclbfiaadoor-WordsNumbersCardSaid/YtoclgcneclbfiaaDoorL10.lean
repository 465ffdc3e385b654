/-
  THE WALK of the law WordsNumbers.
-/
import Derived.Test.YtoclgcneclbfiaaDoorW12
import Derived.Test.YtoclgcneclbfiaaDoorW19
namespace Go.Proofs.YtoclgcneclbfiaaDoor
open Go.RowKit
set_option maxHeartbeats 1600000 in
theorem rint_any (s : ByteArray) (lo hi : Int) (w : World) (hs : s.size ≤ 1000000) (l1 : -9223372036854775808 ≤ lo) (l2 : hi ≤ 9223372036854775807) :
    Calls Tryd.prog 35 #[.string s, .int .i64 lo, .int .i64 hi] w fun e w' => e = .returned (pairI (numR (L s) lo hi)) ∧ Below w.heap.size w w' := by
  by_cases hlo : hi < lo
  · rw [num_arg hlo]
    go_enter Tryd.func35, Tryd.ntmps35
    go_wp2
    go_ret2
    exact ⟨rfl, Below.refl _ _⟩
  cases hw : wholeB (L s)
  · rw [num_form hlo hw]
    have C1 := Lib.hid (fun W => rwhole_is s hw W hs)
    clear hw
    go_enter Tryd.func35, Tryd.ntmps35
    go_wp2_with (go_at_call 61; refine (C1.out _).mono ?_; rintro e w' ⟨rfl, rfl⟩)
    go_ret2
    exact ⟨rfl, Below.refl _ _⟩
  by_cases h20 : 20 < s.size
  · have ho := long_out hw (by rw [L_length]; exact h20)
    rw [num_val hlo hw, if_pos (by omega)]
    have C1 := Lib.hid (fun W => rwhole_is s hw W hs)
    clear hw ho
    go_enter Tryd.func35, Tryd.ntmps35
    go_wp2_with (go_at_call 61; refine (C1.out _).mono ?_; rintro e w' ⟨rfl, rfl⟩)
    go_ret2
    exact ⟨rfl, Below.refl _ _⟩
  have h0 : 0 < s.size := by
    rcases Nat.eq_zero_or_pos s.size with h | h
    · have e : L s = [] := List.length_eq_zero_iff.1 (by rw [L_length]; exact h)
      rw [e] at hw
      cases hw
    · exact h
  have hsg := sign_at s h0
  by_cases hc : (s[0].toNat : Int) = 45
  · rw [if_pos hc] at hsg
    refine rint_run1 s lo hi w (by omega) h0 hlo l1 l2 (by rw [beq_iff_eq]; exact hc) hw ?_ ?_
    · unfold valL
      rw [hsg, take_all s _ (Nat.le_refl _)]
      rfl
    · unfold wholeB wholeT at hw
      rw [hsg] at hw
      simp only [Bool.and_eq_true] at hw
      exact hw.1.1
  · rw [if_neg hc] at hsg
    refine rint_run0 s lo hi w (by omega) h0 hlo l1 l2 (by rw [beq_eq_false_iff_ne]; exact hc) hw ?_ ?_
    · unfold valL
      rw [hsg, take_all s _ (Nat.le_refl _)]
      rfl
    · unfold wholeB wholeT at hw
      rw [hsg] at hw
      simp only [Bool.and_eq_true] at hw
      exact hw.1.1
theorem numR_back (n : Int) (h1 : -9223372036854775808 ≤ n) (h2 : n ≤ 9223372036854775807) : numR (Lib.itoa n) (-9223372036854775808) 9223372036854775807 = (n, 0) := by
  have h := itoa_says n
  rw [num_val (by omega) h.1, h.2, if_neg (by omega)]
set_option maxRecDepth 100000 in
set_option maxHeartbeats 3200000 in
theorem wordsNumbers_walk (n : Int) (s : ByteArray) (lo hi : Int) (w : World) (t : Tabs w) (hv : ErrV w) (n1 : -9223372036854775808 ≤ n) (n2 : n ≤ 9223372036854775807) (l1 : -9223372036854775808 ≤ lo) (l2 : hi ≤ 9223372036854775807) :
    Calls Tryd.prog 10 #[.int .i64 n, .agg #[.string s, .int .i64 lo, .int .i64 hi]] w fun e w' => e = .returned (.bool true) ∧ Below w.heap.size w w' := by
  have hb0 : Below w.heap.size w (w.alloc (.cells #[.string s, .int .i64 lo, .int .i64 hi] 50)) := (Below.refl _ _).alloc (Nat.le_refl _) _
  have t0 := t.below hb0
  have v0 := hv.below hb0
  by_cases hl : 20000 < s.size
  · go_enter Tryd.func10, Tryd.ntmps10
    go_wp2_with fail
    refine (shown_any _ t0).mono ?_
    rintro e w2 ⟨rfl, hb⟩
    go_wp2_with fail
    go_ret
    exact ⟨rfl, hb0.trans (hb.mono hb0.size)⟩
  · obtain ⟨a, c, hn⟩ : ∃ a c, numR (L s) lo hi = (a, c) := ⟨_, _, rfl⟩
    obtain ⟨d, hd⟩ := mkL (Lib.itoa n)
    have hdz : d.size ≤ 21 := by rw [size_of_L hd]; exact itoa_le n n1 n2
    have K1 : ∀ w, ErrV w → Calls Tryd.prog 34 #[.string s, .int .i64 lo, .int .i64 hi] w fun e w' => e = .returned (.tuple #[.int .i64 a, .int .i64 c]) ∧ Below w.heap.size w w' := by
      intro w hv
      have := int_any s lo hi w (by omega) hv l1 l2
      rwa [hn] at this
    have K2 : ∀ w, Calls Tryd.prog 35 #[.string s, .int .i64 lo, .int .i64 hi] w fun e w' => e = .returned (.tuple #[.int .i64 a, .int .i64 c]) ∧ Below w.heap.size w w' := by
      intro w
      have := rint_any s lo hi w (by omega) l1 l2
      rwa [hn] at this
    have K3 : ∀ w, Tabs w → Calls Tryd.prog 36 #[.int .i64 n] w fun e w' => e = .returned (.string d) ∧ Below w.heap.size w w' := by
      intro w t
      have := digits_any n w n1 n2 t
      rwa [mk_of_L hd] at this
    have K4 : ∀ w, ErrV w → Calls Tryd.prog 34 #[.string d, .int .i64 (-9223372036854775808), .int .i64 9223372036854775807] w fun e w' => e = .returned (.tuple #[.int .i64 n, .int .i64 0]) ∧ Below w.heap.size w w' := by
      intro w hv
      have := int_any d (-9223372036854775808) 9223372036854775807 w (by omega) hv (by omega) (by omega)
      rwa [hd, numR_back n n1 n2] at this
    have K5 := fun w => rdigits_as d hd w n1 n2
    have H1 := Lib.hid K1
    have H2 := Lib.hid K2
    have H3 := Lib.hid K3
    have H4 := Lib.hid K4
    have H5 := Lib.hid K5
    clear K1 K2 K3 K4 K5 hn hd
    go_enter Tryd.func10, Tryd.ntmps10
    go_wp2_with fail
    refine (H1.out _ v0).mono ?_
    rintro e w1 ⟨rfl, hb1⟩
    have c0 : w1.cell? ⟨w.heap.size, 0, none⟩ = some (.string s) := (hb1.cell (by simp)).trans (by simp)
    have c1 : w1.cell? ⟨w.heap.size, 1, none⟩ = some (.int .i64 lo) := (hb1.cell (by simp)).trans (by simp)
    have c2 : w1.cell? ⟨w.heap.size, 2, none⟩ = some (.int .i64 hi) := (hb1.cell (by simp)).trans (by simp)
    have hB1 := below_step hb0 hb1
    have t1 := t.below hB1
    have v1 := hv.below hB1
    clear hb1
    go_wp2_with fail
    refine (H2.out _).mono ?_
    rintro e w2 ⟨rfl, hb2⟩
    have hB2 := below_step hB1 hb2
    have t2 := t.below hB2
    have v2 := hv.below hB2
    clear hb2 c0 c1 c2
    go_wp2_with fail
    refine (H3.out _ t2).mono ?_
    rintro e w3 ⟨rfl, hb3⟩
    have hB3 := below_step hB2 hb3
    have t3 := t.below hB3
    have v3 := hv.below hB3
    clear hb3
    go_wp2_with fail
    refine (H4.out _ v3).mono ?_
    rintro e w4 ⟨rfl, hb4⟩
    have hB4 := below_step hB3 hb4
    have t4 := t.below hB4
    clear hb4
    go_wp2_with fail
    refine (H3.out _ t4).mono ?_
    rintro e w5 ⟨rfl, hb5⟩
    have hB5 := below_step hB4 hb5
    clear hb5
    go_wp2_with fail
    refine (H5.out _).mono ?_
    rintro e w6 ⟨rfl, hb6⟩
    have hB6 := below_step hB5 hb6
    have t6 := t.below hB6
    clear hb6
    go_wp2_with fail
    refine (shown_any _ t6).mono ?_
    rintro e w7 ⟨rfl, hb7⟩
    go_wp2_with fail
    go_ret
    exact ⟨rfl, below_step hB6 hb7⟩
end Go.Proofs.YtoclgcneclbfiaaDoor
