/-
  THE WALK of the law WordsQuotes.
-/
import Derived.Test.YtoclgcneclbfiaaDoorW12
import Derived.Test.YtoclgcneclbfiaaDoorW13
namespace Go.Proofs.YtoclgcneclbfiaaDoor
open Go.RowKit
theorem mid_quote (l : List UInt8) : mid (quoteL l) = dbl l := by
  unfold mid quoteL
  simp
theorem unquote_quote (l : List UInt8) (h : textB l = true) : unquoteL (quoteL l) = some l := by
  unfold unquoteL
  rw [mid_quote, hlv_dbl, if_pos ⟨h, rfl⟩]
/-- What both Quotes return. -/
theorem quote_both (s : ByteArray) (hs : s.size ≤ maxLen) : ∃ (q : ByteArray) (k : Int),
    (∀ w, Tabs w → Calls Tryd.prog 18 #[.string s] w fun e w' => e = .returned (.tuple #[.string q, .int .i64 k]) ∧ Below w.heap.size w w') ∧
    (∀ w, Calls Tryd.prog 19 #[.string s] w fun e w' => e = .returned (.tuple #[.string q, .int .i64 k]) ∧ w = w') ∧
    (k = 2 ∨ k = 0 ∧ q.size ≤ 1048676 ∧ textB (L s) = true ∧ L q = quoteL (L s)) := by
  cases h : textB (L s)
  · refine ⟨⟨#[]⟩, 2, fun w _ => (quote_no s w hs h).mono ?_, fun w => rquote_no s w hs h, .inl rfl⟩
    rintro e w' ⟨rfl, rfl⟩
    exact ⟨rfl, Below.refl _ _⟩
  · obtain ⟨q, hq⟩ := mkL (quoteL (L s))
    refine ⟨q, 0, fun w t => quote_yes s q hq w t h, fun w => rquote_yes s q hq w h, .inr ⟨rfl, ?_, rfl, hq⟩⟩
    have h1 := textB_le h
    have h2 := dbl_length_le (L s)
    rw [size_of_L hq]
    simp [quoteL]
    omega
/-- What both Unquotes return. -/
theorem unquote_both (s : ByteArray) (hs : s.size ≤ 1048676) : ∃ (u : ByteArray) (k : Int),
    (∀ w, Tabs w → Calls Tryd.prog 20 #[.string s] w fun e w' => e = .returned (.tuple #[.string u, .int .i64 k]) ∧ Below w.heap.size w w') ∧
    (∀ w, Calls Tryd.prog 21 #[.string s] w fun e w' => e = .returned (.tuple #[.string u, .int .i64 k]) ∧ w = w') ∧
    (k = 6 ∧ unquoteL (L s) = none ∨ k = 0 ∧ unquoteL (L s) = some (L u)) := by
  cases h : unquoteL (L s) with
  | none =>
    refine ⟨⟨#[]⟩, 6, fun w t => ?_, fun w => ?_, .inl ⟨rfl, rfl⟩⟩
    · have := unquote_any s w t hs
      rw [h] at this
      exact this
    · have := runquote_any s w hs
      rw [h] at this
      exact this
  | some u =>
    refine ⟨⟨u.toArray⟩, 0, fun w t => ?_, fun w => ?_, .inr ⟨rfl, rfl⟩⟩
    · have := unquote_any s w t hs
      rw [h] at this
      exact this
    · have := runquote_any s w hs
      rw [h] at this
      exact this
theorem unquote_some {l u : List UInt8} (h : unquoteL l = some u) : textB u = true ∧ quoteL u = l := by
  unfold unquoteL at h
  split at h
  · next g => cases h; exact g
  · cases h
set_option maxHeartbeats 1600000 in
theorem wordsQuotes_walk (s : ByteArray) (w : World) (t : Tabs w) (hs : s.size ≤ maxLen) :
    Calls Tryd.prog 4 #[.string s] w fun e w' => e = .returned (.bool true) ∧ Below w.heap.size w w' := by
  by_cases hl : 20000 < s.size
  · go_enter Tryd.func4, Tryd.ntmps4
    go_wp2_with fail
    refine (shown_any _ t).mono ?_
    rintro e w2 ⟨rfl, hb⟩
    go_wp2_with fail
    go_ret
    exact ⟨rfl, hb⟩
  · obtain ⟨q, k, Q1, Q2, hq⟩ := quote_both s hs
    obtain ⟨u, j, U1, U2, hu⟩ := unquote_both s (by omega)
    have hk : k = 2 ∨ k = 0 ∧ ∀ w, Tabs w → Calls Tryd.prog 20 #[.string q] w fun e w' => e = .returned (.tuple #[.string s, .int .i64 0]) ∧ Below w.heap.size w w' := by
      rcases hq with rfl | ⟨rfl, h1, h2, h3⟩
      · exact .inl rfl
      · refine .inr ⟨rfl, fun w t => ?_⟩
        have := unquote_any q w t h1
        rw [h3, unquote_quote _ h2] at this
        exact this
    have hj : j = 6 ∨ j = 0 ∧ ∀ w, Tabs w → Calls Tryd.prog 18 #[.string u] w fun e w' => e = .returned (.tuple #[.string s, .int .i64 0]) ∧ Below w.heap.size w w' := by
      rcases hu with ⟨rfl, _⟩ | ⟨rfl, h1⟩
      · exact .inl rfl
      · refine .inr ⟨rfl, fun w t => ?_⟩
        have h2 := unquote_some h1
        exact quote_yes u s h2.2.symm w t h2.1
    clear hq hu
    have K1 := Lib.hid Q1
    have K2 := Lib.hid Q2
    have K3 := Lib.hid U1
    have K4 := Lib.hid U2
    clear Q1 Q2 U1 U2
    rcases hk with rfl | ⟨rfl, hk⟩ <;> rcases hj with rfl | ⟨rfl, hj⟩
    all_goals
      go_enter Tryd.func4, Tryd.ntmps4
      go_wp2_with fail
      refine (K1.out _ t).mono ?_
      rintro e w1 ⟨rfl, hb1⟩
      have t1 := t.below hb1
      go_wp2_with fail
      refine (K2.out _).mono ?_
      rintro e w' ⟨rfl, rfl⟩
      go_wp2_with fail
      refine (K3.out _ t1).mono ?_
      rintro e w2 ⟨rfl, hb2⟩
      have t2 := t1.below hb2
      have hb3 := hb1.trans (hb2.mono hb1.size)
      go_wp2_with fail
      refine (K4.out _).mono ?_
      rintro e w' ⟨rfl, rfl⟩
      go_wp2_with fail
    · refine (shown_any _ t2).mono ?_
      rintro e w3 ⟨rfl, hb4⟩
      go_wp2_with fail
      go_ret
      exact ⟨rfl, hb3.trans (hb4.mono hb3.size)⟩
    · refine (hj _ t2).mono ?_
      rintro e w3 ⟨rfl, hb4⟩
      have t3 := t2.below hb4
      have hb5 := hb3.trans (hb4.mono hb3.size)
      go_wp2_with fail
      refine (shown_any _ t3).mono ?_
      rintro e w4 ⟨rfl, hb6⟩
      go_wp2_with fail
      go_ret
      exact ⟨rfl, hb5.trans (hb6.mono hb5.size)⟩
    · refine (hk _ t2).mono ?_
      rintro e w3 ⟨rfl, hb4⟩
      have t3 := t2.below hb4
      have hb5 := hb3.trans (hb4.mono hb3.size)
      go_wp2_with fail
      refine (shown_any _ t3).mono ?_
      rintro e w4 ⟨rfl, hb6⟩
      go_wp2_with fail
      go_ret
      exact ⟨rfl, hb5.trans (hb6.mono hb5.size)⟩
    · refine (hk _ t2).mono ?_
      rintro e w3 ⟨rfl, hb4⟩
      have t3 := t2.below hb4
      have hb5 := hb3.trans (hb4.mono hb3.size)
      go_wp2_with fail
      refine (hj _ t3).mono ?_
      rintro e w4 ⟨rfl, hb6⟩
      have t4 := t3.below hb6
      have hb7 := hb5.trans (hb6.mono hb5.size)
      go_wp2_with fail
      refine (shown_any _ t4).mono ?_
      rintro e w5 ⟨rfl, hb8⟩
      go_wp2_with fail
      go_ret
      exact ⟨rfl, hb7.trans (hb8.mono hb7.size)⟩
end Go.Proofs.YtoclgcneclbfiaaDoor
