/-
  THE WALK of the law WordsNotes.
-/
import Derived.Test.YtoclgcneclbfiaaDoorW12
import Derived.Test.YtoclgcneclbfiaaDoorW15
namespace Go.Proofs.YtoclgcneclbfiaaDoor
open Go.RowKit
theorem note_back : ∀ n : Fin 128, parseNoteL (nmL (n.val % 12) ++ Lib.itoa ((n.val : Int) / 12 - 1)) = ((n.val : Int), 0) := by decide +kernel
/-- What both Notes return. -/
theorem note_both (n : Int) : ∃ (q : ByteArray) (k : Int),
    (∀ w, Tabs w → Calls Tryd.prog 14 #[.int .i64 n] w fun e w' => e = .returned (.tuple #[.string q, .int .i64 k]) ∧ Below w.heap.size w w') ∧
    (∀ w, Calls Tryd.prog 15 #[.int .i64 n] w fun e w' => e = .returned (.tuple #[.string q, .int .i64 k]) ∧ Below w.heap.size w w') ∧
    (k = 7 ∨ k = 0 ∧ parseNoteL (L q) = (n, 0)) := by
  by_cases h : n < 0 ∨ 127 < n
  · refine ⟨⟨#[]⟩, 7, fun w _ => (note_no n w h).mono ?_, fun w => (rnote_no n w h).mono ?_, .inl rfl⟩
    all_goals
      rintro e w' ⟨rfl, rfl⟩
      exact ⟨rfl, Below.refl _ _⟩
  · refine ⟨_, 0, fun w t => note_any n w t (by omega) (by omega), fun w => rnote_any n w (by omega) (by omega), .inr ⟨rfl, ?_⟩⟩
    have := note_back ⟨n.toNat, by omega⟩
    dsimp only at this
    rw [show ((n.toNat : Nat) : Int) = n by omega, show n.toNat % 12 = (n % 12).toNat by omega] at this
    exact this
set_option maxHeartbeats 1600000 in
theorem wordsNotes_walk (n : Int) (s : ByteArray) (w : World) (t : Tabs w) :
    Calls Tryd.prog 3 #[.int .i64 n, .string s] w fun e w' => e = .returned (.bool true) ∧ Below w.heap.size w w' := by
  by_cases hl : 20000 < s.size
  · go_enter Tryd.func3, Tryd.ntmps3
    go_wp2_with fail
    refine (shown_any _ t).mono ?_
    rintro e w2 ⟨rfl, hb⟩
    go_wp2_with fail
    go_ret
    exact ⟨rfl, hb⟩
  · obtain ⟨q, k, Q1, Q2, hq⟩ := note_both n
    obtain ⟨c, j, hp⟩ : ∃ c j : Int, parseNoteL (L s) = (c, j) := ⟨_, _, rfl⟩
    have U1 : ∀ w, Tabs w → Calls Tryd.prog 16 #[.string s] w fun e w' => e = .returned (.tuple #[.int .i64 c, .int .i64 j]) ∧ w = w' := by
      intro w t
      have := parseNote_any s w t
      rwa [hp] at this
    have U2 : ∀ w, Calls Tryd.prog 17 #[.string s] w fun e w' => e = .returned (.tuple #[.int .i64 c, .int .i64 j]) ∧ Below w.heap.size w w' := by
      intro w
      have := rparseNote_any s w
      rwa [hp] at this
    have hk : k = 7 ∨ k = 0 ∧ ∀ w, Tabs w → Calls Tryd.prog 16 #[.string q] w fun e w' => e = .returned (.tuple #[.int .i64 n, .int .i64 0]) ∧ w = w' := by
      rcases hq with rfl | ⟨rfl, h1⟩
      · exact .inl rfl
      · refine .inr ⟨rfl, fun w t => ?_⟩
        have := parseNote_any q w t
        rwa [h1] at this
    clear hq hp
    have K1 := Lib.hid Q1
    have K2 := Lib.hid Q2
    have K3 := Lib.hid U1
    have K4 := Lib.hid U2
    clear Q1 Q2 U1 U2
    rcases hk with rfl | ⟨rfl, hk⟩
    all_goals
      go_enter Tryd.func3, Tryd.ntmps3
      go_wp2_with fail
      refine (K1.out _ t).mono ?_
      rintro e w1 ⟨rfl, hb1⟩
      have t1 := t.below hb1
      go_wp2_with fail
      refine (K2.out _).mono ?_
      rintro e w2 ⟨rfl, hb2⟩
      have t2 := t1.below hb2
      have hb3 := hb1.trans (hb2.mono hb1.size)
      go_wp2_with fail
      refine (K3.out _ t2).mono ?_
      rintro e w' ⟨rfl, rfl⟩
      go_wp2_with fail
      refine (K4.out _).mono ?_
      rintro e w3 ⟨rfl, hb4⟩
      have t3 := t2.below hb4
      have hb5 := hb3.trans (hb4.mono hb3.size)
      go_wp2_with fail
    · refine (shown_any _ t3).mono ?_
      rintro e w4 ⟨rfl, hb6⟩
      go_wp2_with fail
      go_ret
      exact ⟨rfl, hb5.trans (hb6.mono hb5.size)⟩
    · refine (hk _ t3).mono ?_
      rintro e w' ⟨rfl, rfl⟩
      go_wp2_with fail
      refine (shown_any _ t3).mono ?_
      rintro e w4 ⟨rfl, hb6⟩
      go_wp2_with fail
      go_ret
      exact ⟨rfl, hb5.trans (hb6.mono hb5.size)⟩
end Go.Proofs.YtoclgcneclbfiaaDoor
