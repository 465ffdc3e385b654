/-
  WALKS: the method right of a field.
-/
import Derived.Test.YtoclgcneclbfiaaDoorTabs
import Derived.Test.YtoclgcneclbfiaaDoorW1
import Derived.Test.YtoclgcneclbfiaaDoorPlainS
namespace Go.Proofs.YtoclgcneclbfiaaDoor
open Go.RowKit

set_option maxHeartbeats 400000 in
theorem right_any (q : Bool) (s : ByteArray) (w : World) (hs : s.size ≤ maxLen) :
    Calls Tryd.prog 53 #[.agg #[.bool q, .string s]] w fun e w' => e = .returned (.bool (rightB q (L s))) ∧ Below w.heap.size w w' := by
  cases q
  · rw [show rightB false (L s) = bareB (L s) from rfl, bareB_eq, L_length]
    go_enter Tryd.func53, Tryd.ntmps53
    go_wp2_with (first | (go_at_call 50; refine (printed_any _ _ _ hs).mono ?_; rintro e w' ⟨rfl, rfl⟩) | (go_at_call 73; refine (Tryd.strings_Contains_one _ 34 _).mono ?_; rintro e w' ⟨rfl, rfl⟩))
    · have h0 : s.toList = [] := by assumption
      rw [toList_nil] at h0
      go_ret
      exact ⟨ret_bool (by simp [h0]), (Below.refl _ _).alloc (Nat.le_refl _) _⟩
    · have h0 : ¬ s.toList = [] := by assumption
      have h1 : (s.size : Int) ≤ 200 := by assumption
      have h2 : printedB 33 (L s) = true := by assumption
      have h3 : s.toList.isEmpty = false := List.isEmpty_eq_false_iff.2 h0
      rw [toList_nil] at h0
      go_ret
      exact ⟨ret_bool (by rw [h2, decide_eq_true (by omega : 1 ≤ s.size), decide_eq_true (by omega : s.size ≤ 200)]; simp [L, h3]; rfl), (Below.refl _ _).alloc (Nat.le_refl _) _⟩
    · have h2 : ¬ printedB 33 (L s) = true := by assumption
      go_ret
      exact ⟨ret_bool (by rw [Bool.eq_false_iff.2 h2]; simp), (Below.refl _ _).alloc (Nat.le_refl _) _⟩
    · have h1 : 200 < (s.size : Int) := by assumption
      go_ret
      exact ⟨ret_bool (by rw [decide_eq_false (by omega : ¬ s.size ≤ 200)]; simp), (Below.refl _ _).alloc (Nat.le_refl _) _⟩
  · go_enter Tryd.func53, Tryd.ntmps53
    go_wp2_with (first | (go_at_call 24; refine (text_any _ _ hs).mono ?_; rintro e w' ⟨rfl, rfl⟩))
    go_ret
    exact ⟨rfl, (Below.refl _ _).alloc (Nat.le_refl _) _⟩
end Go.Proofs.YtoclgcneclbfiaaDoor
