/-
  WALKS: bytes, names and texts: digit, letter, printed, Text, Name of the program.
-/
import Derived.Test.YtppccacfdpkkgaaGreatDoorRows
import Derived.Test.YtppccacfdpkkgaaGreatDoorPlain
import Derived.WalkKit
import Derived.WalkSpells
import Derived.WalkLawsBesides
import Derived.Lib.Hide
namespace Go.Proofs.YtppccacfdpkkgaaGreatDoor
open Go.RowKit

set_option maxHeartbeats 400000 in
theorem digit_any (c : Int) (w : World) :
    Calls Tryz.prog 116 #[.int .u8 c] w fun e w' => e = .returned (.bool (digB c)) ∧ w = w' := by
  go_enter Tryz.func116, Tryz.ntmps116
  go_wp2
  all_goals go_ret
  all_goals (refine ⟨ret_bool ?_, rfl⟩; simp [digB, *]; try omega)
set_option maxHeartbeats 400000 in
theorem letter_any (c : Int) (w : World) (h0 : 0 ≤ c) (h1 : c < 256) :
    Calls Tryz.prog 115 #[.int .u8 c] w fun e w' => e = .returned (.bool (letB c)) ∧ w = w' := by
  go_enter Tryz.func115, Tryz.ntmps115
  go_wp2
  all_goals go_ret
  all_goals (rw [← or32 c h0 h1]; refine ⟨ret_bool ?_, rfl⟩; simp [*]; try omega)
set_option maxRecDepth 100000 in
set_option maxHeartbeats 800000 in
theorem name_any (s : ByteArray) (w : World) (hs : s.size ≤ maxLen) :
    Calls Tryz.prog 95 #[.string s] w fun e w' => e = .returned (.bool (nameB (L s))) ∧ w = w' := by
  unfold maxLen at hs
  go_enter Tryz.func95, Tryz.ntmps95
  go_wp2
  go_loop [3, 4, 7] (fun _ _ i => ∃ k : Nat, k ≤ s.size ∧ i = .int .i64 k ∧ nameTo s k) (fun _ _ i => s.size - (intOf i).toNat)
  case atStart => exact ⟨0, Nat.zero_le _, rfl, nameTo_zero s⟩
  case round =>
    obtain ⟨k, hk, rfl, hto⟩ := hrel
    by_cases hlt : k < s.size
    · have hc0 : (0 : Int) ≤ (s[k].toNat : Int) := by omega
      have hc1 := byte_lt s[k]
      go_wp2_with (first | (go_at_call 115; refine (letter_any _ _ hc0 hc1).mono ?_; rintro e w' ⟨rfl, rfl⟩) | (go_at_call 116; refine (digit_any _ _).mono ?_; rintro e w' ⟨rfl, rfl⟩))
      all_goals first
        | (go_ret; exact ⟨ret_bool (by rw [name_bad hlt (by simp [wrdU, wrdB, *] <;> simp_all)]), rfl⟩)
        | (go_round
           case rel => exact ⟨k + 1, by omega, by go_num, nameTo_succ hto hlt (by simp [wrdU, wrdB, *] <;> simp_all) (by simp [*])⟩
           case measure => simp [intOf]; omega)
        | skip
    · have he := Lib.hid (name_end hto (by omega))
      go_wp2
      all_goals (go_ret; exact ⟨ret_bool (by rw [he.out, Bool.eq_iff_iff]; simp <;> omega), rfl⟩)
end Go.Proofs.YtppccacfdpkkgaaGreatDoor
