/-
  WALKS: bytes, names: digit, letter, Name of the reference.
-/
import Derived.Test.YtppccacfdpkkgaaGreatDoorW1
namespace Go.Proofs.YtppccacfdpkkgaaGreatDoor
open Go.RowKit
set_option maxHeartbeats 400000 in
theorem rdigit_any (c : Int) (w : World) :
    Calls Tryz.prog 119 #[.int .u8 c] w fun e w' => e = .returned (.bool (digB c)) ∧ w = w' := by
  go_enter Tryz.func119, Tryz.ntmps119
  go_wp2
  all_goals go_ret
  all_goals (refine ⟨ret_bool ?_, rfl⟩; simp [digB, *]; try omega)
set_option maxHeartbeats 400000 in
theorem rletter_any (c : Int) (w : World) :
    Calls Tryz.prog 118 #[.int .u8 c] w fun e w' => e = .returned (.bool (letB c)) ∧ w = w' := by
  go_enter Tryz.func118, Tryz.ntmps118
  go_wp2
  all_goals go_ret
  all_goals (refine ⟨ret_bool ?_, rfl⟩; simp [letB, *]; try omega)
set_option maxRecDepth 100000 in
set_option maxHeartbeats 800000 in
theorem rname_any (s : ByteArray) (w : World) (hs : s.size ≤ maxLen) :
    Calls Tryz.prog 97 #[.string s] w fun e w' => e = .returned (.bool (nameB (L s))) ∧ w = w' := by
  unfold maxLen at hs
  by_cases h0 : s.size < 1
  · have he := Lib.hid (name_empty h0)
    go_enter Tryz.func97, Tryz.ntmps97
    go_wp2
    go_ret
    exact ⟨ret_bool he.out.symm, rfl⟩
  by_cases h16 : 16 < s.size
  · have he := Lib.hid (name_long h16)
    go_enter Tryz.func97, Tryz.ntmps97
    go_wp2
    go_ret
    exact ⟨ret_bool he.out.symm, rfl⟩
  cases hf : letB (s[0].toNat : Int)
  · have he := Lib.hid (name_bad (s := s) (k := 0) (by omega) (.inr ⟨rfl, hf⟩))
    go_enter Tryz.func97, Tryz.ntmps97
    go_wp2_with (go_at_call 118; refine (rletter_any _ _).mono ?_; rintro e w' ⟨rfl, rfl⟩)
    go_ret
    exact ⟨ret_bool he.out.symm, rfl⟩
  · go_enter Tryz.func97, Tryz.ntmps97
    go_wp2_with (go_at_call 118; refine (rletter_any _ _).mono ?_; rintro e w' ⟨rfl, rfl⟩)
    have hF := Lib.hid hf
    clear hf
    go_loop [3] (fun i => ∃ k : Nat, k ≤ s.size ∧ i = .int .i64 k ∧ nameTo s k) (fun i => s.size - (intOf i).toNat)
    case atStart => exact ⟨0, Nat.zero_le _, rfl, nameTo_zero s⟩
    case round =>
      obtain ⟨k, hk, rfl, hto⟩ := hrel
      by_cases hlt : k < s.size
      · have hz : k = 0 → letB (s[k].toNat : Int) = true := by rintro rfl; exact hF.out
        have HZ := Lib.hid hz
        clear hz
        go_wp2_with (first | (go_at_call 118; refine (rletter_any _ _).mono ?_; rintro e w' ⟨rfl, rfl⟩) | (go_at_call 119; refine (rdigit_any _ _).mono ?_; rintro e w' ⟨rfl, rfl⟩))
        all_goals first
          | (go_ret; exact ⟨ret_bool (by rw [name_bad hlt (by simp [wrdU, wrdB, *] <;> simp_all)]), rfl⟩)
          | (go_round
             case rel => exact ⟨k + 1, by omega, by go_num, nameTo_succ hto hlt (by simp [wrdU, wrdB, *] <;> simp_all) HZ.out⟩
             case measure => simp [intOf]; omega)
      · have he := Lib.hid (name_end hto (by omega))
        go_wp2
        all_goals (go_ret; exact ⟨ret_bool (by rw [he.out, Bool.eq_iff_iff]; simp <;> omega), rfl⟩)
end Go.Proofs.YtppccacfdpkkgaaGreatDoor
