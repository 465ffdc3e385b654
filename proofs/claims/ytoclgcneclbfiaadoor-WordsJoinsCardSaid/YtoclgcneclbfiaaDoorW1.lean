/-
  WALKS: bytes, names and texts: digit, letter, printed, Text, Name of the program and of the reference.
-/
import Derived.Test.YtoclgcneclbfiaaDoorRows
import Derived.Test.YtoclgcneclbfiaaDoorPlain
import Derived.WalkKit
import Derived.WalkSpells
import Derived.WalkLawsBesides
import Derived.Lib.Hide
namespace Go.Proofs.YtoclgcneclbfiaaDoor
open Go.RowKit

set_option maxHeartbeats 400000 in
theorem digit_any (c : Int) (w : World) :
    Calls Tryd.prog 45 #[.int .u8 c] w fun e w' => e = .returned (.bool (digB c)) ∧ w = w' := by
  go_enter Tryd.func45, Tryd.ntmps45
  go_wp2
  all_goals go_ret
  all_goals (refine ⟨ret_bool ?_, rfl⟩; simp [digB, *]; try omega)
set_option maxHeartbeats 400000 in
theorem rdigit_any (c : Int) (w : World) :
    Calls Tryd.prog 49 #[.int .u8 c] w fun e w' => e = .returned (.bool (digB c)) ∧ w = w' := by
  go_enter Tryd.func49, Tryd.ntmps49
  go_wp2
  all_goals go_ret
  all_goals (refine ⟨ret_bool ?_, rfl⟩; simp [digB, *]; try omega)
set_option maxHeartbeats 400000 in
theorem rletter_any (c : Int) (w : World) :
    Calls Tryd.prog 48 #[.int .u8 c] w fun e w' => e = .returned (.bool (letB c)) ∧ w = w' := by
  go_enter Tryd.func48, Tryd.ntmps48
  go_wp2
  all_goals go_ret
  all_goals (refine ⟨ret_bool ?_, rfl⟩; simp [letB, *]; try omega)
set_option maxHeartbeats 400000 in
theorem letter_any (c : Int) (w : World) (h0 : 0 ≤ c) (h1 : c < 256) :
    Calls Tryd.prog 47 #[.int .u8 c] w fun e w' => e = .returned (.bool (letB c)) ∧ w = w' := by
  go_enter Tryd.func47, Tryd.ntmps47
  go_wp2
  all_goals go_ret
  all_goals (rw [← or32 c h0 h1]; refine ⟨ret_bool ?_, rfl⟩; simp [*]; try omega)
set_option maxHeartbeats 400000 in
theorem printed_any (s : ByteArray) (m : Int) (w : World) (hs : s.size ≤ maxLen) :
    Calls Tryd.prog 50 #[.string s, .int .u8 m] w fun e w' => e = .returned (.bool (printedB m (L s))) ∧ w = w' := by
  unfold maxLen at hs
  go_enter Tryd.func50, Tryd.ntmps50
  go_wp2
  go_loop [8] (fun i => ∃ k : Nat, k ≤ s.size ∧ i = .int .i64 k ∧ ((L s).take k).all (prB m) = true) (fun i => s.size - (intOf i).toNat)
  case atStart => exact ⟨0, Nat.zero_le _, rfl, by simp⟩
  case round =>
    obtain ⟨k, hk, rfl, hall⟩ := hrel
    by_cases hlt : k < s.size
    · have H := Lib.hid (allTo_succ s (prB m) k hlt)
      have H2 := Lib.hid (all_no s (prB m) k hlt)
      have HA := Lib.hid hall
      clear hall
      go_wp2
      all_goals first
        | (go_ret; exact ⟨ret_bool (by unfold printedB; rw [H2.out (by simp [prB]; omega)]), rfl⟩)
        | (go_round
           case rel => exact ⟨k + 1, by omega, by go_num, by rw [H.out, HA.out]; simp [prB]; omega⟩
           case measure => simp [intOf]; omega)
    · go_wp2
      go_ret
      exact ⟨ret_bool (by rw [printedB, ← hall, take_all s k (by omega)]), rfl⟩
set_option maxHeartbeats 400000 in
theorem text_any (s : ByteArray) (w : World) (hs : s.size ≤ maxLen) :
    Calls Tryd.prog 24 #[.string s] w fun e w' => e = .returned (.bool (textB (L s))) ∧ w = w' := by
  have hl := Lib.hid (L_length s)
  go_enter Tryd.func24, Tryd.ntmps24
  go_wp2_with (go_at_call 50; refine (printed_any _ _ _ hs).mono ?_; rintro e w' ⟨rfl, rfl⟩)
  all_goals go_ret
  all_goals (refine ⟨ret_bool ?_, rfl⟩; unfold textB; rw [hl.out]; simp [*]; try omega)
set_option maxHeartbeats 400000 in
theorem rtext_any (s : ByteArray) (w : World) (hs : s.size ≤ maxLen) :
    Calls Tryd.prog 25 #[.string s] w fun e w' => e = .returned (.bool (textB (L s))) ∧ w = w' := by
  unfold maxLen at hs
  go_enter Tryd.func25, Tryd.ntmps25
  go_wp2
  go_loop [3] (fun i => ∃ k : Nat, k ≤ s.size ∧ i = .int .i64 k ∧ ((L s).take k).all (prB 32) = true) (fun i => s.size - (intOf i).toNat)
  case atStart => exact ⟨0, Nat.zero_le _, rfl, by simp⟩
  case round =>
    obtain ⟨k, hk, rfl, hall⟩ := hrel
    by_cases hlt : k < s.size
    · have H := Lib.hid (allTo_succ s (prB 32) k hlt)
      have H2 := Lib.hid (all_no s (prB 32) k hlt)
      have HA := Lib.hid hall
      clear hall
      go_wp2
      all_goals first
        | (go_ret; exact ⟨ret_bool (by unfold textB printedB; rw [H2.out (by simp [prB]; omega)]; simp), rfl⟩)
        | (go_round
           case rel => exact ⟨k + 1, by omega, by go_num, by rw [H.out, HA.out]; simp [prB]; omega⟩
           case measure => simp [intOf]; omega)
    · have HA := Lib.hid hall
      have hl := Lib.hid (L_length s)
      have ht := Lib.hid (take_all s k (by omega))
      clear hall
      go_wp2
      go_ret
      exact ⟨ret_bool (by unfold textB printedB; rw [hl.out, ← ht.out, HA.out]; simp; omega), rfl⟩
set_option maxRecDepth 100000 in
set_option maxHeartbeats 800000 in
theorem name_any (s : ByteArray) (w : World) (hs : s.size ≤ maxLen) :
    Calls Tryd.prog 22 #[.string s] w fun e w' => e = .returned (.bool (nameB (L s))) ∧ w = w' := by
  unfold maxLen at hs
  go_enter Tryd.func22, Tryd.ntmps22
  go_wp2
  go_loop [3, 4, 7] (fun _ _ i => ∃ k : Nat, k ≤ s.size ∧ i = .int .i64 k ∧ nameTo s k) (fun _ _ i => s.size - (intOf i).toNat)
  case atStart => exact ⟨0, Nat.zero_le _, rfl, nameTo_zero s⟩
  case round =>
    obtain ⟨k, hk, rfl, hto⟩ := hrel
    by_cases hlt : k < s.size
    · have hc0 : (0 : Int) ≤ (s[k].toNat : Int) := by omega
      have hc1 := byte_lt s[k]
      go_wp2_with (first | (go_at_call 47; refine (letter_any _ _ hc0 hc1).mono ?_; rintro e w' ⟨rfl, rfl⟩) | (go_at_call 45; refine (digit_any _ _).mono ?_; rintro e w' ⟨rfl, rfl⟩))
      all_goals first
        | (go_ret; exact ⟨ret_bool (by rw [name_bad hlt (by simp [wrdU, wrdB, *] <;> simp_all)]), rfl⟩)
        | (go_round
           case rel => exact ⟨k + 1, by omega, by go_num, nameTo_succ hto hlt (by simp [wrdU, wrdB, *] <;> simp_all) (by simp [*])⟩
           case measure => simp [intOf]; omega)
        | skip
    · have he := Lib.hid (name_end hto (by omega))
      go_wp2
      all_goals (go_ret; exact ⟨ret_bool (by rw [he.out, Bool.eq_iff_iff]; simp <;> omega), rfl⟩)
set_option maxRecDepth 100000 in
set_option maxHeartbeats 800000 in
theorem rname_any (s : ByteArray) (w : World) (hs : s.size ≤ maxLen) :
    Calls Tryd.prog 23 #[.string s] w fun e w' => e = .returned (.bool (nameB (L s))) ∧ w = w' := by
  unfold maxLen at hs
  by_cases h0 : s.size < 1
  · have he := Lib.hid (name_empty h0)
    go_enter Tryd.func23, Tryd.ntmps23
    go_wp2
    go_ret
    exact ⟨ret_bool he.out.symm, rfl⟩
  by_cases h16 : 16 < s.size
  · have he := Lib.hid (name_long h16)
    go_enter Tryd.func23, Tryd.ntmps23
    go_wp2
    go_ret
    exact ⟨ret_bool he.out.symm, rfl⟩
  cases hf : letB (s[0].toNat : Int)
  · have he := Lib.hid (name_bad (s := s) (k := 0) (by omega) (.inr ⟨rfl, hf⟩))
    go_enter Tryd.func23, Tryd.ntmps23
    go_wp2_with (go_at_call 48; refine (rletter_any _ _).mono ?_; rintro e w' ⟨rfl, rfl⟩)
    go_ret
    exact ⟨ret_bool he.out.symm, rfl⟩
  · go_enter Tryd.func23, Tryd.ntmps23
    go_wp2_with (go_at_call 48; refine (rletter_any _ _).mono ?_; rintro e w' ⟨rfl, rfl⟩)
    have hF := Lib.hid hf
    clear hf
    go_loop [3] (fun i => ∃ k : Nat, k ≤ s.size ∧ i = .int .i64 k ∧ nameTo s k) (fun i => s.size - (intOf i).toNat)
    case atStart => exact ⟨0, Nat.zero_le _, rfl, nameTo_zero s⟩
    case round =>
      obtain ⟨k, hk, rfl, hto⟩ := hrel
      by_cases hlt : k < s.size
      · have hz : k = 0 → letB (s[k].toNat : Int) = true := by rintro rfl; exact hF.out
        have HZ := Lib.hid hz
        clear hz
        go_wp2_with (first | (go_at_call 48; refine (rletter_any _ _).mono ?_; rintro e w' ⟨rfl, rfl⟩) | (go_at_call 49; refine (rdigit_any _ _).mono ?_; rintro e w' ⟨rfl, rfl⟩))
        all_goals first
          | (go_ret; exact ⟨ret_bool (by rw [name_bad hlt (by simp [wrdU, wrdB, *] <;> simp_all)]), rfl⟩)
          | (go_round
             case rel => exact ⟨k + 1, by omega, by go_num, nameTo_succ hto hlt (by simp [wrdU, wrdB, *] <;> simp_all) HZ.out⟩
             case measure => simp [intOf]; omega)
      · have he := Lib.hid (name_end hto (by omega))
        go_wp2
        all_goals (go_ret; exact ⟨ret_bool (by rw [he.out, Bool.eq_iff_iff]; simp <;> omega), rfl⟩)
end Go.Proofs.YtoclgcneclbfiaaDoor
