/-
  WALKS: ParseNote of the program.
-/
import Derived.Test.YtoclgcneclbfiaaDoorPlainN
import Derived.Test.YtoclgcneclbfiaaDoorW4
namespace Go.Proofs.YtoclgcneclbfiaaDoor
open Go.RowKit

theorem cut_yes (s p q : ByteArray) (h : L s = L p ++ L q) (w : World) : Calls Tryd.prog 44 #[.string s, .string p] w fun e w' => e = .returned (.tuple #[.string q, .bool true]) ∧ w = w' := by
  refine (Tryd.strings_CutPrefix s p w).mono ?_
  rintro e w' ⟨rfl, rfl⟩
  have hp : Lib.hasPrefix s.data.toList p.data.toList = true := by
    show (L p).isPrefixOf (L s) = true
    rw [h]; exact List.isPrefixOf_iff_prefix.2 (List.prefix_append _ _)
  refine ⟨?_, rfl⟩
  unfold Lib.trimPrefix
  rw [hp, if_pos rfl]
  refine ret_tup (eq_of_L ?_) rfl
  show (L s).drop (L p).length = L q
  rw [h, List.drop_left]
theorem cut_no (s p : ByteArray) (h : (L p).isPrefixOf (L s) = false) (w : World) : Calls Tryd.prog 44 #[.string s, .string p] w fun e w' => e = .returned (.tuple #[.string s, .bool false]) ∧ w = w' := by
  refine (Tryd.strings_CutPrefix s p w).mono ?_
  rintro e w' ⟨rfl, rfl⟩
  have hp : Lib.hasPrefix s.data.toList p.data.toList = false := h
  refine ⟨?_, rfl⟩
  unfold Lib.trimPrefix
  rw [hp]
  rfl
set_option maxHeartbeats 3200000 in
theorem parse_sharp (s r : ByteArray) (w : World) (t : Tabs w) (hs : 1 ≤ s.size) (h1 : 97 ≤ (s[0].toNat : Int)) (h2 : (s[0].toNat : Int) ≤ 103) (hr : L (s.extract 1 s.size) = 35 :: L r) :
    Calls Tryd.prog 16 #[.string s] w fun e w' => e = .returned (pairV (noteOct (st (s[0].toNat - 97) + 1) (L r))) ∧ w = w' := by
  have hst := t.steps (s[0].toNat - 97) (by omega)
  have hsb := st_le (s[0].toNat - 97)
  have C1 := Lib.hid (fun w => cut_yes (s.extract 1 s.size) ⟨#[35]⟩ r hr w)
  clear hr
  have he : s.toList.isEmpty = false := List.isEmpty_eq_false_iff.2 (fun e => by rw [toList_nil] at e; omega)
  have hty : s.toList = L s := Lib.toList_data s
  clear hty
  by_cases hm : r.toList = [45, 49]
  · have hN := Lib.hid (noteOct_minus (st (s[0].toNat - 97) + 1) (show L r = [45, 49] by rw [← hm, Lib.toList_data]; rfl))
    have hmb : (r.toList == [45, 49]) = true := by rw [hm]; rfl
    clear hm
    go_enter Tryd.func16, Tryd.ntmps16
    go_wp2_with (first | (go_at_call 44; refine (C1.out _).mono ?_; rintro e w' ⟨rfl, rfl⟩))
    all_goals (go_ret2; refine ⟨?_, rfl⟩; rw [hN.out]; first | (rw [noteFin_ok (by omega) (by omega)]; rfl) | (rw [noteFin_bad (by omega)]; rfl))
  · have hmb : (r.toList == [45, 49]) = false := by rw [beq_eq_false_iff_ne]; exact hm
    by_cases h3 : r.size = 1
    · have hz2 : 0 < r.size := by omega
      cases hd : digB ((r[0]'hz2).toNat : Int)
      · have hN := Lib.hid (noteOct_bad1 (st (s[0].toNat - 97) + 1) (d := r[0]'hz2) (one_byte h3) hd)
        have hz : ((r.size : Int) == 1) = true := by rw [h3]; rfl
        clear hm h3
        go_enter Tryd.func16, Tryd.ntmps16
        go_wp2_with (first | (go_at_call 44; refine (C1.out _).mono ?_; rintro e w' ⟨rfl, rfl⟩) | (go_at_call 45; refine (digit_any _ _).mono ?_; rintro e w' ⟨rfl, rfl⟩))
        all_goals (go_ret2; refine ⟨?_, rfl⟩; rw [hN.out]; rfl)
      · have hN := Lib.hid (noteOct_digit (st (s[0].toNat - 97) + 1) (d := r[0]'hz2) (one_byte h3) hd)
        have hz : ((r.size : Int) == 1) = true := by rw [h3]; rfl
        have hdd : 48 ≤ ((r[0]'hz2).toNat : Int) ∧ ((r[0]'hz2).toNat : Int) ≤ 57 := by simpa [digB] using hd
        obtain ⟨d1, d2⟩ := hdd
        clear hm h3
        go_enter Tryd.func16, Tryd.ntmps16
        go_wp2_with (first | (go_at_call 44; refine (C1.out _).mono ?_; rintro e w' ⟨rfl, rfl⟩) | (go_at_call 45; refine (digit_any _ _).mono ?_; rintro e w' ⟨rfl, rfl⟩))
        all_goals (go_ret2; refine ⟨?_, rfl⟩; rw [hN.out]; first | (rw [noteFin_ok (by omega) (by omega)]; rfl) | (rw [noteFin_bad (by omega)]; rfl))
    · have hN := Lib.hid (noteOct_bad (st (s[0].toNat - 97) + 1) (r := L r) (fun e => hm (by rw [Lib.toList_data]; exact e)) (by rw [L_length]; exact h3))
      have hz : ((r.size : Int) == 1) = false := by rw [beq_eq_false_iff_ne]; omega
      clear hm h3
      go_enter Tryd.func16, Tryd.ntmps16
      go_wp2_with (first | (go_at_call 44; refine (C1.out _).mono ?_; rintro e w' ⟨rfl, rfl⟩))
      all_goals (go_ret2; refine ⟨?_, rfl⟩; rw [hN.out]; rfl)
set_option maxHeartbeats 3200000 in
theorem parse_flat (s r : ByteArray) (w : World) (t : Tabs w) (hs : 1 ≤ s.size) (h1 : 97 ≤ (s[0].toNat : Int)) (h2 : (s[0].toNat : Int) ≤ 103) (hr : L (s.extract 1 s.size) = 98 :: L r) :
    Calls Tryd.prog 16 #[.string s] w fun e w' => e = .returned (pairV (noteOct (st (s[0].toNat - 97) - 1) (L r))) ∧ w = w' := by
  have hst := t.steps (s[0].toNat - 97) (by omega)
  have hsb := st_le (s[0].toNat - 97)
  have C0 := Lib.hid (fun w => cut_no (s.extract 1 s.size) ⟨#[35]⟩ (by rw [hr]; rfl) w)
  have C1 := Lib.hid (fun w => cut_yes (s.extract 1 s.size) ⟨#[98]⟩ r hr w)
  clear hr
  have he : s.toList.isEmpty = false := List.isEmpty_eq_false_iff.2 (fun e => by rw [toList_nil] at e; omega)
  have hty : s.toList = L s := Lib.toList_data s
  clear hty
  by_cases hm : r.toList = [45, 49]
  · have hN := Lib.hid (noteOct_minus (st (s[0].toNat - 97) - 1) (show L r = [45, 49] by rw [← hm, Lib.toList_data]; rfl))
    have hmb : (r.toList == [45, 49]) = true := by rw [hm]; rfl
    clear hm
    go_enter Tryd.func16, Tryd.ntmps16
    go_wp2_with (first | (go_at_call_of 44 (Value.string { data := #[35] }); refine (C0.out _).mono ?_; rintro e w' ⟨rfl, rfl⟩) | (go_at_call_of 44 (Value.string { data := #[98] }); refine (C1.out _).mono ?_; rintro e w' ⟨rfl, rfl⟩))
    all_goals (go_ret2; refine ⟨?_, rfl⟩; rw [hN.out]; first | (rw [noteFin_ok (by omega) (by omega)]; rfl) | (rw [noteFin_bad (by omega)]; rfl))
  · have hmb : (r.toList == [45, 49]) = false := by rw [beq_eq_false_iff_ne]; exact hm
    by_cases h3 : r.size = 1
    · have hz2 : 0 < r.size := by omega
      cases hd : digB ((r[0]'hz2).toNat : Int)
      · have hN := Lib.hid (noteOct_bad1 (st (s[0].toNat - 97) - 1) (d := r[0]'hz2) (one_byte h3) hd)
        have hz : ((r.size : Int) == 1) = true := by rw [h3]; rfl
        clear hm h3
        go_enter Tryd.func16, Tryd.ntmps16
        go_wp2_with (first | (go_at_call_of 44 (Value.string { data := #[35] }); refine (C0.out _).mono ?_; rintro e w' ⟨rfl, rfl⟩) | (go_at_call_of 44 (Value.string { data := #[98] }); refine (C1.out _).mono ?_; rintro e w' ⟨rfl, rfl⟩) | (go_at_call 45; refine (digit_any _ _).mono ?_; rintro e w' ⟨rfl, rfl⟩))
        all_goals (go_ret2; refine ⟨?_, rfl⟩; rw [hN.out]; rfl)
      · have hN := Lib.hid (noteOct_digit (st (s[0].toNat - 97) - 1) (d := r[0]'hz2) (one_byte h3) hd)
        have hz : ((r.size : Int) == 1) = true := by rw [h3]; rfl
        have hdd : 48 ≤ ((r[0]'hz2).toNat : Int) ∧ ((r[0]'hz2).toNat : Int) ≤ 57 := by simpa [digB] using hd
        obtain ⟨d1, d2⟩ := hdd
        clear hm h3
        go_enter Tryd.func16, Tryd.ntmps16
        go_wp2_with (first | (go_at_call_of 44 (Value.string { data := #[35] }); refine (C0.out _).mono ?_; rintro e w' ⟨rfl, rfl⟩) | (go_at_call_of 44 (Value.string { data := #[98] }); refine (C1.out _).mono ?_; rintro e w' ⟨rfl, rfl⟩) | (go_at_call 45; refine (digit_any _ _).mono ?_; rintro e w' ⟨rfl, rfl⟩))
        all_goals (go_ret2; refine ⟨?_, rfl⟩; rw [hN.out]; first | (rw [noteFin_ok (by omega) (by omega)]; rfl) | (rw [noteFin_bad (by omega)]; rfl))
    · have hN := Lib.hid (noteOct_bad (st (s[0].toNat - 97) - 1) (r := L r) (fun e => hm (by rw [Lib.toList_data]; exact e)) (by rw [L_length]; exact h3))
      have hz : ((r.size : Int) == 1) = false := by rw [beq_eq_false_iff_ne]; omega
      clear hm h3
      go_enter Tryd.func16, Tryd.ntmps16
      go_wp2_with (first | (go_at_call_of 44 (Value.string { data := #[35] }); refine (C0.out _).mono ?_; rintro e w' ⟨rfl, rfl⟩) | (go_at_call_of 44 (Value.string { data := #[98] }); refine (C1.out _).mono ?_; rintro e w' ⟨rfl, rfl⟩))
      all_goals (go_ret2; refine ⟨?_, rfl⟩; rw [hN.out]; rfl)
set_option maxHeartbeats 3200000 in
theorem parse_plain (s r : ByteArray) (w : World) (t : Tabs w) (hs : 1 ≤ s.size) (h1 : 97 ≤ (s[0].toNat : Int)) (h2 : (s[0].toNat : Int) ≤ 103) (hr : s.extract 1 s.size = r) (hr1 : [35].isPrefixOf (L r) = false) (hr2 : [98].isPrefixOf (L r) = false) :
    Calls Tryd.prog 16 #[.string s] w fun e w' => e = .returned (pairV (noteOct (st (s[0].toNat - 97)) (L r))) ∧ w = w' := by
  have hst := t.steps (s[0].toNat - 97) (by omega)
  have hsb := st_le (s[0].toNat - 97)
  have C0 := Lib.hid (fun w => cut_no r ⟨#[35]⟩ hr1 w)
  have C1 := Lib.hid (fun w => cut_no r ⟨#[98]⟩ hr2 w)
  clear hr1 hr2
  have he : s.toList.isEmpty = false := List.isEmpty_eq_false_iff.2 (fun e => by rw [toList_nil] at e; omega)
  have hty : s.toList = L s := Lib.toList_data s
  clear hty
  by_cases hm : r.toList = [45, 49]
  · have hN := Lib.hid (noteOct_minus (st (s[0].toNat - 97)) (show L r = [45, 49] by rw [← hm, Lib.toList_data]; rfl))
    have hmb : (r.toList == [45, 49]) = true := by rw [hm]; rfl
    clear hm
    go_enter Tryd.func16, Tryd.ntmps16
    go_wp2_with (first | (go_at_call_of 44 (Value.string { data := #[35] }); refine (C0.out _).mono ?_; rintro e w' ⟨rfl, rfl⟩) | (go_at_call_of 44 (Value.string { data := #[98] }); refine (C1.out _).mono ?_; rintro e w' ⟨rfl, rfl⟩))
    all_goals (go_ret2; refine ⟨?_, rfl⟩; rw [hN.out]; first | (rw [noteFin_ok (by omega) (by omega)]; rfl) | (rw [noteFin_bad (by omega)]; rfl))
  · have hmb : (r.toList == [45, 49]) = false := by rw [beq_eq_false_iff_ne]; exact hm
    by_cases h3 : r.size = 1
    · have hz2 : 0 < r.size := by omega
      cases hd : digB ((r[0]'hz2).toNat : Int)
      · have hN := Lib.hid (noteOct_bad1 (st (s[0].toNat - 97)) (d := r[0]'hz2) (one_byte h3) hd)
        have hz : ((r.size : Int) == 1) = true := by rw [h3]; rfl
        clear hm h3
        go_enter Tryd.func16, Tryd.ntmps16
        go_wp2_with (first | (go_at_call_of 44 (Value.string { data := #[35] }); refine (C0.out _).mono ?_; rintro e w' ⟨rfl, rfl⟩) | (go_at_call_of 44 (Value.string { data := #[98] }); refine (C1.out _).mono ?_; rintro e w' ⟨rfl, rfl⟩) | (go_at_call 45; refine (digit_any _ _).mono ?_; rintro e w' ⟨rfl, rfl⟩))
        all_goals (go_ret2; refine ⟨?_, rfl⟩; rw [hN.out]; rfl)
      · have hN := Lib.hid (noteOct_digit (st (s[0].toNat - 97)) (d := r[0]'hz2) (one_byte h3) hd)
        have hz : ((r.size : Int) == 1) = true := by rw [h3]; rfl
        have hdd : 48 ≤ ((r[0]'hz2).toNat : Int) ∧ ((r[0]'hz2).toNat : Int) ≤ 57 := by simpa [digB] using hd
        obtain ⟨d1, d2⟩ := hdd
        clear hm h3
        go_enter Tryd.func16, Tryd.ntmps16
        go_wp2_with (first | (go_at_call_of 44 (Value.string { data := #[35] }); refine (C0.out _).mono ?_; rintro e w' ⟨rfl, rfl⟩) | (go_at_call_of 44 (Value.string { data := #[98] }); refine (C1.out _).mono ?_; rintro e w' ⟨rfl, rfl⟩) | (go_at_call 45; refine (digit_any _ _).mono ?_; rintro e w' ⟨rfl, rfl⟩))
        all_goals (go_ret2; refine ⟨?_, rfl⟩; rw [hN.out]; first | (rw [noteFin_ok (by omega) (by omega)]; rfl) | (rw [noteFin_bad (by omega)]; rfl))
    · have hN := Lib.hid (noteOct_bad (st (s[0].toNat - 97)) (r := L r) (fun e => hm (by rw [Lib.toList_data]; exact e)) (by rw [L_length]; exact h3))
      have hz : ((r.size : Int) == 1) = false := by rw [beq_eq_false_iff_ne]; omega
      clear hm h3
      go_enter Tryd.func16, Tryd.ntmps16
      go_wp2_with (first | (go_at_call_of 44 (Value.string { data := #[35] }); refine (C0.out _).mono ?_; rintro e w' ⟨rfl, rfl⟩) | (go_at_call_of 44 (Value.string { data := #[98] }); refine (C1.out _).mono ?_; rintro e w' ⟨rfl, rfl⟩))
      all_goals (go_ret2; refine ⟨?_, rfl⟩; rw [hN.out]; rfl)
set_option maxHeartbeats 800000 in
theorem parseNote_any (s : ByteArray) (w : World) (t : Tabs w) :
    Calls Tryd.prog 16 #[.string s] w fun e w' => e = .returned (pairV (parseNoteL (L s))) ∧ w = w' := by
  by_cases hs : s.size = 0
  · have hN : parseNoteL (L s) = (0, 6) := by rw [List.length_eq_zero_iff.1 ((L_length s).trans hs)]; rfl
    rw [hN]
    have he : s.toList.isEmpty = true := by rw [(toList_nil s).2 hs]; rfl
    clear hN hs
    go_enter Tryd.func16, Tryd.ntmps16
    go_wp2_with fail
    go_ret2
    exact ⟨rfl, rfl⟩
  · have hs1 : 1 ≤ s.size := by omega
    have he : s.toList.isEmpty = false := List.isEmpty_eq_false_iff.2 (fun e => by rw [toList_nil] at e; omega)
    have hL := first_rest hs1
    by_cases hb : (s[0].toNat : Int) < 97 ∨ (103 : Int) < (s[0].toNat : Int)
    · have hN : parseNoteL (L s) = (0, 6) := by rw [hL]; unfold parseNoteL; dsimp only; rw [if_pos hb]
      rw [hN]
      clear hN hL
      rcases hb with hb | hb
      · go_enter Tryd.func16, Tryd.ntmps16
        go_wp2_with fail
        go_ret2
        exact ⟨rfl, rfl⟩
      · have hb2 : ¬ (s[0].toNat : Int) < 97 := by omega
        go_enter Tryd.func16, Tryd.ntmps16
        go_wp2_with fail
        go_ret2
        exact ⟨rfl, rfl⟩
    · have hN : parseNoteL (L s) = noteSign (st (s[0].toNat - 97)) (L (s.extract 1 s.size)) := by rw [hL]; unfold parseNoteL; dsimp only; rw [if_neg hb]
      rw [hN]
      have h1 : 97 ≤ (s[0].toNat : Int) := by omega
      have h2 : (s[0].toNat : Int) ≤ 103 := by omega
      cases hr : L (s.extract 1 s.size) with
      | nil =>
        rw [show noteSign (st (s[0].toNat - 97)) [] = noteOct (st (s[0].toNat - 97)) [] from rfl, ← hr]
        exact parse_plain s (s.extract 1 s.size) w t hs1 h1 h2 rfl (by rw [hr]; rfl) (by rw [hr]; rfl)
      | cons a l =>
        obtain ⟨q, hq⟩ := mkL l
        by_cases ha : a = 35
        · subst ha
          rw [← hq] at hr ⊢
          exact parse_sharp s q w t hs1 h1 h2 hr
        · by_cases hb2 : a = 98
          · subst hb2
            rw [← hq] at hr ⊢
            exact parse_flat s q w t hs1 h1 h2 hr
          · have hx : noteSign (st (s[0].toNat - 97)) (a :: l) = noteOct (st (s[0].toNat - 97)) (a :: l) := by
              unfold noteSign
              split
              · next e => exact absurd (List.cons.inj e).1 ha
              · next e => exact absurd (List.cons.inj e).1 hb2
              · rfl
            rw [hx, ← hr]
            exact parse_plain s (s.extract 1 s.size) w t hs1 h1 h2 rfl (by rw [hr]; simp [List.isPrefixOf]; exact fun e => ha e.symm) (by rw [hr]; simp [List.isPrefixOf]; exact fun e => hb2 e.symm)
end Go.Proofs.YtoclgcneclbfiaaDoor
