/-
  WALKS: Digits of the reference.
-/
import Derived.Test.YtoclgcneclbfiaaDoorTabs
import Derived.Test.YtoclgcneclbfiaaDoorW1
import Derived.Deep.RegionHeld3
import Derived.Deep.DeepCutAuto
namespace Go.Proofs.YtoclgcneclbfiaaDoor
open Go.RowKit

theorem itoa_neg (n : Int) (h : n < 0) : Lib.itoa n = 45 :: Lib.itoa (-n) := by
  unfold Lib.itoa
  rw [if_pos h, if_neg (by omega)]
  congr 2; omega
theorem itoa_small (n : Int) (h0 : 0 ≤ n) (h1 : n < 10) : Lib.itoa n = [UInt8.ofNat (48 + n.toNat)] := by
  unfold Lib.itoa
  rw [if_neg (by omega), Lib.decDigits_one (by omega)]
theorem itoa_big (n : Int) (h : 10 ≤ n) : Lib.itoa n = Lib.itoa (n / 10) ++ Lib.itoa (n % 10) := by
  unfold Lib.itoa
  rw [if_neg (by omega), if_neg (by omega), if_neg (by omega), Lib.decDigits, dif_neg (by omega), Lib.decDigits_one (show (n % 10).toNat < 10 by omega)]
  have e1 : (n / 10).toNat = n.toNat / 10 := by omega
  have e2 : (n % 10).toNat = n.toNat % 10 := by omega
  rw [e1, e2]
theorem itoa_big_neg (n : Int) (h : n ≤ -10) : Lib.itoa n = Lib.itoa (n.tdiv 10) ++ Lib.itoa (-(n.tmod 10)) := by
  have e1 : n.tdiv 10 = -((-n) / 10) := by rw [← Int.tdiv_eq_ediv_of_nonneg (by omega : 0 ≤ -n), Int.neg_tdiv]; omega
  have e2 : n.tmod 10 = -((-n) % 10) := by rw [← Int.tmod_eq_emod_of_nonneg (by omega : 0 ≤ -n), Int.neg_tmod]; omega
  rw [itoa_neg n (by omega), itoa_big (-n) (by omega), e1, e2, itoa_neg (-(-n / 10)) (by omega)]
  simp

theorem run_byte_string (w : World) (x : Int) : (convert 31 9 (.slice (some ⟨w.heap.size, 0, none⟩) 1 1)).run Tryd.prog (w.alloc (.cells #[.int .u8 x] 5)) = .ok (.string ⟨#[UInt8.ofNat x.toNat]⟩) (w.alloc (.cells #[.int .u8 x] 5)) := by
  rw [run_convert_bytes_string _ 31 9 5 _ 1 1 Tryd.underlying31 Tryd.underlying5 Tryd.underlying9]
  rw [run_bytesToString _ _ 1 1 [x]]
  · simp; rfl
  · simp [go_sem, loadCells]
set_option maxRecDepth 100000 in
set_option maxHeartbeats 400000 in
theorem rdigits_small (n : Int) (w : World) (h0 : 0 ≤ n) (h1 : n < 10) :
    Calls Tryd.prog 37 #[.int .i64 n] w fun e w' => e = .returned (.string ⟨(Lib.itoa n).toArray⟩) ∧ Below w.heap.size w w' := by
  have hi := Lib.hid (itoa_small n h0 h1)
  have n1 : ¬ n < 0 := by omega
  have hcv := run_byte_string w (48 + n)
  have ht : (48 + n).toNat = 48 + n.toNat := by omega
  have HT := Lib.hid ht
  clear ht
  go_enter Tryd.func37, Tryd.ntmps37
  go_wp2_with fail
  go_ret
  exact ⟨ret_string (by rw [HT.out, hi.out]), (Below.refl _ _).alloc (Nat.le_refl _) _⟩
theorem rdigits_aux (k : Nat) : ∀ (n : Int) (w : World), n.natAbs < k → -9223372036854775808 ≤ n → n ≤ 9223372036854775807 →
    Calls Tryd.prog 37 #[.int .i64 n] w fun e w' => e = .returned (.string ⟨(Lib.itoa n).toArray⟩) ∧ Below w.heap.size w w' := by
  induction k with
  | zero => intro n w h; omega
  | succ k ih =>
    intro n w hk h0 h1
    by_cases c1 : 0 ≤ n ∧ n < 10
    · exact rdigits_small n w c1.1 c1.2
    have IH := Lib.hid ih
    clear ih
    by_cases c2 : -10 < n ∧ n < 0
    · have hi := Lib.hid (itoa_neg n c2.2)
      have hl := itoa_le (-n) (by omega) (by omega)
      obtain ⟨c3, c4⟩ := c2
      go_enter Tryd.func37, Tryd.ntmps37
      go_wp2_with (go_at_call 37; refine (rdigits_small (-n) _ (by omega) (by omega)).mono ?_; rintro e w' ⟨rfl, hb⟩)
      go_ret
      exact ⟨ret_string (by rw [hi.out]; exact ByteArray.mk_append_mk [45] _), hb⟩
    by_cases c5 : n < 0
    · have hi := Lib.hid (itoa_big_neg n (by omega))
      have c6 : n ≤ -10 := by omega
      have e1 : n.tdiv 10 = -((-n) / 10) := by rw [← Int.tdiv_eq_ediv_of_nonneg (by omega : 0 ≤ -n), Int.neg_tdiv]; omega
      have e2 : n.tmod 10 = -((-n) % 10) := by rw [← Int.tmod_eq_emod_of_nonneg (by omega : 0 ≤ -n), Int.neg_tmod]; omega
      have b1 : -9223372036854775808 ≤ n.tdiv 10 := by omega
      have b2 : n.tdiv 10 ≤ 9223372036854775807 := by omega
      have b3 : (n.tdiv 10).natAbs < k := by omega
      have b4 : 0 ≤ -(n.tmod 10) := by omega
      have b5 : -(n.tmod 10) < 10 := by omega
      have hl := itoa_le (n.tdiv 10) b1 b2
      have hl := itoa_le (-(n.tmod 10)) (by omega) (by omega)
      clear e1 e2
      go_enter Tryd.func37, Tryd.ntmps37
      go_wp2_with fail
      refine (IH.out _ _ b3 b1 b2).mono ?_
      rintro e w1 ⟨rfl, hb1⟩
      go_wp2_with fail
      refine (rdigits_small _ _ b4 b5).mono ?_
      rintro e w2 ⟨rfl, hb2⟩
      go_wp2_with fail
      go_ret
      exact ⟨ret_string (by rw [hi.out]; exact ByteArray.mk_append_mk _ _), hb1.trans (hb2.mono hb1.size)⟩
    · have c6 : 10 ≤ n := by omega
      have hi := Lib.hid (itoa_big n c6)
      have n1 : ¬ n < 0 := by omega
      have b1 : -9223372036854775808 ≤ n / 10 := by omega
      have b2 : n / 10 ≤ 9223372036854775807 := by omega
      have b3 : (n / 10).natAbs < k := by omega
      have b4 : 0 ≤ n % 10 := by omega
      have b5 : n % 10 < 10 := by omega
      have hl1 := itoa_le (n / 10) b1 b2
      have hl2 := itoa_le (n % 10) (by omega) (by omega)
      go_enter Tryd.func37, Tryd.ntmps37
      go_wp2_with fail
      refine (IH.out _ _ b3 b1 b2).mono ?_
      rintro e w1 ⟨rfl, hb1⟩
      go_wp2_with fail
      refine (rdigits_small _ _ b4 b5).mono ?_
      rintro e w2 ⟨rfl, hb2⟩
      go_wp2_with fail
      go_ret
      exact ⟨ret_string (by rw [hi.out]; exact ByteArray.mk_append_mk _ _), hb1.trans (hb2.mono hb1.size)⟩
theorem rdigits_any (n : Int) (w : World) (h0 : -9223372036854775808 ≤ n) (h1 : n ≤ 9223372036854775807) :
    Calls Tryd.prog 37 #[.int .i64 n] w fun e w' => e = .returned (.string ⟨(Lib.itoa n).toArray⟩) ∧ Below w.heap.size w w' :=
  rdigits_aux (n.natAbs + 1) n w (by omega) h0 h1
end Go.Proofs.YtoclgcneclbfiaaDoor
