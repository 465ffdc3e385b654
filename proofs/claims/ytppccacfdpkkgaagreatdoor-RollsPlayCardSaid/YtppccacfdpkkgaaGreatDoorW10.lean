/-
  WALKS: footages: gcd, valid, Feet of the program.
-/
import Derived.Test.YtppccacfdpkkgaaGreatDoorBase
import Derived.Deep.QuietTactic
import Derived.BigQuiet
import Derived.Deep.RegionHeld3
namespace Go.Proofs.YtppccacfdpkkgaaGreatDoor
open Go.RowKit

set_option maxHeartbeats 400000 in
theorem gcd_any (a b : Nat) (w : World) (ha : a ≤ 1000000) (hb : b ≤ 1000000) :
    Calls Tryz.prog 131 #[.int .i64 a, .int .i64 b] w fun e w' => e = .returned (.int .i64 (Nat.gcd a b)) ∧ Below w.heap.size w w' := by
  go_enter Tryz.func131, Tryz.ntmps131
  go_wp2
  go_loopw [0, 1] (fun x y wr => ∃ p q : Nat, p ≤ 1000000 ∧ q ≤ 1000000 ∧ x = .int .i64 p ∧ y = .int .i64 q ∧ Nat.gcd p q = Nat.gcd a b ∧ Below w.heap.size w wr) (fun _ y _ => (intOf y).toNat)
  case atStart => exact ⟨a, b, ha, hb, rfl, rfl, rfl, Below.refl _ _⟩
  case round =>
    obtain ⟨p, q, hp, hq, rfl, rfl, hg, hB⟩ := hrel
    have HG := Lib.hid hg
    clear hg
    by_cases h0 : q = 0
    · subst h0
      go_wp2
      go_ret
      exact ⟨ret_int (by rw [← HG.out]; simp), hB⟩
    · have hn : ((q : Int) != 0) = true := by rw [bne_iff_ne]; omega
      have hne : ¬ ((q : Int) = 0) := by omega
      have e1 : (p : Int).tmod (q : Int) = ((p % q : Nat) : Int) := by rw [Int.tmod_eq_emod_of_nonneg (by omega)]; simp
      have hlt := Nat.mod_lt p (by omega : q > 0)
      go_wp2_with fail
      go_quiet (fail)
      go_wp2
      go_roundw
      case rel => exact ⟨q, p % q, by omega, by omega, rfl, by first | rfl | go_num, by rw [← HG.out, Nat.gcd_comm p q, Nat.gcd_rec q p, Nat.gcd_comm], below_drewN hB _⟩
      case measure => simp [intOf]; omega
/-- A footage. -/
def ValidF (n d : Int) : Prop := 1 ≤ d ∧ d ≤ 15 ∧ 1 ≤ n ∧ n ≤ 64 * d ∧ Int.gcd n d = 1
instance (n d : Int) : Decidable (ValidF n d) := by unfold ValidF; infer_instance
set_option maxHeartbeats 800000 in
theorem valid_no (n d : Int) (w : World) (h : d < 1 ∨ (1 ≤ d ∧ 15 < d) ∨ (1 ≤ d ∧ d ≤ 15 ∧ n < 1) ∨ (1 ≤ d ∧ d ≤ 15 ∧ 1 ≤ n ∧ 64 * d < n)) :
    Calls Tryz.prog 127 #[.agg #[.int .i64 n, .int .i64 d]] w fun e w' => e = .returned (.bool false) ∧ Below w.heap.size w w' := by
  rcases h with h | ⟨h1, h⟩ | ⟨h1, h2, h⟩ | ⟨h1, h2, h3, h⟩
  all_goals
    go_enter Tryz.func127, Tryz.ntmps127
    go_wp2
    go_ret
    exact ⟨rfl, (Below.refl _ _).alloc (Nat.le_refl _) _⟩
set_option maxHeartbeats 800000 in
theorem valid_gcd (n d : Nat) (w : World) (h1 : 1 ≤ d) (h2 : d ≤ 15) (h3 : 1 ≤ n) (h4 : n ≤ 64 * d) :
    Calls Tryz.prog 127 #[.agg #[.int .i64 n, .int .i64 d]] w fun e w' => e = .returned (.bool ((Nat.gcd n d : Int) == 1)) ∧ Below w.heap.size w w' := by
  have g1 : (1 : Int) ≤ (d : Int) := by omega
  have g2 : (d : Int) ≤ (15 : Int) := by omega
  have g3 : (1 : Int) ≤ (n : Int) := by omega
  have g4 : (n : Int) ≤ 64 * (d : Int) := by omega
  have m1 : n ≤ 1000000 := by omega
  have m2 : d ≤ 1000000 := by omega
  go_enter Tryz.func127, Tryz.ntmps127
  go_wp2_with (go_at_call 131; refine (gcd_any n d _ m1 m2).mono ?_; rintro e w' ⟨rfl, hb⟩)
  go_ret
  exact ⟨rfl, ((Below.refl _ _).alloc (Nat.le_refl _) _).trans (hb.mono (by simp))⟩
theorem valid_any (n d : Int) (w : World) :
    Calls Tryz.prog 127 #[.agg #[.int .i64 n, .int .i64 d]] w fun e w' => e = .returned (.bool (decide (ValidF n d))) ∧ Below w.heap.size w w' := by
  by_cases h : 1 ≤ d ∧ d ≤ 15 ∧ 1 ≤ n ∧ n ≤ 64 * d
  · obtain ⟨h1, h2, h3, h4⟩ := h
    obtain ⟨a, rfl⟩ := Int.eq_ofNat_of_zero_le (show 0 ≤ n by omega)
    obtain ⟨b, rfl⟩ := Int.eq_ofNat_of_zero_le (show 0 ≤ d by omega)
    refine (valid_gcd a b w (by omega) (by omega) (by omega) (by omega)).mono ?_
    rintro e w' ⟨rfl, hb⟩
    refine ⟨ret_bool ?_, hb⟩
    have hg : Int.gcd (a : Int) (b : Int) = Nat.gcd a b := rfl
    rw [Bool.eq_iff_iff, decide_eq_true_eq, beq_iff_eq, ValidF, hg]
    omega
  · refine (valid_no n d w (by omega)).mono ?_
    rintro e w' ⟨rfl, hb⟩
    exact ⟨ret_bool (by rw [eq_comm, decide_eq_false_iff_not]; rintro ⟨a, b, c, e, _⟩; exact h ⟨a, b, c, e⟩), hb⟩
theorem itoa_s (n : Int) (s : ByteArray) (hs : L s = Lib.itoa n) (w : World) (h1 : -9223372036854775808 ≤ n) (h2 : n ≤ 9223372036854775807) (t : Tabs w) :
    Calls Tryz.prog 128 #[.int .i64 n] w fun e w' => e = .returned (.string s) ∧ Below w.heap.size w w' :=
  (itoa_any n w h1 h2 t).mono fun _ _ ⟨he, hb⟩ => ⟨by rw [he, mk_of_L hs], hb⟩
/-- What a region with calls keeps: a cell, and that nothing old has turned. -/
theorem held_step {w W w' : World} {a : Addr} {v : Value} (hh : W.cell? a = some v ∧ Below w.heap.size w W) (hb : Below W.heap.size W w') : w'.cell? a = some v ∧ Below w.heap.size w w' :=
  ⟨(hb.cell (cell_size hh.1)).trans hh.1, hh.2.trans (hb.mono hh.2.size)⟩
theorem held_tabs {w W : World} {a : Addr} {v : Value} (t : Tabs w) (hh : W.cell? a = some v ∧ Below w.heap.size w W) : Tabs W := t.below hh.2
/-- The text of a footage. -/
def partL (r d : Nat) : List UInt8 := Lib.itoa r ++ 47 :: Lib.itoa d
def feetQ (q r d : Nat) : List UInt8 := if d = 1 then Lib.itoa q else if q = 0 then partL r d else Lib.itoa q ++ 43 :: partL r d
def feetL (n d : Nat) : List UInt8 := feetQ (n / d) (n % d) d
set_option maxHeartbeats 400000 in
theorem feet_no (n d : Int) (w : World) (h : ¬ ValidF n d) :
    Calls Tryz.prog 114 #[.agg #[.int .i64 n, .int .i64 d]] w fun e w' => e = .returned (.tuple #[.string ⟨#[]⟩, .int .i64 2]) ∧ Below w.heap.size w w' := by
  have hv := Lib.hid (fun w => valid_any n d w)
  have hd : decide (ValidF n d) = false := decide_eq_false h
  clear h
  go_enter Tryz.func114, Tryz.ntmps114
  go_wp2_with (go_at_call 127; refine (hv.out _).mono ?_; rw [hd]; rintro e w' ⟨rfl, hb⟩)
  go_ret2
  exact ⟨rfl, ((Below.refl _ _).alloc (Nat.le_refl _) _).trans (hb.mono (by simp))⟩
set_option maxHeartbeats 1600000 in
theorem feet_yes (n d : Nat) (f : ByteArray) (hf : L f = feetL n d) (w : World) (t : Tabs w) (h : ValidF n d) :
    Calls Tryz.prog 114 #[.agg #[.int .i64 n, .int .i64 d]] w fun e w' => e = .returned (.tuple #[.string f, .int .i64 0]) ∧ Below w.heap.size w w' := by
  have hv := Lib.hid (fun w => valid_any n d w)
  have hd : decide (ValidF n d) = true := decide_eq_true h
  have hd1 : 1 ≤ d := by have := h.1; omega
  have hd2 : d ≤ 15 := by have := h.2.1; omega
  have hn1 : n ≤ 960 := by have := h.2.2.2.1; omega
  clear h
  have hr : n % d ≤ 960 := by have := Nat.mod_lt n (by omega : d > 0); omega
  have hq : n / d ≤ 960 := by have := Nat.div_le_self n d; omega
  have e1 : (n : Int).tdiv (d : Int) = ((n / d : Nat) : Int) := by rw [Int.tdiv_eq_ediv_of_nonneg (by omega)]; simp
  have e2 : (n : Int).tmod (d : Int) = ((n % d : Nat) : Int) := by rw [Int.tmod_eq_emod_of_nonneg (by omega)]; simp
  unfold feetL at hf
  generalize n / d = q at *
  generalize n % d = r at *
  have l1 := itoa_le (r : Int) (by omega) (by omega)
  have l2 := itoa_le (d : Int) (by omega) (by omega)
  have l3 := itoa_le (q : Int) (by omega) (by omega)
  obtain ⟨sr, hsr⟩ := mkL (Lib.itoa (r : Int))
  obtain ⟨sd, hsd⟩ := mkL (Lib.itoa (d : Int))
  obtain ⟨sq, hsq⟩ := mkL (Lib.itoa (q : Int))
  have z1 : sr.size ≤ 21 := by rw [size_of_L hsr]; exact l1
  have z2 : sd.size ≤ 21 := by rw [size_of_L hsd]; exact l2
  have z3 : sq.size ≤ 21 := by rw [size_of_L hsq]; exact l3
  have hne : ¬ ((d : Int) = 0) := by omega
  have HF := Lib.hid hf
  clear hf
  have cR := Lib.hid (fun w t => itoa_s r sr hsr w (by omega) (by omega) t)
  have cD := Lib.hid (fun w t => itoa_s d sd hsd w (by omega) (by omega) t)
  have cQ := Lib.hid (fun w t => itoa_s q sq hsq w (by omega) (by omega) t)
  have HR := Lib.hid hsr
  have HD := Lib.hid hsd
  have HQ := Lib.hid hsq
  clear hsr hsd hsq l1 l2 l3
  have p1 : ¬ 9223372036854775807 < sr.size + 1 := by omega
  have p2 : ¬ 9223372036854775807 < sr.size + 1 + sd.size := by omega
  go_enter Tryz.func114, Tryz.ntmps114
  go_wp2_with (go_at_call 127; refine (hv.out _).mono ?_; rw [hd]; rintro e w1 ⟨rfl, hb⟩)
  have hbW : Below w.heap.size w w1 := ((Below.refl _ w).alloc (Nat.le_refl _) _).trans (hb.mono (by simp))
  have c0 : w1.cell? ⟨w.heap.size, 0, none⟩ = some (.int .i64 n) := (hb.cell (by simp)).trans (by simp)
  have c1 : w1.cell? ⟨w.heap.size, 1, none⟩ = some (.int .i64 d) := (hb.cell (by simp)).trans (by simp)
  have hz := hb.size
  simp only [World.size_alloc] at hz
  have tw1 := t.below hbW
  clear hb
  go_quiet (fail)
  have hb2 := below_drewN hbW nq
  have c2 : (w1.drewN nq).cell? ⟨w.heap.size, 1, none⟩ = some (.int .i64 d) := c1
  generalize w1.drewN nq = w2 at hb2 c2
  have hz2 := hb2.size
  clear c0 c1 hz tw1 hbW
  go_wp2_with fail
  go_region_held3 (fun w' => w'.cell? ⟨w.heap.size, 1, none⟩ = some (.int .i64 d) ∧ Below w.heap.size w w') (first | exact ⟨c2, hb2.drew⟩ | assumption)
    (first | (go_at_call_of 128 (Value.int IntKind.i64 (r : Int)); refine (cR.out _ (by exact held_tabs (a := ⟨w.heap.size, 1, none⟩) (v := .int .i64 d) t (by assumption))).mono ?_; rintro e w' ⟨rfl, hbb⟩; have hn := held_step (w := w) (a := ⟨w.heap.size, 1, none⟩) (v := .int .i64 d) (by assumption) hbb; clear hbb) | (go_at_call_of 128 (Value.int IntKind.i64 (d : Int)); refine (cD.out _ (by exact held_tabs (a := ⟨w.heap.size, 1, none⟩) (v := .int .i64 d) t (by assumption))).mono ?_; rintro e w' ⟨rfl, hbb⟩; have hn := held_step (w := w) (a := ⟨w.heap.size, 1, none⟩) (v := .int .i64 d) (by assumption) hbb; clear hbb))
  obtain ⟨c3, hb3⟩ := hn
  have tw3 := t.below hb3
  have hz3 := hb3.size
  obtain ⟨sp, hsp⟩ : ∃ sp, sr ++ ⟨#[47]⟩ ++ sd = sp := ⟨_, rfl⟩
  rw [hsp]
  have hP : L sp = partL r d := by rw [← hsp, L_append, L_append, HR.out, HD.out]; simp [partL, L]
  have z4 : sp.size ≤ 43 := by rw [size_of_L hP, partL, List.length_append, List.length_cons, ← HR.out, ← HD.out, L_length, L_length]; omega
  have HP := Lib.hid hP
  have p3 : ¬ 9223372036854775807 < sq.size + 1 := by omega
  have p4 : ¬ 9223372036854775807 < sq.size + 1 + sp.size := by omega
  clear hsp hP p1 p2 z1 z2 cR cD hb2 c2 hz2
  by_cases hd1' : d = 1
  · have b1 : ((d : Int) == 1) = true := by rw [beq_iff_eq]; omega
    have H1 := Lib.hid hd1'
    clear hd1'
    go_wp2_with (go_at_call 128; refine (cQ.out _ tw3).mono ?_; rintro e w4 ⟨rfl, hb4⟩)
    go_ret2
    exact ⟨ret_tup (eq_of_L (by rw [HF.out, feetQ, if_pos H1.out, HQ.out])) rfl, hb3.trans (hb4.mono hz3)⟩
  · have b1 : ((d : Int) == 1) = false := by rw [beq_eq_false_iff_ne]; omega
    have H1 := Lib.hid hd1'
    clear hd1'
    by_cases hq0 : q = 0
    · have b2 : ((q : Int) == 0) = true := by rw [beq_iff_eq]; omega
      have H2 := Lib.hid hq0
      clear hq0
      go_wp2
      go_ret2
      exact ⟨ret_tup (eq_of_L (by rw [HF.out, feetQ, if_neg H1.out, if_pos H2.out, HP.out])) rfl, hb3⟩
    · have b2 : ((q : Int) == 0) = false := by rw [beq_eq_false_iff_ne]; omega
      have H2 := Lib.hid hq0
      clear hq0
      go_wp2_with (go_at_call 128; refine (cQ.out _ tw3).mono ?_; rintro e w4 ⟨rfl, hb4⟩)
      go_ret2
      exact ⟨ret_tup (eq_of_L (by rw [HF.out, feetQ, if_neg H1.out, if_neg H2.out, L_append, L_append, HQ.out, HP.out]; simp [L])) rfl, hb3.trans (hb4.mono hz3)⟩
end Go.Proofs.YtppccacfdpkkgaaGreatDoor
