/-
  CONTRACTS: the reference's common, Valid, Feet.
-/
import Derived.Test.YtoclgcneclbfiaaDoorW10
import Derived.Test.YtoclgcneclbfiaaDoorW15
namespace Go.Proofs.YtoclgcneclbfiaaDoor
open Go.RowKit
theorem not_common {a b k : Nat} (hb : 0 < b) (hk : b < k) (h : ∀ j, 2 ≤ j → j < k → ¬ (a % j = 0 ∧ b % j = 0)) : Nat.gcd a b = 1 := by
  have hg : 0 < Nat.gcd a b := Nat.gcd_pos_of_pos_right _ hb
  have hle : Nat.gcd a b ≤ b := Nat.le_of_dvd hb (Nat.gcd_dvd_right a b)
  by_cases h2 : 2 ≤ Nat.gcd a b
  · exact absurd ⟨Nat.mod_eq_zero_of_dvd (Nat.gcd_dvd_left a b), Nat.mod_eq_zero_of_dvd (Nat.gcd_dvd_right a b)⟩ (h _ h2 (by omega))
  · omega
theorem is_common {a b k : Nat} (hk : 2 ≤ k) (h1 : a % k = 0) (h2 : b % k = 0) : Nat.gcd a b ≠ 1 := by
  intro e
  have := Nat.dvd_gcd (Nat.dvd_of_mod_eq_zero h1) (Nat.dvd_of_mod_eq_zero h2)
  rw [e] at this
  have := Nat.le_of_dvd (by omega) this
  omega
set_option maxHeartbeats 1600000 in
theorem common_any (a b : Nat) (w : World) (hb : b ≤ 1000000) (hb0 : 0 < b) :
    Calls Tryd.prog 86 #[.int .i64 a, .int .i64 b] w fun e w' => e = .returned (.bool (!((Nat.gcd a b : Int) == 1))) ∧ Below w.heap.size w w' := by
  go_enter Tryd.func86, Tryd.ntmps86
  go_wp2
  go_loopw [5] (fun i wr => ∃ k : Nat, 2 ≤ k ∧ k ≤ b + 2 ∧ i = .int .i64 k ∧ RowKit.Hid (∀ j, 2 ≤ j → j < k → ¬ (a % j = 0 ∧ b % j = 0)) ∧ Below w.heap.size w wr) (fun i _ => b + 2 - (intOf i).toNat)
  case atStart => exact ⟨2, Nat.le_refl _, by omega, rfl, Lib.hid (fun j h1 h2 => absurd h2 (by omega)), Below.refl _ _⟩
  case round =>
    obtain ⟨k, hk2, hk, rfl, hn, hB⟩ := hrel
    by_cases hlt : k ≤ b
    · have hk1 : (1 : Int) ≤ (k : Int) := by omega
      have hk0 : ¬ (k : Int) = 0 := by omega
      have e1 : (a : Int).tmod (k : Int) = ((a % k : Nat) : Int) := rfl
      have e2 : (b : Int).tmod (k : Int) = ((b % k : Nat) : Int) := rfl
      by_cases hc : a % k = 0 ∧ b % k = 0
      · have HN := Lib.hid (is_common hk2 hc.1 hc.2)
        rw [hc.1] at e1
        rw [hc.2] at e2
        clear hc
        go_wp2
        all_goals go_ret
        all_goals (refine ⟨ret_bool ?_, by first | exact hB | exact below_drewN hB _⟩; have := HN.out; rw [eq_comm, Bool.not_eq_true', beq_eq_false_iff_ne]; omega)
      · have HN : RowKit.Hid (∀ j, 2 ≤ j → j < k + 1 → ¬ (a % j = 0 ∧ b % j = 0)) := fun j h1 h2 => by
          by_cases e : j = k
          · subst e; exact hc
          · exact hn.out j h1 (by omega)
        have hc2 : ¬ ((a % k : Nat) : Int) = 0 ∨ ((a % k : Nat) : Int) = 0 ∧ ¬ ((b % k : Nat) : Int) = 0 := by omega
        clear hc
        generalize a % k = r1 at e1 hc2
        generalize b % k = r2 at e2 hc2
        rcases hc2 with hc2 | ⟨hc1, hc2⟩
        all_goals
          go_wp2
          go_roundw
          case rel => exact ⟨k + 1, by omega, by omega, by go_num, HN, by first | exact hB | exact below_drewN hB _⟩
          case measure => simp [intOf]; omega
    · have HN := Lib.hid (not_common hb0 (by omega) hn.out)
      go_wp2
      go_ret
      exact ⟨ret_bool (by rw [HN.out]; rfl), hB⟩
set_option maxHeartbeats 800000 in
theorem rvalid_no (n d : Int) (w : World) (h : d < 1 ∨ (1 ≤ d ∧ 15 < d) ∨ (1 ≤ d ∧ d ≤ 15 ∧ n < 1) ∨ (1 ≤ d ∧ d ≤ 15 ∧ 1 ≤ n ∧ 64 * d < n)) :
    Calls Tryd.prog 64 #[.agg #[.int .i64 n, .int .i64 d]] w fun e w' => e = .returned (.bool false) ∧ Below w.heap.size w w' := by
  rcases h with h | ⟨h1, h⟩ | ⟨h1, h2, h⟩ | ⟨h1, h2, h3, h⟩
  all_goals
    go_enter Tryd.func64, Tryd.ntmps64
    go_wp2
    go_ret
    exact ⟨rfl, (Below.refl _ _).alloc (Nat.le_refl _) _⟩
set_option maxHeartbeats 800000 in
theorem rvalid_gcd (n d : Nat) (w : World) (h1 : 1 ≤ d) (h2 : d ≤ 15) (h3 : 1 ≤ n) (h4 : n ≤ 64 * d) :
    Calls Tryd.prog 64 #[.agg #[.int .i64 n, .int .i64 d]] w fun e w' => e = .returned (.bool ((Nat.gcd n d : Int) == 1)) ∧ Below w.heap.size w w' := by
  have g1 : (1 : Int) ≤ (d : Int) := by omega
  have g2 : (d : Int) ≤ (15 : Int) := by omega
  have g3 : (1 : Int) ≤ (n : Int) := by omega
  have g4 : (n : Int) ≤ 64 * (d : Int) := by omega
  have hd0 : 0 < d := by omega
  have m2 : d ≤ 1000000 := by omega
  go_enter Tryd.func64, Tryd.ntmps64
  go_wp2_with (go_at_call 86; refine (common_any n d _ m2 hd0).mono ?_; rintro e w' ⟨rfl, hb⟩)
  go_ret
  exact ⟨by simp, ((Below.refl _ _).alloc (Nat.le_refl _) _).trans (hb.mono (by simp))⟩
theorem rvalid_any (n d : Int) (w : World) :
    Calls Tryd.prog 64 #[.agg #[.int .i64 n, .int .i64 d]] w fun e w' => e = .returned (.bool (decide (ValidF n d))) ∧ Below w.heap.size w w' := by
  by_cases h : 1 ≤ d ∧ d ≤ 15 ∧ 1 ≤ n ∧ n ≤ 64 * d
  · obtain ⟨h1, h2, h3, h4⟩ := h
    obtain ⟨a, rfl⟩ := Int.eq_ofNat_of_zero_le (show 0 ≤ n by omega)
    obtain ⟨b, rfl⟩ := Int.eq_ofNat_of_zero_le (show 0 ≤ d by omega)
    refine (rvalid_gcd a b w (by omega) (by omega) (by omega) (by omega)).mono ?_
    rintro e w' ⟨rfl, hb⟩
    refine ⟨ret_bool ?_, hb⟩
    have hg : Int.gcd (a : Int) (b : Int) = Nat.gcd a b := rfl
    rw [Bool.eq_iff_iff, decide_eq_true_eq, beq_iff_eq, ValidF, hg]
    omega
  · refine (rvalid_no n d w (by omega)).mono ?_
    rintro e w' ⟨rfl, hb⟩
    exact ⟨ret_bool (by rw [eq_comm, decide_eq_false_iff_not]; rintro ⟨a, b, c, e, _⟩; exact h ⟨a, b, c, e⟩), hb⟩
theorem held_step2 {w W w' : World} {a b : Addr} {u v : Value} (hh : W.cell? a = some u ∧ W.cell? b = some v ∧ Below w.heap.size w W) (hb : Below W.heap.size W w') : w'.cell? a = some u ∧ w'.cell? b = some v ∧ Below w.heap.size w w' :=
  ⟨(hb.cell (cell_size hh.1)).trans hh.1, (hb.cell (cell_size hh.2.1)).trans hh.2.1, hh.2.2.trans (hb.mono hh.2.2.size)⟩
set_option maxHeartbeats 400000 in
theorem rfeet_no (n d : Int) (w : World) (h : ¬ ValidF n d) :
    Calls Tryd.prog 39 #[.agg #[.int .i64 n, .int .i64 d]] w fun e w' => e = .returned (.tuple #[.string ⟨#[]⟩, .int .i64 2]) ∧ Below w.heap.size w w' := by
  have hv := Lib.hid (fun w => rvalid_any n d w)
  have hd : decide (ValidF n d) = false := decide_eq_false h
  clear h
  go_enter Tryd.func39, Tryd.ntmps39
  go_wp2_with (go_at_call 64; refine (hv.out _).mono ?_; rw [hd]; rintro e w' ⟨rfl, hb⟩)
  go_ret2
  exact ⟨rfl, ((Below.refl _ _).alloc (Nat.le_refl _) _).trans (hb.mono (by simp))⟩
set_option maxHeartbeats 1600000 in
theorem rfeet_one (n : Nat) (f : ByteArray) (hf : L f = feetL n 1) (w : World) (h : ValidF n 1) :
    Calls Tryd.prog 39 #[.agg #[.int .i64 n, .int .i64 1]] w fun e w' => e = .returned (.tuple #[.string f, .int .i64 0]) ∧ Below w.heap.size w w' := by
  have hv := Lib.hid (fun w => rvalid_any n 1 w)
  have hd : decide (ValidF n 1) = true := decide_eq_true h
  have hn1 : n ≤ 960 := by have := h.2.2.2.1; omega
  have hf2 : L f = Lib.itoa (n : Int) := by rw [hf, feetL, feetQ, if_pos rfl, Nat.div_one]
  have cN := Lib.hid (fun w => rdigits_as f hf2 w (by omega) (by omega))
  clear h hf hf2
  go_enter Tryd.func39, Tryd.ntmps39
  go_wp2_with fail
  refine (hv.out _).mono ?_
  rw [hd]
  rintro e w1 ⟨rfl, hb⟩
  have hbW : Below w.heap.size w w1 := ((Below.refl _ w).alloc (Nat.le_refl _) _).trans (hb.mono (by simp))
  have c0 : w1.cell? ⟨w.heap.size, 0, none⟩ = some (.int .i64 n) := (hb.cell (by simp)).trans (by simp)
  have c1 : w1.cell? ⟨w.heap.size, 1, none⟩ = some (.int .i64 1) := (hb.cell (by simp)).trans (by simp)
  clear hb
  go_wp2_with (go_at_call 37; refine (cN.out _).mono ?_; rintro e w2 ⟨rfl, hb2⟩)
  go_ret2
  exact ⟨rfl, below_step hbW hb2⟩
theorem valid_ne {n d : Nat} (h : ValidF n d) (hd : ¬ d = 1) : n ≠ d := by
  rintro rfl
  have h5 : Int.gcd (n : Int) (n : Int) = 1 := h.2.2.2.2
  have e : Int.gcd (n : Int) (n : Int) = n := Nat.gcd_self n
  omega
set_option maxHeartbeats 3200000 in
theorem rfeet_part (n d : Nat) (f : ByteArray) (hf : L f = feetL n d) (w : World) (h : ValidF n d) (hd0 : ¬ d = 1) :
    Calls Tryd.prog 39 #[.agg #[.int .i64 n, .int .i64 d]] w fun e w' => e = .returned (.tuple #[.string f, .int .i64 0]) ∧ Below w.heap.size w w' := by
  have hv := Lib.hid (fun w => rvalid_any n d w)
  have hd : decide (ValidF n d) = true := decide_eq_true h
  have hnd := valid_ne h hd0
  have hd1 : 1 ≤ d := by have := h.1; omega
  have hd2 : d ≤ 15 := by have := h.2.1; omega
  have hn1 : n ≤ 960 := by have := h.2.2.2.1; omega
  clear h
  have hr : n % d ≤ 960 := by have := Nat.mod_lt n (by omega : d > 0); omega
  have hq : n / d ≤ 960 := by have := Nat.div_le_self n d; omega
  have hq0 : (n / d = 0) ↔ n < d := by rw [Nat.div_eq_zero_iff]; omega
  have e1 : (n : Int).tdiv (d : Int) = ((n / d : Nat) : Int) := by rw [Int.tdiv_eq_ediv_of_nonneg (by omega)]; simp
  have e2 : (n : Int).tmod (d : Int) = ((n % d : Nat) : Int) := by rw [Int.tmod_eq_emod_of_nonneg (by omega)]; simp
  unfold feetL at hf
  generalize n / d = q at *
  generalize n % d = r at *
  have l1 := itoa_le (r : Int) (by omega) (by omega)
  have l2 := itoa_le (d : Int) (by omega) (by omega)
  have l3 := itoa_le (q : Int) (by omega) (by omega)
  obtain ⟨sr, hsr⟩ := mkL (Lib.itoa (r : Int))
  obtain ⟨sd, hsd⟩ := mkL (Lib.itoa (d : Int))
  obtain ⟨sq, hsq⟩ := mkL (Lib.itoa (q : Int))
  have z1 : sr.size ≤ 21 := by rw [size_of_L hsr]; exact l1
  have z2 : sd.size ≤ 21 := by rw [size_of_L hsd]; exact l2
  have z3 : sq.size ≤ 21 := by rw [size_of_L hsq]; exact l3
  have hne : ¬ ((d : Int) = 0) := by omega
  have hne2 : ¬ d = 0 := by omega
  have b1 : ((d : Int) == 1) = false := by rw [beq_eq_false_iff_ne]; omega
  have HF := Lib.hid hf
  clear hf
  have cR := Lib.hid (fun w => rdigits_as sr hsr w (by omega) (by omega))
  have cD := Lib.hid (fun w => rdigits_as sd hsd w (by omega) (by omega))
  have cQ := Lib.hid (fun w => rdigits_as sq hsq w (by omega) (by omega))
  have HR := Lib.hid hsr
  have HD := Lib.hid hsd
  have HQ := Lib.hid hsq
  clear hsr hsd hsq l1 l2 l3
  have p1 : ¬ 9223372036854775807 < sr.size + 1 := by omega
  have p2 : ¬ 9223372036854775807 < sr.size + 1 + sd.size := by omega
  go_enter Tryd.func39, Tryd.ntmps39
  go_wp2_with fail
  refine (hv.out _).mono ?_
  rw [hd]
  rintro e w1 ⟨rfl, hb⟩
  have hbW : Below w.heap.size w w1 := ((Below.refl _ w).alloc (Nat.le_refl _) _).trans (hb.mono (by simp))
  have c0 : w1.cell? ⟨w.heap.size, 0, none⟩ = some (.int .i64 n) := (hb.cell (by simp)).trans (by simp)
  have c1 : w1.cell? ⟨w.heap.size, 1, none⟩ = some (.int .i64 d) := (hb.cell (by simp)).trans (by simp)
  clear hb
  go_wp2_with fail
  go_region_held3 (fun w' => w'.cell? ⟨w.heap.size, 0, none⟩ = some (.int .i64 n) ∧ w'.cell? ⟨w.heap.size, 1, none⟩ = some (.int .i64 d) ∧ Below w.heap.size w w') (first | exact ⟨c0, c1, hbW.drew⟩ | assumption) (first | (go_at_call_of 37 (Value.int IntKind.i64 (r : Int)); refine (cR.out _).mono ?_; rintro e w' ⟨rfl, hbb⟩; have hn := held_step2 (w := w) (a := ⟨w.heap.size, 0, none⟩) (u := .int .i64 n) (b := ⟨w.heap.size, 1, none⟩) (v := .int .i64 d) (by assumption) hbb; clear hbb) | (go_at_call_of 37 (Value.int IntKind.i64 (d : Int)); refine (cD.out _).mono ?_; rintro e w' ⟨rfl, hbb⟩; have hn := held_step2 (w := w) (a := ⟨w.heap.size, 0, none⟩) (u := .int .i64 n) (b := ⟨w.heap.size, 1, none⟩) (v := .int .i64 d) (by assumption) hbb; clear hbb))
  obtain ⟨c3, c4, hb3⟩ := hn
  obtain ⟨sp, hsp⟩ : ∃ sp, sr ++ ⟨#[47]⟩ ++ sd = sp := ⟨_, rfl⟩
  rw [hsp]
  have hP : L sp = partL r d := by rw [← hsp, L_append, L_append, HR.out, HD.out]; simp [partL, L]
  have z4 : sp.size ≤ 43 := by rw [size_of_L hP, partL, List.length_append, List.length_cons, ← HR.out, ← HD.out, L_length, L_length]; omega
  have HP := Lib.hid hP
  have p3 : ¬ 9223372036854775807 < sq.size + 1 := by omega
  have p4 : ¬ 9223372036854775807 < sq.size + 1 + sp.size := by omega
  have hb4 := hb3
  clear hsp hP p1 p2 z1 z2 cR cD c0 c1 hbW hb3
  by_cases hq1 : q = 0
  · have b2 : (n : Int) < (d : Int) := by have := hq0.1 hq1; omega
    have H2 := Lib.hid hq1
    have H1 := Lib.hid hd0
    clear hq1 hq0 hd0
    go_wp2
    go_ret2
    exact ⟨ret_tup (eq_of_L (by rw [HF.out, feetQ, if_neg H1.out, if_pos H2.out, HP.out])) rfl, hb4⟩
  · have b2 : (d : Int) < (n : Int) := by have : ¬ n < d := fun e => hq1 (hq0.2 e); omega
    have H2 := Lib.hid hq1
    have H1 := Lib.hid hd0
    clear hq1 hq0 hd0
    go_wp2_with (go_at_call 37; refine (cQ.out _).mono ?_; rintro e w4 ⟨rfl, hb5⟩)
    go_ret2
    exact ⟨ret_tup (eq_of_L (by rw [HF.out, feetQ, if_neg H1.out, if_neg H2.out, L_append, L_append, HQ.out, HP.out]; simp [L])) rfl, below_step hb4 hb5⟩
theorem rfeet_yes (n d : Nat) (f : ByteArray) (hf : L f = feetL n d) (w : World) (h : ValidF n d) :
    Calls Tryd.prog 39 #[.agg #[.int .i64 n, .int .i64 d]] w fun e w' => e = .returned (.tuple #[.string f, .int .i64 0]) ∧ Below w.heap.size w w' := by
  by_cases h1 : d = 1
  · subst h1
    exact rfeet_one n f hf w h
  · exact rfeet_part n d f hf w h h1
end Go.Proofs.YtoclgcneclbfiaaDoor
