/-
  CONTRACT: the reference's Int: it wraps, and compares the digits.
-/
import Derived.Test.YtoclgcneclbfiaaDoorW18
import Derived.Test.YtoclgcneclbfiaaDoorW15
namespace Go.Proofs.YtoclgcneclbfiaaDoor
open Go.RowKit

theorem rwhole_any (s : ByteArray) (w : World) (hs : s.size ≤ 1000000) :
    Calls Tryd.prog 61 #[.string s] w fun e w' => e = .returned (.bool (wholeB (L s))) ∧ w = w' := by
  by_cases h0 : 0 < s.size
  · have hsg := sign_at s h0
    by_cases hc : (s[0].toNat : Int) = 45
    · rw [if_pos hc] at hsg
      have hw : wholeB (L s) = wholeT true ((L s).drop 1) := by unfold wholeB; rw [hsg]
      rw [hw]
      cases hall : ((L s).drop 1).all digU
      · have hb : wholeT true ((L s).drop 1) = false := by unfold wholeT; rw [hall]; rfl
        rw [hb]
        exact rwhole_bad1 s w hs h0 (by rw [beq_iff_eq]; exact hc) hall
      · exact rwhole_good1 s w hs h0 (by rw [beq_iff_eq]; exact hc) hall
    · rw [if_neg hc] at hsg
      have hw : wholeB (L s) = wholeT false ((L s).drop 0) := by unfold wholeB; rw [hsg]; rfl
      rw [hw]
      cases hall : ((L s).drop 0).all digU
      · have hb : wholeT false ((L s).drop 0) = false := by unfold wholeT; rw [hall]; rfl
        rw [hb]
        exact rwhole_bad0 s w hs h0 (by rw [beq_eq_false_iff_ne]; exact hc) hall
      · exact rwhole_good0 s w hs h0 (by rw [beq_eq_false_iff_ne]; exact hc) hall
  · have hl := L_length s
    have e : L s = [] := List.length_eq_zero_iff.1 (by omega)
    rw [e]
    have hz : (s.size : Int) = 0 := by omega
    clear e hl h0
    go_enter Tryd.func61, Tryd.ntmps61
    go_wp2
    go_loop [4] (fun i => i = .int .i64 0) (fun _ => 0)
    case atStart => exact rfl
    case round =>
      subst hrel
      go_wp2
      all_goals (go_ret; exact ⟨rfl, rfl⟩)
theorem dv_step {s : ByteArray} {f k : Nat} (hf : f ≤ k) (hk : k < s.size) : dv 0 (((L s).take (k + 1)).drop f) = 10 * dv 0 (((L s).take k).drop f) + (s[k].toNat - 48) := by
  rw [take_snoc s k hk, List.drop_append_of_le_length, dv_append, dv_cons, dv_nil]
  simp only [List.length_take, L_length]
  omega
theorem long_out {l : List UInt8} (h : wholeB l = true) (hl : 20 < l.length) : valL l < -9223372036854775808 ∨ 9223372036854775807 < valL l := by
  by_cases hr : -9223372036854775808 ≤ valL l ∧ valL l ≤ 9223372036854775807
  · exfalso
    have hb := whole_back h
    have h1 : l.length = (Lib.itoa (valL l)).length := by rw [hb]
    generalize valL l = v at hr h1
    have hp : (10 : Nat) ^ 19 = 10000000000000000000 := by decide
    unfold Lib.itoa at h1
    have hd : ∀ u : Nat, u < 10 ^ 19 → (Lib.decDigits u).length ≤ 19 := by
      intro u hu
      have := Lib.decDigits_eq u
      rw [this, List.length_map, List.length_range]
      rcases Nat.eq_zero_or_pos u with h0 | h0
      · subst h0; rw [Lib.nDigits_small (by decide)]; decide
      · by_cases hh : Lib.nDigits u ≤ 19
        · exact hh
        · exfalso
          have hx : ∀ n, ∀ u : Nat, u < 10 ^ (n + 1) → Lib.nDigits u ≤ n + 1 := by
            intro n
            induction n with
            | zero => intro u hu; rw [Lib.nDigits_small (by omega)]; omega
            | succ n ih =>
              intro u hu
              by_cases h10 : u < 10
              · rw [Lib.nDigits_small h10]; omega
              · rw [Lib.nDigits_big h10]
                have := ih (u / 10) (by rw [Nat.pow_succ] at hu; omega)
                omega
          have := hx 18 u hu
          omega
    by_cases hn : v < 0
    · rw [if_pos hn, List.length_cons] at h1
      have := hd v.natAbs (by rw [hp]; omega)
      omega
    · rw [if_neg hn] at h1
      have := hd v.toNat (by rw [hp]; omega)
      omega
  · omega
theorem wrap_step {n V d : Int} (h : n = wrap64 V) : wrap64 (wrap64 (10 * n) + d) = wrap64 (10 * V + d) := by
  subst h
  unfold wrap64
  omega
theorem wrap_bounds (V : Int) : -9223372036854775808 ≤ wrap64 V ∧ wrap64 V ≤ 9223372036854775807 := by
  unfold wrap64
  omega
theorem rwhole_is (s : ByteArray) {b : Bool} (h : wholeB (L s) = b) (w : World) (hs : s.size ≤ 1000000) :
    Calls Tryd.prog 61 #[.string s] w fun e w' => e = .returned (.bool b) ∧ w = w' := by
  have := rwhole_any s w hs
  rwa [h] at this
theorem itoa_ne {s : ByteArray} {n : Int} (h : valL (L s) ≠ n) : Lib.itoa n ≠ L s := by
  intro e
  apply h
  rw [← e, (itoa_says n).2]
/-- The digits that are printed: those of s, or others. -/
theorem printed_back {s d : ByteArray} {V : Int} (hV : valL (L s) = V) (hw : wholeB (L s) = true) (hd : L d = Lib.itoa (wrap64 V)) :
    (s.size ≤ 1000000 ∧ -9223372036854775808 ≤ V ∧ V ≤ 9223372036854775807 ∧ wrap64 V = V ∧ d = s) ∨ (¬ (-9223372036854775808 ≤ V ∧ V ≤ 9223372036854775807) ∧ (!d.toList == s.toList) = true) ∨ 1000000 < s.size := by
  by_cases hz : 1000000 < s.size
  · exact .inr (.inr hz)
  by_cases hr : -9223372036854775808 ≤ V ∧ V ≤ 9223372036854775807
  · have e : wrap64 V = V := by unfold wrap64; omega
    refine .inl ⟨by omega, hr.1, hr.2, e, eq_of_L ?_⟩
    rw [hd, e, ← hV]
    exact whole_back hw
  · refine .inr (.inl ⟨hr, ?_⟩)
    have hne : valL (L s) ≠ wrap64 V := by
      rw [hV]
      have := wrap_bounds V
      intro e
      rw [← e] at this
      exact hr this
    have h2 := itoa_ne hne
    rw [Lib.toList_data, Lib.toList_data, Bool.not_eq_true', beq_eq_false_iff_ne]
    intro e
    exact h2 (hd.symm.trans e)
theorem sv_step0 {s : ByteArray} {k : Nat} {n : Int} (hf : 0 ≤ k) (hk : k < s.size) (hd : digB (s[k].toNat : Int) = true) (h : n = wrap64 ((dv 0 (((L s).take k).drop 0) : Int))) :
    wrap64 (wrap64 (10 * n) + ((s[k].toNat : Int) - 48)) = wrap64 ((dv 0 (((L s).take (k + 1)).drop 0) : Int)) := by
  rw [wrap_step h, dv_step hf hk]
  have := (digU_iff s[k]).1 hd
  congr 1
  omega
set_option maxRecDepth 100000 in
set_option maxHeartbeats 3200000 in
theorem rint_run0 (s : ByteArray) (lo hi : Int) (w : World) (h20 : s.size ≤ 20) (h0 : 0 < s.size) (hlo : ¬ hi < lo) (l1 : -9223372036854775808 ≤ lo) (l2 : hi ≤ 9223372036854775807)
    (hneg : ((s[0].toNat : Int) == 45) = false) (hw : wholeB (L s) = true) (hV : valL (L s) = ((dv 0 (((L s).take s.size).drop 0) : Int))) (hall : ((L s).drop 0).all digU = true) :
    Calls Tryd.prog 35 #[.string s, .int .i64 lo, .int .i64 hi] w fun e w' => e = .returned (pairI (numR (L s) lo hi)) ∧ Below w.heap.size w w' := by
  have HAD : RowKit.Hid (∀ k (hk : k < s.size), 0 ≤ k → digB (s[k].toNat : Int) = true) := fun k hk hf => by
    cases hd : digB (s[k].toNat : Int)
    · rw [drop_bad hk hf hd] at hall
      cases hall
    · rfl
  have HW := Lib.hid (num_val hlo hw)
  have C1 := Lib.hid (fun W => rwhole_is s hw W (by omega))
  have HWB := Lib.hid hw
  have HV := Lib.hid hV
  clear hall hw hV
  go_enter Tryd.func35, Tryd.ntmps35
  go_wp2_with (go_at_call 61; refine (C1.out _).mono ?_; rintro e w' ⟨rfl, rfl⟩)
  go_loop [8, 9] (fun x i => ∃ (k : Nat) (n : Int), k ≤ s.size ∧ i = .int .i64 k ∧ x = .int .i64 n ∧ -9223372036854775808 ≤ n ∧ n ≤ 9223372036854775807 ∧ RowKit.Hid (n = wrap64 ((dv 0 (((L s).take k).drop 0) : Int)))) (fun _ i => s.size - (intOf i).toNat)
  case atStart => exact ⟨0, 0, Nat.zero_le _, rfl, rfl, by omega, by omega, Lib.hid (by rw [List.take_zero, List.drop_nil, dv_nil]; unfold wrap64; omega)⟩
  case round =>
    obtain ⟨k, n, hk, rfl, rfl, n1, n2, hn⟩ := hrel
    by_cases hlt : k < s.size
    · have hk1 : 0 ≤ k := by omega
      have HD := Lib.hid (HAD.out k hlt hk1)
      have CD := Lib.hid (rdigit_is _ HD.out)
      have hdd := (digU_iff s[k]).1 HD.out
      have hd1 : (48 : Int) ≤ (s[k].toNat : Int) := by omega
      have hd2 : (s[k].toNat : Int) ≤ 57 := by omega
      have HS := Lib.hid (sv_step0 hk1 hlt HD.out hn.out)
      have hb := wrap_bounds ((dv 0 (((L s).take (k + 1)).drop 0) : Int))
      rw [← HS.out] at hb
      clear hdd
      go_wp2_with (go_at_call 49; refine (CD.out _).mono ?_; rintro e w' ⟨rfl, rfl⟩)
      go_round
      case rel => exact ⟨k + 1, _, by omega, by go_num, rfl, hb.1, hb.2, HS⟩
      case measure => simp [intOf]; omega
    · obtain ⟨d, hd⟩ := mkL (Lib.itoa n)
      have hd2 := hd
      have hke : k = s.size := by omega
      rw [hn.out, hke] at hd2
      have hcase := printed_back HV.out HWB.out hd2
      have CG := Lib.hid (fun W => rdigits_as d hd W n1 n2)
      have hV2 := HV.out
      have hn2 := hn.out
      rw [hke] at hn2
      generalize ((dv 0 (((L s).take s.size).drop 0) : Int)) = V at hcase hV2 hn2
      rw [hV2] at HW
      have HN := Lib.hid hn2
      clear hd hd2 hke hV2 hn2
      rcases hcase with ⟨_, v1, v2, v3, rfl⟩ | ⟨v1, v2⟩ | v1
      · rw [v3] at HN
        have hnV := HN.out
        subst hnV
        clear v3
        go_wp2_with (go_at_call 37; refine (CG.out _).mono ?_; rintro e w' ⟨rfl, hb⟩)
        all_goals go_ret2
        all_goals
          refine ⟨?_, hb⟩
          rw [HW.out]
          first
            | (rw [if_pos (by omega)]; rfl)
            | (rw [if_neg (by omega)]; rfl)
      · have HO := Lib.hid v1
        clear v1
        go_wp2_with (go_at_call 37; refine (CG.out _).mono ?_; rintro e w' ⟨rfl, hb⟩)
        all_goals go_ret2
        all_goals
          refine ⟨?_, hb⟩
          have := HO.out
          rw [HW.out, if_pos (by omega)]
          rfl
      · omega
theorem sv_step1 {s : ByteArray} {k : Nat} {n : Int} (hf : 1 ≤ k) (hk : k < s.size) (hd : digB (s[k].toNat : Int) = true) (h : n = wrap64 (-(dv 0 (((L s).take k).drop 1) : Int))) :
    wrap64 (wrap64 (10 * n) + (-((s[k].toNat : Int) - 48))) = wrap64 (-(dv 0 (((L s).take (k + 1)).drop 1) : Int)) := by
  rw [wrap_step h, dv_step hf hk]
  have := (digU_iff s[k]).1 hd
  congr 1
  omega
set_option maxRecDepth 100000 in
set_option maxHeartbeats 3200000 in
theorem rint_run1 (s : ByteArray) (lo hi : Int) (w : World) (h20 : s.size ≤ 20) (h0 : 0 < s.size) (hlo : ¬ hi < lo) (l1 : -9223372036854775808 ≤ lo) (l2 : hi ≤ 9223372036854775807)
    (hneg : ((s[0].toNat : Int) == 45) = true) (hw : wholeB (L s) = true) (hV : valL (L s) = (-(dv 0 (((L s).take s.size).drop 1) : Int))) (hall : ((L s).drop 1).all digU = true) :
    Calls Tryd.prog 35 #[.string s, .int .i64 lo, .int .i64 hi] w fun e w' => e = .returned (pairI (numR (L s) lo hi)) ∧ Below w.heap.size w w' := by
  have HAD : RowKit.Hid (∀ k (hk : k < s.size), 1 ≤ k → digB (s[k].toNat : Int) = true) := fun k hk hf => by
    cases hd : digB (s[k].toNat : Int)
    · rw [drop_bad hk hf hd] at hall
      cases hall
    · rfl
  have HW := Lib.hid (num_val hlo hw)
  have C1 := Lib.hid (fun W => rwhole_is s hw W (by omega))
  have HWB := Lib.hid hw
  have HV := Lib.hid hV
  clear hall hw hV
  go_enter Tryd.func35, Tryd.ntmps35
  go_wp2_with (go_at_call 61; refine (C1.out _).mono ?_; rintro e w' ⟨rfl, rfl⟩)
  go_loop [8, 9] (fun x i => ∃ (k : Nat) (n : Int), k ≤ s.size ∧ i = .int .i64 k ∧ x = .int .i64 n ∧ -9223372036854775808 ≤ n ∧ n ≤ 9223372036854775807 ∧ RowKit.Hid (n = wrap64 (-(dv 0 (((L s).take k).drop 1) : Int)))) (fun _ i => s.size - (intOf i).toNat)
  case atStart => exact ⟨0, 0, Nat.zero_le _, rfl, rfl, by omega, by omega, Lib.hid (by rw [List.take_zero, List.drop_nil, dv_nil]; unfold wrap64; omega)⟩
  case round =>
    obtain ⟨k, n, hk, rfl, rfl, n1, n2, hn⟩ := hrel
    by_cases hlt : k < s.size
    · by_cases hk0 : k = 0
      · subst hk0
        have h45 : (s[0].toNat : Int) = 45 := eq_of_beq hneg
        have CD := Lib.hid (rdigit_is 45 (show digB 45 = false from rfl))
        go_wp2_with (go_at_call 49; refine (CD.out _).mono ?_; rintro e w' ⟨rfl, rfl⟩)
        go_round
        case rel => exact ⟨1, n, by omega, by go_num, rfl, n1, n2, Lib.hid (by rw [hn.out, List.take_zero, List.drop_nil, List.drop_eq_nil_of_le (by rw [List.length_take]; omega)])⟩
        case measure => simp [intOf]; omega
      · have hk1 : 1 ≤ k := by omega
        have HD := Lib.hid (HAD.out k hlt hk1)
        have CD := Lib.hid (rdigit_is _ HD.out)
        have hdd := (digU_iff s[k]).1 HD.out
        have hd1 : (48 : Int) ≤ (s[k].toNat : Int) := by omega
        have hd2 : (s[k].toNat : Int) ≤ 57 := by omega
        have HS := Lib.hid (sv_step1 hk1 hlt HD.out hn.out)
        have hb := wrap_bounds (-(dv 0 (((L s).take (k + 1)).drop 1) : Int))
        rw [← HS.out] at hb
        clear hdd
        go_wp2_with (go_at_call 49; refine (CD.out _).mono ?_; rintro e w' ⟨rfl, rfl⟩)
        go_round
        case rel => exact ⟨k + 1, _, by omega, by go_num, rfl, hb.1, hb.2, HS⟩
        case measure => simp [intOf]; omega
    · obtain ⟨d, hd⟩ := mkL (Lib.itoa n)
      have hd2 := hd
      have hke : k = s.size := by omega
      rw [hn.out, hke] at hd2
      have hcase := printed_back HV.out HWB.out hd2
      have CG := Lib.hid (fun W => rdigits_as d hd W n1 n2)
      have hV2 := HV.out
      have hn2 := hn.out
      rw [hke] at hn2
      generalize (-(dv 0 (((L s).take s.size).drop 1) : Int)) = V at hcase hV2 hn2
      rw [hV2] at HW
      have HN := Lib.hid hn2
      clear hd hd2 hke hV2 hn2
      rcases hcase with ⟨_, v1, v2, v3, rfl⟩ | ⟨v1, v2⟩ | v1
      · rw [v3] at HN
        have hnV := HN.out
        subst hnV
        clear v3
        go_wp2_with (go_at_call 37; refine (CG.out _).mono ?_; rintro e w' ⟨rfl, hb⟩)
        all_goals go_ret2
        all_goals
          refine ⟨?_, hb⟩
          rw [HW.out]
          first
            | (rw [if_pos (by omega)]; rfl)
            | (rw [if_neg (by omega)]; rfl)
      · have HO := Lib.hid v1
        clear v1
        go_wp2_with (go_at_call 37; refine (CG.out _).mono ?_; rintro e w' ⟨rfl, hb⟩)
        all_goals go_ret2
        all_goals
          refine ⟨?_, hb⟩
          have := HO.out
          rw [HW.out, if_pos (by omega)]
          rfl
      · omega
end Go.Proofs.YtoclgcneclbfiaaDoor
