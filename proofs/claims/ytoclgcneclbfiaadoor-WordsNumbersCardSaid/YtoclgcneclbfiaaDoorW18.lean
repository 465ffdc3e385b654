/-
  CONTRACTS: the reference's whole and Int.
-/
import Derived.Test.YtoclgcneclbfiaaDoorW17
namespace Go.Proofs.YtoclgcneclbfiaaDoor
open Go.RowKit

theorem eq45 {c : UInt8} : ((c.toNat : Int) = 45) ↔ c = 45 := by
  constructor
  · intro h
    exact UInt8.toNat_inj.1 (by have : (45 : UInt8).toNat = 45 := rfl; omega)
  · rintro rfl; rfl
theorem rdigit_is (c : Int) {b : Bool} (h : digB c = b) (w : World) : Calls Tryd.prog 49 #[.int .u8 c] w fun e w' => e = .returned (.bool b) ∧ w = w' := by
  have := rdigit_any c w
  rwa [h] at this
/-- The sign, at a string. -/
theorem sign_at (s : ByteArray) (h : 0 < s.size) : signOf (L s) = if (s[0].toNat : Int) = 45 then (true, (L s).drop 1) else (false, L s) := by
  have hg := L_get s 0 h
  have hl := L_length s
  cases hL : L s with
  | nil => rw [hL] at hl; simp at hl; omega
  | cons c t =>
    simp only [hL, List.getElem_cons_zero] at hg
    rw [← hg]
    by_cases hc : (c.toNat : Int) = 45
    · rw [if_pos hc]
      have := eq45.1 hc
      subst this
      rfl
    · rw [if_neg hc]
      unfold signOf
      split
      · next heq =>
        cases heq
        exact absurd rfl hc
      · rfl
theorem tail_L (s : ByteArray) (f : Nat) : L (s.extract f s.size) = (L s).drop f := by
  rw [L_extract]
  exact List.take_of_length_le (by rw [List.length_drop, L_length]; omega)
theorem drop_all {s : ByteArray} {f : Nat} (h : ∀ j (hj : j < s.size), f ≤ j → digB (s[j].toNat : Int) = true) : ((L s).drop f).all digU = true := by
  rw [List.all_eq_true]
  intro x hx
  obtain ⟨i, hi, rfl⟩ := List.mem_iff_getElem.1 hx
  rw [List.getElem_drop]
  rw [List.length_drop, L_length] at hi
  rw [L_get s (f + i) (by omega)]
  exact h _ (by omega) (by omega)
theorem drop_bad {s : ByteArray} {f j : Nat} (hj : j < s.size) (hf : f ≤ j) (h : digB (s[j].toNat : Int) = false) : ((L s).drop f).all digU = false := by
  rw [List.all_eq_false]
  refine ⟨s[j], ?_, by unfold digU; rw [h]; decide⟩
  rw [List.mem_iff_getElem]
  refine ⟨j - f, by rw [List.length_drop, L_length]; omega, ?_⟩
  rw [List.getElem_drop]
  have e : f + (j - f) = j := by omega
  simp only [e]
  exact L_get s j hj
theorem ext0 {s : ByteArray} {f : Nat} (h : 0 < (s.extract f s.size).size) (hf : f < s.size) : (s.extract f s.size)[0] = s[f] := by
  have e := tail_L s f
  have h1 := L_get (s.extract f s.size) 0 h
  have h2 := L_get s f hf
  rw [← h1, ← h2]
  simp only [e, List.getElem_drop, Nat.add_zero]
theorem ext_size (s : ByteArray) (f : Nat) : (s.extract f s.size).size = s.size - f := by simp
theorem not_minus0 {s : ByteArray} (h : ∀ (h0 : 1 < s.size), (s[0].toNat : Int) = 45 → ¬ (s[1].toNat : Int) = 48) : (s.toList == [45, 48]) = false := by
  rw [beq_eq_false_iff_ne, Lib.toList_data]
  intro e
  have hl := L_length s
  have e2 : L s = [45, 48] := e
  rw [e2] at hl
  have hz : 1 < s.size := by simp at hl; omega
  have g0 := L_get s 0 (by omega)
  have g1 := L_get s 1 hz
  simp only [e2] at g0 g1
  exact h hz (by rw [← g0]; rfl) (by rw [← g1]; rfl)
theorem is_minus0 {s : ByteArray} (h2 : s.size = 2) (h0 : (s[0].toNat : Int) = 45) (h1 : (s[1].toNat : Int) = 48) : (s.toList == [45, 48]) = true := by
  rw [beq_iff_eq, Lib.toList_data]
  have hl := L_length s
  have g0 := L_get s 0 (by omega)
  have g1 := L_get s 1 (by omega)
  have e0 := eq45.1 h0
  have e1 : s[1] = 48 := UInt8.toNat_inj.1 (by have : (48 : UInt8).toNat = 48 := rfl; omega)
  show L s = [45, 48]
  match hL : L s with
  | [] => rw [hL] at hl; simp at hl; omega
  | [a] => rw [hL] at hl; simp at hl; omega
  | [a, b] =>
    simp only [hL, List.getElem_cons_zero, List.getElem_cons_succ] at g0 g1
    rw [g0, g1, e0, e1]
  | a :: b :: c :: t => rw [hL] at hl; simp at hl; omega
set_option maxHeartbeats 3200000 in
theorem rwhole_bad0 (s : ByteArray) (w : World) (hs : s.size ≤ 1000000) (h0 : 0 < s.size) (hneg : ((s[0].toNat : Int) == 45) = false) (hall : ((L s).drop 0).all digU = false) :
    Calls Tryd.prog 61 #[.string s] w fun e w' => e = .returned (.bool false) ∧ w = w' := by
  have HA := Lib.hid hall
  clear hall
  go_enter Tryd.func61, Tryd.ntmps61
  go_wp2
  go_loop [4] (fun i => ∃ k : Nat, 0 ≤ k ∧ k ≤ s.size ∧ i = .int .i64 k ∧ RowKit.Hid (∀ j (hj : j < s.size), 0 ≤ j → j < k → digB (s[j].toNat : Int) = true)) (fun i => s.size - (intOf i).toNat)
  case atStart => exact ⟨0, Nat.le_refl _, by omega, rfl, fun j hj h1 h2 => absurd h2 (by omega)⟩
  case round =>
    obtain ⟨k, hk1, hk, rfl, hal⟩ := hrel
    by_cases hlt : k < s.size
    · obtain ⟨b, hb⟩ : ∃ b, digB (s[k].toNat : Int) = b := ⟨_, rfl⟩
      have HD := Lib.hid hb
      have CD := Lib.hid (rdigit_is _ hb)
      clear hb
      cases b
      · go_wp2_with (go_at_call 49; refine (CD.out _).mono ?_; rintro e w' ⟨rfl, rfl⟩)
        go_ret
        exact ⟨rfl, rfl⟩
      · go_wp2_with (go_at_call 49; refine (CD.out _).mono ?_; rintro e w' ⟨rfl, rfl⟩)
        go_round
        case rel => exact ⟨k + 1, by omega, by omega, by go_num, fun j hj h1 h2 => (by rcases Nat.lt_or_ge j k with h3 | h3; exact hal.out j hj h1 h3; have e : j = k := (by omega); subst e; exact HD.out)⟩
        case measure => simp [intOf]; omega
    · exfalso
      have := drop_all (s := s) (f := 0) (fun j hj h1 => hal.out j hj h1 (by omega))
      rw [HA.out] at this
      cases this
set_option maxHeartbeats 3200000 in
theorem rwhole_good0 (s : ByteArray) (w : World) (hs : s.size ≤ 1000000) (h0 : 0 < s.size) (hneg : ((s[0].toNat : Int) == 45) = false) (hall : ((L s).drop 0).all digU = true) :
    Calls Tryd.prog 61 #[.string s] w fun e w' => e = .returned (.bool (wholeT false ((L s).drop 0))) ∧ w = w' := by
  have hq := tail_L s 0
  rw [← hq] at hall ⊢
  have way := way_of false _ hall
  have hsz := ext_size s 0
  have hs1 : ((s.size : Int) == 0) = false := by rw [beq_eq_false_iff_ne]; omega
  have hx : ∀ (h : 0 < s.size), ∀ h2 : 0 < (s.extract 0 s.size).size, (s.extract 0 s.size)[0] = s[0] := fun h h2 => ext0 h2 h
  rw [hq] at hall
  have HAD : RowKit.Hid (∀ k (hk : k < s.size), 0 ≤ k → digB (s[k].toNat : Int) = true) := fun k hk hf => by
    cases hd : digB (s[k].toNat : Int)
    · rw [drop_bad hk hf hd] at hall
      cases hall
    · rfl
  clear hall hq
  generalize wholeT false (L (s.extract 0 s.size)) = wb at way ⊢
  rcases way with g0 | ⟨g0, g2⟩ | ⟨g0, gn, g2⟩ | ⟨g0, g2⟩ | ⟨g0, gn, g2⟩
  · omega
  · have hf1 : 0 < s.size := by omega
    have g3 := g2 (by omega)
    rw [hx hf1 (by omega)] at g3
    clear hx g2
    go_enter Tryd.func61, Tryd.ntmps61
    go_wp2
    go_loop [4] (fun i => ∃ k : Nat, 0 ≤ k ∧ k ≤ s.size ∧ i = .int .i64 k ∧ RowKit.Hid (∀ j (hj : j < s.size), 0 ≤ j → j < k → digB (s[j].toNat : Int) = true)) (fun i => s.size - (intOf i).toNat)
    case atStart => exact ⟨0, Nat.le_refl _, by omega, rfl, fun j hj h1 h2 => absurd h2 (by omega)⟩
    case round =>
      obtain ⟨k, hk1, hk, rfl, hal⟩ := hrel
      by_cases hlt : k < s.size
      · have HD := Lib.hid (HAD.out k hlt hk1)
        have CD := Lib.hid (rdigit_is _ HD.out)
        go_wp2_with (go_at_call 49; refine (CD.out _).mono ?_; rintro e w' ⟨rfl, rfl⟩)
        go_round
        case rel => exact ⟨k + 1, by omega, by omega, by go_num, fun j hj h1 h2 => (by rcases Nat.lt_or_ge j k with h3 | h3; exact hal.out j hj h1 h3; have e : j = k := (by omega); subst e; exact HD.out)⟩
        case measure => simp [intOf]; omega
      · go_wp2
        all_goals (go_ret; exact ⟨rfl, rfl⟩)
  · cases gn
  · have hf1 : 0 < s.size := by omega
    have g3 := g2 (by omega)
    rw [hx hf1 (by omega)] at g3
    have hm := not_minus0 (s := s) (fun h a _ => by rw [a] at hneg; simp at hneg)
    clear hx g2
    go_enter Tryd.func61, Tryd.ntmps61
    go_wp2
    go_loop [4] (fun i => ∃ k : Nat, 0 ≤ k ∧ k ≤ s.size ∧ i = .int .i64 k ∧ RowKit.Hid (∀ j (hj : j < s.size), 0 ≤ j → j < k → digB (s[j].toNat : Int) = true)) (fun i => s.size - (intOf i).toNat)
    case atStart => exact ⟨0, Nat.le_refl _, by omega, rfl, fun j hj h1 h2 => absurd h2 (by omega)⟩
    case round =>
      obtain ⟨k, hk1, hk, rfl, hal⟩ := hrel
      by_cases hlt : k < s.size
      · have HD := Lib.hid (HAD.out k hlt hk1)
        have CD := Lib.hid (rdigit_is _ HD.out)
        go_wp2_with (go_at_call 49; refine (CD.out _).mono ?_; rintro e w' ⟨rfl, rfl⟩)
        go_round
        case rel => exact ⟨k + 1, by omega, by omega, by go_num, fun j hj h1 h2 => (by rcases Nat.lt_or_ge j k with h3 | h3; exact hal.out j hj h1 h3; have e : j = k := (by omega); subst e; exact HD.out)⟩
        case measure => simp [intOf]; omega
      · go_wp2
        all_goals (go_ret; exact ⟨rfl, rfl⟩)
  · have hf1 : 0 < s.size := by omega
    have g3 := g2 (by omega)
    rw [hx hf1 (by omega)] at g3
    have hm := not_minus0 (s := s) (fun h _ _ => by omega)
    have hs2 : (s.size : Int) = 1 := by omega
    clear hx g2
    go_enter Tryd.func61, Tryd.ntmps61
    go_wp2
    go_loop [4] (fun i => ∃ k : Nat, 0 ≤ k ∧ k ≤ s.size ∧ i = .int .i64 k ∧ RowKit.Hid (∀ j (hj : j < s.size), 0 ≤ j → j < k → digB (s[j].toNat : Int) = true)) (fun i => s.size - (intOf i).toNat)
    case atStart => exact ⟨0, Nat.le_refl _, by omega, rfl, fun j hj h1 h2 => absurd h2 (by omega)⟩
    case round =>
      obtain ⟨k, hk1, hk, rfl, hal⟩ := hrel
      by_cases hlt : k < s.size
      · have HD := Lib.hid (HAD.out k hlt hk1)
        have CD := Lib.hid (rdigit_is _ HD.out)
        go_wp2_with (go_at_call 49; refine (CD.out _).mono ?_; rintro e w' ⟨rfl, rfl⟩)
        go_round
        case rel => exact ⟨k + 1, by omega, by omega, by go_num, fun j hj h1 h2 => (by rcases Nat.lt_or_ge j k with h3 | h3; exact hal.out j hj h1 h3; have e : j = k := (by omega); subst e; exact HD.out)⟩
        case measure => simp [intOf]; omega
      · go_wp2
        all_goals (go_ret; exact ⟨rfl, rfl⟩)
set_option maxHeartbeats 3200000 in
theorem rwhole_bad1 (s : ByteArray) (w : World) (hs : s.size ≤ 1000000) (h0 : 0 < s.size) (hneg : ((s[0].toNat : Int) == 45) = true) (hall : ((L s).drop 1).all digU = false) :
    Calls Tryd.prog 61 #[.string s] w fun e w' => e = .returned (.bool false) ∧ w = w' := by
  have HA := Lib.hid hall
  clear hall
  go_enter Tryd.func61, Tryd.ntmps61
  go_wp2
  go_loop [4] (fun i => ∃ k : Nat, 1 ≤ k ∧ k ≤ s.size ∧ i = .int .i64 k ∧ RowKit.Hid (∀ j (hj : j < s.size), 1 ≤ j → j < k → digB (s[j].toNat : Int) = true)) (fun i => s.size - (intOf i).toNat)
  case atStart => exact ⟨1, Nat.le_refl _, by omega, rfl, fun j hj h1 h2 => absurd h2 (by omega)⟩
  case round =>
    obtain ⟨k, hk1, hk, rfl, hal⟩ := hrel
    by_cases hlt : k < s.size
    · obtain ⟨b, hb⟩ : ∃ b, digB (s[k].toNat : Int) = b := ⟨_, rfl⟩
      have HD := Lib.hid hb
      have CD := Lib.hid (rdigit_is _ hb)
      clear hb
      cases b
      · go_wp2_with (go_at_call 49; refine (CD.out _).mono ?_; rintro e w' ⟨rfl, rfl⟩)
        go_ret
        exact ⟨rfl, rfl⟩
      · go_wp2_with (go_at_call 49; refine (CD.out _).mono ?_; rintro e w' ⟨rfl, rfl⟩)
        go_round
        case rel => exact ⟨k + 1, by omega, by omega, by go_num, fun j hj h1 h2 => (by rcases Nat.lt_or_ge j k with h3 | h3; exact hal.out j hj h1 h3; have e : j = k := (by omega); subst e; exact HD.out)⟩
        case measure => simp [intOf]; omega
    · exfalso
      have := drop_all (s := s) (f := 1) (fun j hj h1 => hal.out j hj h1 (by omega))
      rw [HA.out] at this
      cases this
set_option maxHeartbeats 3200000 in
theorem rwhole_good1 (s : ByteArray) (w : World) (hs : s.size ≤ 1000000) (h0 : 0 < s.size) (hneg : ((s[0].toNat : Int) == 45) = true) (hall : ((L s).drop 1).all digU = true) :
    Calls Tryd.prog 61 #[.string s] w fun e w' => e = .returned (.bool (wholeT true ((L s).drop 1))) ∧ w = w' := by
  have hq := tail_L s 1
  rw [← hq] at hall ⊢
  have way := way_of true _ hall
  have hsz := ext_size s 1
  have hx : ∀ (h : 1 < s.size), ∀ h2 : 0 < (s.extract 1 s.size).size, (s.extract 1 s.size)[0] = s[1] := fun h h2 => ext0 h2 h
  rw [hq] at hall
  have HAD : RowKit.Hid (∀ k (hk : k < s.size), 1 ≤ k → digB (s[k].toNat : Int) = true) := fun k hk hf => by
    cases hd : digB (s[k].toNat : Int)
    · rw [drop_bad hk hf hd] at hall
      cases hall
    · rfl
  clear hall hq
  generalize wholeT true (L (s.extract 1 s.size)) = wb at way ⊢
  rcases way with g0 | ⟨g0, g2⟩ | ⟨g0, gn, g2⟩ | ⟨g0, g2⟩ | ⟨g0, gn, g2⟩
  · clear hx
    go_enter Tryd.func61, Tryd.ntmps61
    go_wp2
    go_loop [4] (fun i => ∃ k : Nat, 1 ≤ k ∧ k ≤ s.size ∧ i = .int .i64 k ∧ RowKit.Hid (∀ j (hj : j < s.size), 1 ≤ j → j < k → digB (s[j].toNat : Int) = true)) (fun i => s.size - (intOf i).toNat)
    case atStart => exact ⟨1, Nat.le_refl _, by omega, rfl, fun j hj h1 h2 => absurd h2 (by omega)⟩
    case round =>
      obtain ⟨k, hk1, hk, rfl, hal⟩ := hrel
      by_cases hlt : k < s.size
      · have HD := Lib.hid (HAD.out k hlt hk1)
        have CD := Lib.hid (rdigit_is _ HD.out)
        go_wp2_with (go_at_call 49; refine (CD.out _).mono ?_; rintro e w' ⟨rfl, rfl⟩)
        go_round
        case rel => exact ⟨k + 1, by omega, by omega, by go_num, fun j hj h1 h2 => (by rcases Nat.lt_or_ge j k with h3 | h3; exact hal.out j hj h1 h3; have e : j = k := (by omega); subst e; exact HD.out)⟩
        case measure => simp [intOf]; omega
      · go_wp2
        all_goals (go_ret; exact ⟨rfl, rfl⟩)
  · have hf1 : 1 < s.size := by omega
    have g3 := g2 (by omega)
    rw [hx hf1 (by omega)] at g3
    clear hx g2
    go_enter Tryd.func61, Tryd.ntmps61
    go_wp2
    go_loop [4] (fun i => ∃ k : Nat, 1 ≤ k ∧ k ≤ s.size ∧ i = .int .i64 k ∧ RowKit.Hid (∀ j (hj : j < s.size), 1 ≤ j → j < k → digB (s[j].toNat : Int) = true)) (fun i => s.size - (intOf i).toNat)
    case atStart => exact ⟨1, Nat.le_refl _, by omega, rfl, fun j hj h1 h2 => absurd h2 (by omega)⟩
    case round =>
      obtain ⟨k, hk1, hk, rfl, hal⟩ := hrel
      by_cases hlt : k < s.size
      · have HD := Lib.hid (HAD.out k hlt hk1)
        have CD := Lib.hid (rdigit_is _ HD.out)
        go_wp2_with (go_at_call 49; refine (CD.out _).mono ?_; rintro e w' ⟨rfl, rfl⟩)
        go_round
        case rel => exact ⟨k + 1, by omega, by omega, by go_num, fun j hj h1 h2 => (by rcases Nat.lt_or_ge j k with h3 | h3; exact hal.out j hj h1 h3; have e : j = k := (by omega); subst e; exact HD.out)⟩
        case measure => simp [intOf]; omega
      · go_wp2
        all_goals (go_ret; exact ⟨rfl, rfl⟩)
  · have hf1 : 1 < s.size := by omega
    have g3 := g2 (by omega)
    rw [hx hf1 (by omega)] at g3
    have hm := is_minus0 (by omega) (by simpa using hneg) g3
    clear hx g2
    go_enter Tryd.func61, Tryd.ntmps61
    go_wp2
    go_loop [4] (fun i => ∃ k : Nat, 1 ≤ k ∧ k ≤ s.size ∧ i = .int .i64 k ∧ RowKit.Hid (∀ j (hj : j < s.size), 1 ≤ j → j < k → digB (s[j].toNat : Int) = true)) (fun i => s.size - (intOf i).toNat)
    case atStart => exact ⟨1, Nat.le_refl _, by omega, rfl, fun j hj h1 h2 => absurd h2 (by omega)⟩
    case round =>
      obtain ⟨k, hk1, hk, rfl, hal⟩ := hrel
      by_cases hlt : k < s.size
      · have HD := Lib.hid (HAD.out k hlt hk1)
        have CD := Lib.hid (rdigit_is _ HD.out)
        go_wp2_with (go_at_call 49; refine (CD.out _).mono ?_; rintro e w' ⟨rfl, rfl⟩)
        go_round
        case rel => exact ⟨k + 1, by omega, by omega, by go_num, fun j hj h1 h2 => (by rcases Nat.lt_or_ge j k with h3 | h3; exact hal.out j hj h1 h3; have e : j = k := (by omega); subst e; exact HD.out)⟩
        case measure => simp [intOf]; omega
      · go_wp2
        all_goals (go_ret; exact ⟨rfl, rfl⟩)
  · have hf1 : 1 < s.size := by omega
    have g3 := g2 (by omega)
    rw [hx hf1 (by omega)] at g3
    have hm := not_minus0 (s := s) (fun h _ b => by rw [b] at g3; simp at g3)
    clear hx g2
    go_enter Tryd.func61, Tryd.ntmps61
    go_wp2
    go_loop [4] (fun i => ∃ k : Nat, 1 ≤ k ∧ k ≤ s.size ∧ i = .int .i64 k ∧ RowKit.Hid (∀ j (hj : j < s.size), 1 ≤ j → j < k → digB (s[j].toNat : Int) = true)) (fun i => s.size - (intOf i).toNat)
    case atStart => exact ⟨1, Nat.le_refl _, by omega, rfl, fun j hj h1 h2 => absurd h2 (by omega)⟩
    case round =>
      obtain ⟨k, hk1, hk, rfl, hal⟩ := hrel
      by_cases hlt : k < s.size
      · have HD := Lib.hid (HAD.out k hlt hk1)
        have CD := Lib.hid (rdigit_is _ HD.out)
        go_wp2_with (go_at_call 49; refine (CD.out _).mono ?_; rintro e w' ⟨rfl, rfl⟩)
        go_round
        case rel => exact ⟨k + 1, by omega, by omega, by go_num, fun j hj h1 h2 => (by rcases Nat.lt_or_ge j k with h3 | h3; exact hal.out j hj h1 h3; have e : j = k := (by omega); subst e; exact HD.out)⟩
        case measure => simp [intOf]; omega
      · go_wp2
        all_goals (go_ret; exact ⟨rfl, rfl⟩)
  · cases gn
end Go.Proofs.YtoclgcneclbfiaaDoor
