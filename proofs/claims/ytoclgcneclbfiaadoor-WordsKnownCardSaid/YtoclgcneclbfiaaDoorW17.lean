/-
  CONTRACTS: Int.
-/
import Derived.Test.YtoclgcneclbfiaaDoorPlainI
import Derived.Test.YtoclgcneclbfiaaDoorW1
import Derived.Test.YtoclgcneclbfiaaDoorW3
import Derived.Lib.AtoiErrMem
import Derived.Test.YtoclgcneclbfiaaDoorW13
namespace Go.Proofs.YtoclgcneclbfiaaDoor
open Go.RowKit

theorem sign_cut (l : List UInt8) : signOf l = (Lib.hasPrefix l [45], Lib.trimPrefix l [45]) := by
  unfold signOf Lib.trimPrefix Lib.hasPrefix
  split
  · simp [List.isPrefixOf]
  · next h =>
    have hp : ([45] : List UInt8).isPrefixOf l = false := by
      cases l with
      | nil => rfl
      | cons c t =>
        simp only [List.isPrefixOf, Bool.and_true, beq_eq_false_iff_ne, ne_eq]
        rintro rfl
        exact h t rfl
    simp [hp]
theorem parseM {M : Nat} (hM : M = 18446744073709551615) (l : List UInt8) (acc : Nat) (hd : l.all digU = true) (ha : acc ≤ M) : Lib.parseUintM M acc l = if dv acc l ≤ M then .ok (dv acc l) else .range := by
  induction l generalizing acc with
  | nil => rw [Lib.parseUintM, dv_nil, if_pos ha]
  | cons c t ih =>
    simp only [List.all_cons, Bool.and_eq_true] at hd
    have hc := (digU_iff c).1 hd.1
    rw [Lib.parseUintM, if_pos hc, dv_cons]
    have hge := dv_ge' t (10 * acc + (c.toNat - 48))
    by_cases h1 : 1844674407370955162 ≤ acc
    · rw [if_pos h1, if_neg (by omega)]
    · rw [if_neg h1]
      by_cases h2 : M < acc * 10 + (c.toNat - 48)
      · rw [if_pos h2, if_neg (by omega)]
      · rw [if_neg h2, ih _ hd.2 (by omega), show acc * 10 + (c.toNat - 48) = 10 * acc + (c.toNat - 48) by omega]
theorem parse_whole {l : List UInt8} (h : wholeB l = true) : Lib.parseIntB 64 l = if -9223372036854775808 ≤ valL l ∧ valL l ≤ 9223372036854775807 then .ok (valL l) else .range := by
  have hs : (∃ t, l = 45 :: t ∧ signOf l = (true, t)) ∨ signOf l = (false, l) := by
    unfold signOf
    split
    · exact .inl ⟨_, rfl, rfl⟩
    · exact .inr rfl
  unfold wholeB at h
  rcases hs with ⟨t, rfl, e⟩ | e
  · rw [e] at h
    unfold valL
    rw [e]
    have hne : t ≠ [] := by rintro rfl; simp [wholeT] at h
    have hall : t.all digU = true := by
      unfold wholeT at h
      simp only [Bool.and_eq_true] at h
      exact h.1.1
    rw [Lib.parseIntB_minus, Lib.parseUintB, if_neg hne, parseM (by decide) t 0 hall (by decide)]
    simp only [if_true]
    by_cases h1 : dv 0 t ≤ 2 ^ 64 - 1
    · rw [if_pos h1]
      simp only [Lib.signedC]
      by_cases h2 : 2 ^ (64 - 1) < dv 0 t
      · rw [if_pos h2, if_neg (by omega)]
      · rw [if_neg h2, if_pos (by omega)]
    · rw [if_neg h1, if_neg (by omega)]
      rfl
  · rw [e] at h
    unfold valL
    rw [e]
    have hall : l.all digU = true := by
      unfold wholeT at h
      simp only [Bool.and_eq_true] at h
      exact h.1.1
    cases l with
    | nil => simp [wholeT] at h
    | cons c t =>
      have hc : digU c = true := by simp only [List.all_cons, Bool.and_eq_true] at hall; exact hall.1
      have hd := (digU_iff c).1 hc
      rw [Lib.parseIntB_plain 64 c t (by omega) (by omega), Lib.parseUintB, if_neg (by simp), parseM (by decide) (c :: t) 0 hall (by decide)]
      simp only [Bool.false_eq_true, if_false]
      by_cases h1 : dv 0 (c :: t) ≤ 2 ^ 64 - 1
      · rw [if_pos h1]
        simp only [Lib.signlessC]
        by_cases h2 : 2 ^ (64 - 1) ≤ dv 0 (c :: t)
        · rw [if_pos h2, if_neg (by omega)]
        · rw [if_neg h2, if_pos (by omega)]
      · rw [if_neg h1, if_neg (by omega)]
        rfl
/-- strconv.ErrRange's cell holds an error. -/
def ErrV (w : World) : Prop := ∃ te pe, w.cell? ⟨4, 0, none⟩ = some (.iface te pe)
theorem ErrV.below {w w' : World} (h : ErrV w) (hb : Below w.heap.size w w') : ErrV w' := by
  obtain ⟨te, pe, hc⟩ := h
  exact ⟨te, pe, (hb.cell (cell_size hc)).trans hc⟩
/-- ParseInt of a whole number. -/
theorem parseInt_any (s : ByteArray) (w : World) (hs : s.size ≤ 1000000) (hv : ErrV w) (h : wholeB (L s) = true) :
    Calls Tryd.prog 60 #[.string s, .int .i64 10, .int .i64 64] w fun e w' => Below w.heap.size w w' ∧
      ((-9223372036854775808 ≤ valL (L s) ∧ valL (L s) ≤ 9223372036854775807) ∧ e = .returned (.tuple #[.int .i64 (valL (L s)), .nilIface]) ∨
       ¬ (-9223372036854775808 ≤ valL (L s) ∧ valL (L s) ≤ 9223372036854775807) ∧ ∃ v N, e = .returned (.tuple #[.int .i64 v, .iface 114 (.pointer (some ⟨N, 0, none⟩))])) := by
  have hp := parse_whole h
  by_cases hr : -9223372036854775808 ≤ valL (L s) ∧ valL (L s) ≤ 9223372036854775807
  · rw [if_pos hr] at hp
    refine (Tryd.strconv_ParseInt_10_at64_ok s (by omega) _ hp w).mono ?_
    rintro e w' ⟨rfl, hw⟩
    refine ⟨?_, .inl ⟨hr, rfl⟩⟩
    rcases hw with rfl | ⟨t, rfl⟩
    · exact Below.refl _ _
    · exact Lib.bytesWorld_below _ _ _
  · rw [if_neg hr] at hp
    obtain ⟨te, pe, hc⟩ := hv
    refine (Tryd.strconv_ParseInt_10_at64_range s (by omega) hp _ w hc (.inr ⟨te, pe, rfl⟩)).mono ?_
    rintro e w' ⟨N, rfl, _, _, hb⟩
    exact ⟨hb, .inr ⟨hr, _, N, rfl⟩⟩
/-- A pair as a result. -/
def pairI (p : Int × Int) : Value := .tuple #[.int .i64 p.1, .int .i64 p.2]
theorem num_arg {l : List UInt8} {lo hi : Int} (h : hi < lo) : numR l lo hi = (0, 2) := by unfold numR; rw [if_pos h]
theorem num_form {l : List UInt8} {lo hi : Int} (h : ¬ hi < lo) (hw : wholeB l = false) : numR l lo hi = (0, 6) := by unfold numR; rw [if_neg h, if_pos hw]
theorem num_val {l : List UInt8} {lo hi : Int} (h : ¬ hi < lo) (hw : wholeB l = true) : numR l lo hi = if valL l < lo ∨ hi < valL l then (0, 7) else (valL l, 0) := by unfold numR; rw [if_neg h, if_neg (by simp [hw])]
theorem digit_yes (c : Int) (h : digB c = true) (w : World) : Calls Tryd.prog 45 #[.int .u8 c] w fun e w' => e = .returned (.bool true) ∧ w = w' := by
  have := digit_any c w
  rwa [h] at this
theorem all_at {q : ByteArray} (h : (L q).all digU = true) (k : Nat) (hk : k < q.size) : digB (q[k].toNat : Int) = true := by
  cases hd : digB (q[k].toNat : Int)
  · rw [all_no q digU k hk hd] at h
    cases h
  · rfl
theorem head48 {q : ByteArray} (h : 0 < q.size) : ((L q).head? = some 48) ↔ (q[0].toNat : Int) = 48 := by
  have e : (L q).head? = some q[0] := by
    rw [List.head?_eq_getElem?, List.getElem?_eq_getElem (by rw [L_length]; exact h), L_get q 0 h]
  rw [e]
  constructor
  · intro h2
    rw [Option.some.inj h2]; rfl
  · intro h2
    exact congrArg some (UInt8.toNat_inj.1 (by have : (48 : UInt8).toNat = 48 := rfl; omega))
/-- The ways of a number's text behind the sign. -/
inductive Way (neg : Bool) (q : ByteArray) : Bool → Prop
  | empty : q.size = 0 → Way neg q false
  | long : 1 < q.size → (∀ h : 0 < q.size, (q[0].toNat : Int) = 48) → Way neg q false
  | minus : q.size = 1 → neg = true → (∀ h : 0 < q.size, (q[0].toNat : Int) = 48) → Way neg q false
  | plain : 0 < q.size → (∀ h : 0 < q.size, ((q[0].toNat : Int) == 48) = false) → Way neg q true
  | zero : q.size = 1 → neg = false → (∀ h : 0 < q.size, (q[0].toNat : Int) = 48) → Way neg q true
theorem way_of (neg : Bool) (q : ByteArray) (h : (L q).all digU = true) : Way neg q (wholeT neg (L q)) := by
  have hl := L_length q
  unfold wholeT
  rw [h]
  by_cases h0 : q.size = 0
  · have e : L q = [] := List.length_eq_zero_iff.1 (by omega)
    rw [e]
    exact .empty h0
  · have e : (L q).isEmpty = false := by
      rw [List.isEmpty_eq_false_iff]
      intro e
      rw [e] at hl
      simp at hl
      omega
    rw [e, hl]
    have h48 := head48 (show 0 < q.size by omega)
    by_cases h2 : (q[0].toNat : Int) = 48
    · rw [decide_eq_true (h48.2 h2)]
      by_cases h3 : 1 < q.size
      · rw [decide_eq_true h3]
        exact .long h3 (fun _ => h2)
      · rw [decide_eq_false h3]
        cases neg
        · exact .zero (by omega) rfl (fun _ => h2)
        · exact .minus (by omega) rfl (fun _ => h2)
    · rw [decide_eq_false (fun x => h2 (h48.1 x))]
      exact .plain (by omega) (fun _ => by rw [beq_eq_false_iff_ne]; exact h2)
set_option maxHeartbeats 1600000 in
theorem int_any (s : ByteArray) (lo hi : Int) (w : World) (hs : s.size ≤ 1000000) (hv : ErrV w) (l1 : -9223372036854775808 ≤ lo) (l2 : hi ≤ 9223372036854775807) :
    Calls Tryd.prog 34 #[.string s, .int .i64 lo, .int .i64 hi] w fun e w' => e = .returned (pairI (numR (L s) lo hi)) ∧ Below w.heap.size w w' := by
  by_cases hlo : hi < lo
  · rw [num_arg hlo]
    go_enter Tryd.func34, Tryd.ntmps34
    go_wp2
    go_ret2
    exact ⟨rfl, Below.refl _ _⟩
  · obtain ⟨neg, tl, hsg⟩ : ∃ neg tl, signOf (L s) = (neg, tl) := ⟨_, _, rfl⟩
    obtain ⟨q, hq⟩ := mkL tl
    have hqs : q.size ≤ s.size := by
      have h1 : tl.length ≤ (L s).length := by
        have : tl = (signOf (L s)).2 := by rw [hsg]
        rw [this]
        unfold signOf
        split
        · next h => rw [h]; simp
        · exact Nat.le_refl _
      rw [size_of_L hq, ← L_length s]
      exact h1
    have C1 := Lib.hid (fun W => Tryd.strings_CutPrefix s ⟨#[45]⟩ W)
    have hc := sign_cut (L s)
    rw [hsg] at hc
    have hc1 : Lib.hasPrefix s.data.toList ((⟨#[45]⟩ : ByteArray).data.toList) = neg := (congrArg Prod.fst hc).symm
    have hc2 : Lib.trimPrefix s.data.toList ((⟨#[45]⟩ : ByteArray).data.toList) = tl := (congrArg Prod.snd hc).symm
    rw [hc1, hc2, mk_of_L hq] at C1
    have hw : wholeB (L s) = wholeT neg (L q) := by unfold wholeB; rw [hsg, hq]
    clear hc hc1 hc2 hsg hq
    cases hall : (L q).all digU
    · have HW := Lib.hid (num_form hlo (show wholeB (L s) = false by rw [hw]; unfold wholeT; rw [hall]; rfl))
      have HA := Lib.hid hall
      clear hall hw
      go_enter Tryd.func34, Tryd.ntmps34
      go_wp2_with (go_at_call 44; refine (C1.out _).mono ?_; rintro e w' ⟨rfl, rfl⟩)
      go_loop [23] (fun i => ∃ k : Nat, k ≤ q.size ∧ i = .int .i64 k ∧ ((L q).take k).all digU = true) (fun i => q.size - (intOf i).toNat)
      case atStart => exact ⟨0, Nat.zero_le _, rfl, rfl⟩
      case round =>
        obtain ⟨k, hk, rfl, hal⟩ := hrel
        by_cases hlt : k < q.size
        · have H := Lib.hid (allTo_succ q digU k hlt)
          have HB := Lib.hid hal
          clear hal
          obtain ⟨b, hb⟩ : ∃ b, digB (q[k].toNat : Int) = b := ⟨_, rfl⟩
          have HG := Lib.hid hb
          have CD : RowKit.Hid (∀ W, Calls Tryd.prog 45 #[.int .u8 (q[k].toNat : Int)] W fun e w' => e = .returned (.bool b) ∧ W = w') := fun W => by
            have := digit_any (q[k].toNat : Int) W
            rwa [hb] at this
          clear hb
          cases b
          · go_wp2_with (go_at_call 45; refine (CD.out _).mono ?_; rintro e w' ⟨rfl, rfl⟩)
            go_ret2
            exact ⟨by rw [HW.out]; rfl, Below.refl _ _⟩
          · go_wp2_with (go_at_call 45; refine (CD.out _).mono ?_; rintro e w' ⟨rfl, rfl⟩)
            go_round
            case rel => exact ⟨k + 1, by omega, by go_num, by rw [H.out, HB.out]; exact HG.out⟩
            case measure => simp [intOf]; omega
        · exfalso
          rw [take_all q k (by omega), HA.out] at hal
          cases hal
    · have way := way_of neg q hall
      rw [← hw] at way
      have HA := Lib.hid hall
      clear hall hw
      generalize hwb : wholeB (L s) = wb at way
      have HWB := Lib.hid hwb
      clear hwb
      rcases way with h0 | ⟨h0, h2⟩ | ⟨h0, rfl, h2⟩ | ⟨h0, h2⟩ | ⟨h0, rfl, h2⟩
      · have he : q.toList.isEmpty = true := by rw [(toList_nil q).2 h0]; rfl
        have HW := Lib.hid (num_form hlo HWB.out)
        go_enter Tryd.func34, Tryd.ntmps34
        go_wp2_with (go_at_call 44; refine (C1.out _).mono ?_; rintro e w' ⟨rfl, rfl⟩)
        go_loop [23] (fun i => ∃ k : Nat, k ≤ q.size ∧ i = .int .i64 k) (fun i => q.size - (intOf i).toNat)
        case atStart => exact ⟨0, Nat.zero_le _, rfl⟩
        case round =>
          obtain ⟨k, hk, rfl⟩ := hrel
          by_cases hlt : k < q.size
          · exact absurd hlt (by omega)
          · go_wp2
            all_goals go_ret2
            all_goals exact ⟨by rw [HW.out]; rfl, Below.refl _ _⟩
      · have he : q.toList.isEmpty = false := by rw [List.isEmpty_eq_false_iff]; exact fun e => absurd ((toList_nil q).1 e) (by omega)
        have h20 : 0 < q.size := by omega
        have h2' := h2 h20
        have HW := Lib.hid (num_form hlo HWB.out)
        go_enter Tryd.func34, Tryd.ntmps34
        go_wp2_with (go_at_call 44; refine (C1.out _).mono ?_; rintro e w' ⟨rfl, rfl⟩)
        go_loop [23] (fun i => ∃ k : Nat, k ≤ q.size ∧ i = .int .i64 k) (fun i => q.size - (intOf i).toNat)
        case atStart => exact ⟨0, Nat.zero_le _, rfl⟩
        case round =>
          obtain ⟨k, hk, rfl⟩ := hrel
          by_cases hlt : k < q.size
          · have CD := Lib.hid (digit_yes _ (all_at HA.out k hlt))
            go_wp2_with (go_at_call 45; refine (CD.out _).mono ?_; rintro e w' ⟨rfl, rfl⟩)
            go_round
            case rel => exact ⟨k + 1, by omega, by go_num⟩
            case measure => simp [intOf]; omega
          · go_wp2
            all_goals go_ret2
            all_goals exact ⟨by rw [HW.out]; rfl, Below.refl _ _⟩
      · have he : q.toList.isEmpty = false := by rw [List.isEmpty_eq_false_iff]; exact fun e => absurd ((toList_nil q).1 e) (by omega)
        have h20 : 0 < q.size := by omega
        have h2' := h2 h20
        have HW := Lib.hid (num_form hlo HWB.out)
        go_enter Tryd.func34, Tryd.ntmps34
        go_wp2_with (go_at_call 44; refine (C1.out _).mono ?_; rintro e w' ⟨rfl, rfl⟩)
        go_loop [23] (fun i => ∃ k : Nat, k ≤ q.size ∧ i = .int .i64 k) (fun i => q.size - (intOf i).toNat)
        case atStart => exact ⟨0, Nat.zero_le _, rfl⟩
        case round =>
          obtain ⟨k, hk, rfl⟩ := hrel
          by_cases hlt : k < q.size
          · have CD := Lib.hid (digit_yes _ (all_at HA.out k hlt))
            go_wp2_with (go_at_call 45; refine (CD.out _).mono ?_; rintro e w' ⟨rfl, rfl⟩)
            go_round
            case rel => exact ⟨k + 1, by omega, by go_num⟩
            case measure => simp [intOf]; omega
          · go_wp2
            all_goals go_ret2
            all_goals exact ⟨by rw [HW.out]; rfl, Below.refl _ _⟩
      · have he : q.toList.isEmpty = false := by rw [List.isEmpty_eq_false_iff]; exact fun e => absurd ((toList_nil q).1 e) (by omega)
        have h2' := h2 h0
        have HW := Lib.hid (num_val hlo HWB.out)
        have PI := fun W hW => parseInt_any s W hs hW HWB.out
        generalize valL (L s) = V at HW PI
        go_enter Tryd.func34, Tryd.ntmps34
        go_wp2_with (go_at_call 44; refine (C1.out _).mono ?_; rintro e w' ⟨rfl, rfl⟩)
        go_loop [23] (fun i => ∃ k : Nat, k ≤ q.size ∧ i = .int .i64 k) (fun i => q.size - (intOf i).toNat)
        case atStart => exact ⟨0, Nat.zero_le _, rfl⟩
        case round =>
          obtain ⟨k, hk, rfl⟩ := hrel
          by_cases hlt : k < q.size
          · have CD := Lib.hid (digit_yes _ (all_at HA.out k hlt))
            go_wp2_with (go_at_call 45; refine (CD.out _).mono ?_; rintro e w' ⟨rfl, rfl⟩)
            go_round
            case rel => exact ⟨k + 1, by omega, by go_num⟩
            case measure => simp [intOf]; omega
          · go_wp2_with fail
            refine (PI _ hv).mono ?_
            rintro e w' ⟨hb, ⟨hr, rfl⟩ | ⟨hr, v, N, rfl⟩⟩
            · go_wp2
              all_goals go_ret2
              all_goals
                refine ⟨?_, hb⟩
                rw [HW.out]
                first
                  | (rw [if_pos (by omega)]; rfl)
                  | (rw [if_neg (by omega)]; rfl)
            · go_wp2
              all_goals go_ret2
              all_goals (refine ⟨?_, hb⟩; rw [HW.out, if_pos (by omega)]; rfl)
      · have he : q.toList.isEmpty = false := by rw [List.isEmpty_eq_false_iff]; exact fun e => absurd ((toList_nil q).1 e) (by omega)
        have h20 : 0 < q.size := by omega
        have h2' := h2 h20
        have HW := Lib.hid (num_val hlo HWB.out)
        have PI := fun W hW => parseInt_any s W hs hW HWB.out
        generalize valL (L s) = V at HW PI
        go_enter Tryd.func34, Tryd.ntmps34
        go_wp2_with (go_at_call 44; refine (C1.out _).mono ?_; rintro e w' ⟨rfl, rfl⟩)
        go_loop [23] (fun i => ∃ k : Nat, k ≤ q.size ∧ i = .int .i64 k) (fun i => q.size - (intOf i).toNat)
        case atStart => exact ⟨0, Nat.zero_le _, rfl⟩
        case round =>
          obtain ⟨k, hk, rfl⟩ := hrel
          by_cases hlt : k < q.size
          · have CD := Lib.hid (digit_yes _ (all_at HA.out k hlt))
            go_wp2_with (go_at_call 45; refine (CD.out _).mono ?_; rintro e w' ⟨rfl, rfl⟩)
            go_round
            case rel => exact ⟨k + 1, by omega, by go_num⟩
            case measure => simp [intOf]; omega
          · go_wp2_with fail
            refine (PI _ hv).mono ?_
            rintro e w' ⟨hb, ⟨hr, rfl⟩ | ⟨hr, v, N, rfl⟩⟩
            · go_wp2
              all_goals go_ret2
              all_goals
                refine ⟨?_, hb⟩
                rw [HW.out]
                first
                  | (rw [if_pos (by omega)]; rfl)
                  | (rw [if_neg (by omega)]; rfl)
            · go_wp2
              all_goals go_ret2
              all_goals (refine ⟨?_, hb⟩; rw [HW.out, if_pos (by omega)]; rfl)
end Go.Proofs.YtoclgcneclbfiaaDoor
