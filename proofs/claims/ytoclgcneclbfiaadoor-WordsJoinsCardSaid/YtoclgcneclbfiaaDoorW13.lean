/-
  CONTRACTS: the reference's Quote and Unquote.
-/
import Derived.Test.YtoclgcneclbfiaaDoorW1
import Derived.Test.YtoclgcneclbfiaaDoorW4
namespace Go.Proofs.YtoclgcneclbfiaaDoor
open Go.RowKit

theorem dbl_append : ∀ a b : List UInt8, dbl (a ++ b) = dbl a ++ dbl b
  | [], _ => rfl
  | c :: t, b => by
    by_cases h : c = 34
    · simp [dbl, h, dbl_append t b]
    · simp [dbl, h, dbl_append t b]
theorem cut1 (s : ByteArray) (k : Nat) (h : k < s.size) : L (s.extract k (k + 1)) = [s[k]] := by
  rw [L_extract, show k + 1 - k = 1 by omega, List.drop_eq_getElem_cons (by rw [L_length]; exact h), List.take_succ_cons, List.take_zero, L_get s k h]
theorem rquote_no (s : ByteArray) (w : World) (hs : s.size ≤ maxLen) (h : textB (L s) = false) :
    Calls Tryd.prog 19 #[.string s] w fun e w' => e = .returned (.tuple #[.string ⟨#[]⟩, .int .i64 2]) ∧ w = w' := by
  go_enter Tryd.func19, Tryd.ntmps19
  go_wp2_with (go_at_call 25; refine (rtext_any _ _ hs).mono ?_; rintro e w' ⟨rfl, rfl⟩)
  go_ret2
  exact ⟨rfl, rfl⟩
theorem quote_step {s p : ByteArray} {k : Nat} (hp : L p = 34 :: dbl ((L s).take k)) (hk : k < s.size) (h : ¬ s[k] = 34) : L (p ++ s.extract k (k + 1)) = 34 :: dbl ((L s).take (k + 1)) := by
  rw [L_append, hp, cut1 s k hk, take_snoc s k hk, dbl_append]
  simp [dbl, h]
theorem quote_step2 {s p : ByteArray} {k : Nat} (hp : L p = 34 :: dbl ((L s).take k)) (hk : k < s.size) (h : s[k] = 34) : L (p ++ s.extract k (k + 1) ++ ⟨#[34]⟩) = 34 :: dbl ((L s).take (k + 1)) := by
  rw [L_append, L_append, hp, cut1 s k hk, take_snoc s k hk, dbl_append]
  simp [dbl, h, L]
theorem eq34 {c : UInt8} : ((c.toNat : Int) = 34) ↔ c = 34 := by
  constructor
  · intro h
    exact UInt8.toNat_inj.1 (by have : (34 : UInt8).toNat = 34 := rfl; omega)
  · rintro rfl; rfl
set_option maxHeartbeats 800000 in
theorem rquote_yes (s q : ByteArray) (hq : L q = quoteL (L s)) (w : World) (h : textB (L s) = true) :
    Calls Tryd.prog 19 #[.string s] w fun e w' => e = .returned (.tuple #[.string q, .int .i64 0]) ∧ w = w' := by
  have hl := textB_le h
  rw [L_length] at hl
  have hs : s.size ≤ maxLen := by unfold maxLen; omega
  have HQ := Lib.hid hq
  clear hq
  go_enter Tryd.func19, Tryd.ntmps19
  go_wp2_with (go_at_call 25; refine (rtext_any _ _ hs).mono ?_; rintro e w' ⟨rfl, rfl⟩)
  clear h
  go_loop [4, 5] (fun o i => ∃ (k : Nat) (p : ByteArray), k ≤ s.size ∧ i = .int .i64 k ∧ o = .string p ∧ L p = 34 :: dbl ((L s).take k)) (fun _ i => s.size - (intOf i).toNat)
  case atStart => exact ⟨0, ⟨#[34]⟩, Nat.zero_le _, rfl, rfl, rfl⟩
  case round =>
    obtain ⟨k, p, hk, rfl, rfl, hp⟩ := hrel
    have hz : p.size ≤ 401 := by
      have h1 := dbl_length_le ((L s).take k)
      rw [size_of_L hp]
      simp only [List.length_cons, List.length_take, L_length] at h1 ⊢
      omega
    have HP := Lib.hid hp
    clear hp
    by_cases hlt : k < s.size
    · by_cases hc : s[k] = 34
      · have H := Lib.hid (quote_step2 HP.out hlt hc)
        have hc2 : (s[k].toNat : Int) = 34 := eq34.2 hc
        clear hc
        go_wp2
        all_goals go_round
        case rel => exact ⟨k + 1, _, by omega, by go_num, rfl, H.out⟩
        case measure => simp [intOf]; omega
      · have H := Lib.hid (quote_step HP.out hlt hc)
        have hc2 : ¬ (s[k].toNat : Int) = 34 := fun e => hc (eq34.1 e)
        clear hc
        go_wp2
        all_goals go_round
        case rel => exact ⟨k + 1, _, by omega, by go_num, rfl, H.out⟩
        case measure => simp [intOf]; omega
    · have ht := Lib.hid (take_all s k (by omega))
      go_wp2
      go_ret2
      exact ⟨ret_tup (eq_of_L (by rw [HQ.out, L_append, HP.out, ht.out]; rfl)) rfl, rfl⟩

/-- What is still to be read between the marks. -/
def unqTo (s : ByteArray) (k : Nat) (p : ByteArray) : Prop := unq (mid (L s)) = (unq ((mid (L s)).drop (k - 1))).map (L p ++ ·)
theorem mid_length (s : ByteArray) : (mid (L s)).length = s.size - 2 := by
  unfold mid
  simp only [List.length_take, List.length_drop, L_length]
  omega
theorem mid_drop (s : ByteArray) (k : Nat) (h1 : 1 ≤ k) (h : k < s.size - 1) : (mid (L s)).drop (k - 1) = s[k] :: (mid (L s)).drop k := by
  have hl := mid_length s
  rw [List.drop_eq_getElem_cons (by omega)]
  congr 1
  · unfold mid
    rw [List.getElem_take, List.getElem_drop]
    have := L_get s k (by omega)
    rw [← this]
    congr 1
    omega
  · congr 1; omega
theorem mid_end (s : ByteArray) (k : Nat) (h : s.size - 1 ≤ k) : (mid (L s)).drop (k - 1) = [] := List.drop_eq_nil_of_le (by rw [mid_length]; omega)
theorem unqTo_start (s : ByteArray) : unqTo s 1 ⟨#[]⟩ := by
  unfold unqTo
  simp [L]
theorem unq_other {c : UInt8} (h : ¬ c = 34) (t : List UInt8) : unq (c :: t) = (unq t).map (c :: ·) := by
  cases t with
  | nil => simp [unq, h]
  | cons d t => simp [unq, h]
theorem unqTo_other {s p : ByteArray} {k : Nat} (hu : unqTo s k p) (h1 : 1 ≤ k) (h : k < s.size - 1) (hc : ¬ s[k] = 34) : unqTo s (k + 1) (p ++ s.extract k (k + 1)) := by
  unfold unqTo at *
  rw [hu, mid_drop s k h1 h, unq_other hc, L_append, cut1 s k (by omega), Nat.add_sub_cancel]
  cases unq ((mid (L s)).drop k) <;> simp
theorem unqTo_mark {s p : ByteArray} {k : Nat} (hu : unqTo s k p) (h1 : 1 ≤ k) (h : k + 1 < s.size - 1) (hc : s[k] = 34) (hd : s[k + 1] = 34) : unqTo s (k + 2) (p ++ s.extract k (k + 1)) := by
  unfold unqTo at *
  have e := mid_drop s (k + 1) (by omega) h
  rw [Nat.add_sub_cancel] at e
  rw [hu, mid_drop s k h1 (by omega), e, hc, hd, L_append, cut1 s k (by omega), hc, show k + 2 - 1 = k + 1 by omega]
  simp only [unq, if_true]
  cases unq ((mid (L s)).drop (k + 1)) <;> simp
theorem unqTo_last {s p : ByteArray} {k : Nat} (hu : unqTo s k p) (h1 : 1 ≤ k) (h : k + 1 = s.size - 1) (hc : s[k] = 34) : unq (mid (L s)) = none := by
  unfold unqTo at hu
  have e := mid_end s (k + 1) (by omega)
  rw [Nat.add_sub_cancel] at e
  rw [hu, mid_drop s k h1 (by omega), e, hc]
  rfl
theorem unqTo_lone {s p : ByteArray} {k : Nat} (hu : unqTo s k p) (h1 : 1 ≤ k) (h : k + 1 < s.size - 1) (hc : s[k] = 34) (hd : ¬ s[k + 1] = 34) : unq (mid (L s)) = none := by
  unfold unqTo at *
  have e := mid_drop s (k + 1) (by omega) h
  rw [Nat.add_sub_cancel] at e
  rw [hu, mid_drop s k h1 (by omega), e, hc]
  simp [unq, hd]
theorem unqTo_end {s p : ByteArray} {k : Nat} (hu : unqTo s k p) (h : s.size - 1 ≤ k) : unq (mid (L s)) = some (L p) := by
  unfold unqTo at hu
  rw [hu, mid_end s k h]
  simp [unq]
theorem outer (s : ByteArray) (h2 : ¬ s.size < 2) (hf : s[0] = 34) (hg : s[s.size - 1] = 34) : L s = 34 :: mid (L s) ++ [34] := by
  apply List.ext_getElem
  · simp only [L_length, List.length_append, List.length_cons, mid_length, List.length_nil]
    omega
  · intro i hi hj
    have hi2 : i < s.size := by rw [L_length] at hi; exact hi
    rw [L_get s i hi2]
    rcases Nat.eq_zero_or_pos i with rfl | hp
    · simpa using hf
    · rcases Nat.lt_or_ge i (s.size - 1) with hl | hl
      · have e := mid_drop s i hp hl
        have hm := mid_length s
        rw [List.getElem_append_left (by simp; omega)]
        obtain ⟨j, rfl⟩ : ∃ j, i = j + 1 := ⟨i - 1, by omega⟩
        rw [List.getElem_cons_succ]
        rw [Nat.add_sub_cancel, List.drop_eq_getElem_cons (by omega)] at e
        exact ((List.cons.inj e).1).symm
      · obtain rfl : i = s.size - 1 := by omega
        have hm := mid_length s
        rw [List.getElem_append_right (by simp; omega)]
        simpa using hg
/-- What the reference's reading says of the plain one. -/
theorem unquoteL_eq (s : ByteArray) (h2 : ¬ s.size < 2) (hf : s[0] = 34) (hg : s[s.size - 1] = 34) : unquoteL (L s) = match unq (mid (L s)) with | some t => if textB t = true then some t else none | none => none := by
  have e := outer s h2 hf hg
  unfold unquoteL
  rw [unq_hlv]
  have eq : (quoteL (hlv (mid (L s))) = L s) ↔ (dbl (hlv (mid (L s))) = mid (L s)) := by
    constructor
    · intro h
      have h3 : quoteL (hlv (mid (L s))) = 34 :: mid (L s) ++ [34] := h.trans e
      unfold quoteL at h3
      simpa using h3
    · intro h
      unfold quoteL
      rw [h]
      exact e.symm
  by_cases g : dbl (hlv (mid (L s))) = mid (L s)
  · rw [if_pos g]
    have g2 := eq.2 g
    by_cases ht : textB (hlv (mid (L s))) = true
    · simp [ht, g2]
    · simp [ht]
  · rw [if_neg g, if_neg (fun x => g (eq.1 x.2))]
set_option maxHeartbeats 1600000 in
theorem runquote_mid (s : ByteArray) (w : World) (hs : s.size ≤ 1048676) (h2 : ¬ s.size < 2) (hf : (s[0].toNat : Int) = 34) (hg : (s[s.size - 1].toNat : Int) = 34) :
    Calls Tryd.prog 21 #[.string s] w fun e w' => e = .returned (optS 6 (unquoteL (L s))) ∧ w = w' := by
  have HU := Lib.hid (unquoteL_eq s h2 (eq34.1 hf) (eq34.1 hg))
  go_enter Tryd.func21, Tryd.ntmps21
  go_wp2
  go_loop [4, 5] (fun o i => ∃ (k : Nat) (p : ByteArray), 1 ≤ k ∧ k ≤ s.size - 1 ∧ i = .int .i64 k ∧ o = .string p ∧ p.size ≤ k ∧ RowKit.Hid (unqTo s k p)) (fun _ i => s.size - (intOf i).toNat)
  case atStart => exact ⟨1, ⟨#[]⟩, Nat.le_refl _, by omega, rfl, rfl, by show (0 : Nat) ≤ 1; omega, Lib.hid (unqTo_start s)⟩
  case round =>
    obtain ⟨k, p, h1, hk, rfl, rfl, hz, hu⟩ := hrel
    by_cases hlt : k < s.size - 1
    · by_cases hc : s[k] = 34
      · have hc2 : (s[k].toNat : Int) = 34 := eq34.2 hc
        by_cases hlast : k + 1 = s.size - 1
        · have HN := Lib.hid (unqTo_last hu.out h1 hlast hc)
          clear hc
          go_wp2
          all_goals go_ret2
          all_goals exact ⟨by rw [HU.out, HN.out]; rfl, rfl⟩
        · by_cases hd : s[k + 1] = 34
          · have hd2 : (s[k + 1].toNat : Int) = 34 := eq34.2 hd
            have HN := Lib.hid (unqTo_mark hu.out h1 (by omega) hc hd)
            clear hc hd
            go_wp2
            all_goals go_round
            case rel => exact ⟨k + 2, _, by omega, by omega, by go_num, rfl, by simp; omega, HN⟩
            case measure => simp [intOf]; omega
          · have hd2 : ((s[k + 1].toNat : Int) != 34) = true := by rw [bne_iff_ne]; exact fun e => hd (eq34.1 e)
            have HN := Lib.hid (unqTo_lone hu.out h1 (by omega) hc hd)
            clear hc hd
            go_wp2
            all_goals go_ret2
            all_goals exact ⟨by rw [HU.out, HN.out]; rfl, rfl⟩
      · have hc2 : ¬ (s[k].toNat : Int) = 34 := fun e => hc (eq34.1 e)
        have HN := Lib.hid (unqTo_other hu.out h1 hlt hc)
        clear hc
        go_wp2
        all_goals go_round
        case rel => exact ⟨k + 1, _, by omega, by omega, by go_num, rfl, by simp; omega, HN⟩
        case measure => simp [intOf]; omega
    · have HN := Lib.hid (unqTo_end hu.out (by omega))
      have hp : p.size ≤ maxLen := by unfold maxLen; omega
      go_wp2_with (go_at_call 25; refine (rtext_any _ _ hp).mono ?_; rintro e w' ⟨rfl, rfl⟩)
      all_goals go_ret2
      · have h9 : (!textB (L p)) = true := by assumption
        have h8 : textB (L p) = false := by simpa using h9
        exact ⟨by rw [HU.out, HN.out]; simp only [h8]; rfl, rfl⟩
      · have h9 : (!textB (L p)) = false := by assumption
        have h8 : textB (L p) = true := by simpa using h9
        exact ⟨by rw [HU.out, HN.out]; simp only [h8]; rfl, rfl⟩
set_option maxHeartbeats 800000 in
theorem runquote_any (s : ByteArray) (w : World) (hs : s.size ≤ 1048676) :
    Calls Tryd.prog 21 #[.string s] w fun e w' => e = .returned (optS 6 (unquoteL (L s))) ∧ w = w' := by
  by_cases h2 : s.size < 2
  · rw [unquote_short h2]
    go_enter Tryd.func21, Tryd.ntmps21
    go_wp2
    go_ret2
    exact ⟨rfl, rfl⟩
  by_cases hf : (s[0].toNat : Int) = 34
  · by_cases hg : (s[s.size - 1].toNat : Int) = 34
    · exact runquote_mid s w hs h2 hf hg
    · rw [unquote_last (by omega) hg]
      have hg2 : ((s[s.size - 1].toNat : Int) != 34) = true := by rw [bne_iff_ne]; exact hg
      clear hg
      go_enter Tryd.func21, Tryd.ntmps21
      go_wp2
      go_ret2
      exact ⟨rfl, rfl⟩
  · rw [unquote_first (by omega) hf]
    have hg2 : ((s[0].toNat : Int) != 34) = true := by rw [bne_iff_ne]; exact hf
    clear hf
    go_enter Tryd.func21, Tryd.ntmps21
    go_wp2
    go_ret2
    exact ⟨rfl, rfl⟩
end Go.Proofs.YtoclgcneclbfiaaDoor
