/-
  WALKS: quotations: Quote and Unquote of the program.
-/
import Derived.Test.YtoclgcneclbfiaaDoorTabs
import Derived.Test.YtoclgcneclbfiaaDoorW1
import Derived.Test.YtoclgcneclbfiaaDoorPlainQ
import Derived.Lib.Strings
namespace Go.Proofs.YtoclgcneclbfiaaDoor
open Go.RowKit

theorem replace2_any (s q : ByteArray) (hq : L q = dbl (L s)) (w : World) (hs : s.size ≤ 1048676) (t : Tabs w) :
    Calls Tryd.prog 46 #[.string s, .string ⟨#[34]⟩, .string ⟨#[34, 34]⟩] w fun e w' => e = .returned (.string q) ∧ Below w.heap.size w w' := by
  obtain ⟨m, hm⟩ := t.mlen
  have hc := Lib.countB_le ⟨#[34]⟩ (by decide) s.size s (Nat.le_refl _)
  refine (Tryd.strings_ReplaceAll s ⟨#[34]⟩ ⟨#[34, 34]⟩ m w (by omega) hm (by decide) ?_).mono ?_
  · show s.size + Lib.countB s ⟨#[34]⟩ * 2 ≤ _
    omega
  · rintro e w' ⟨rfl, hb⟩
    exact ⟨ret_string (by rw [show (⟨#[34]⟩ : ByteArray).data.toList = [34] from rfl, show (⟨#[34, 34]⟩ : ByteArray).data.toList = [34, 34] from rfl, replace_dbl]; exact mk_of_L hq), hb⟩
theorem replace1_any (s q : ByteArray) (hq : L q = hlv (L s)) (w : World) (hs : s.size ≤ 1048676) (t : Tabs w) :
    Calls Tryd.prog 46 #[.string s, .string ⟨#[34, 34]⟩, .string ⟨#[34]⟩] w fun e w' => e = .returned (.string q) ∧ Below w.heap.size w w' := by
  obtain ⟨m, hm⟩ := t.mlen
  have hc := Lib.countB_le ⟨#[34, 34]⟩ (by decide) s.size s (Nat.le_refl _)
  refine (Tryd.strings_ReplaceAll s ⟨#[34, 34]⟩ ⟨#[34]⟩ m w (by omega) hm (by decide) ?_).mono ?_
  · show s.size + Lib.countB s ⟨#[34, 34]⟩ * 1 ≤ _
    omega
  · rintro e w' ⟨rfl, hb⟩
    exact ⟨ret_string (by rw [show (⟨#[34]⟩ : ByteArray).data.toList = [34] from rfl, show (⟨#[34, 34]⟩ : ByteArray).data.toList = [34, 34] from rfl, replace_hlv]; exact mk_of_L hq), hb⟩

set_option maxHeartbeats 400000 in
theorem quote_no (s : ByteArray) (w : World) (hs : s.size ≤ maxLen) (h : textB (L s) = false) :
    Calls Tryd.prog 18 #[.string s] w fun e w' => e = .returned (.tuple #[.string ⟨#[]⟩, .int .i64 2]) ∧ w = w' := by
  go_enter Tryd.func18, Tryd.ntmps18
  go_wp2_with (go_at_call 24; refine (text_any _ _ hs).mono ?_; rintro e w' ⟨rfl, rfl⟩)
  go_ret2
  exact ⟨rfl, rfl⟩
theorem textB_le {l : List UInt8} (h : textB l = true) : l.length ≤ 200 := by
  simp [textB] at h; exact h.1
theorem ret_tup {a b : Value} {x y : ByteArray} (h : x = y) (h2 : a = b) : Ending.returned (.tuple #[.string x, a]) = .returned (.tuple #[.string y, b]) := by rw [h, h2]
set_option maxHeartbeats 400000 in
theorem quote_yes (s q : ByteArray) (hq : L q = quoteL (L s)) (w : World) (t : Tabs w) (h : textB (L s) = true) :
    Calls Tryd.prog 18 #[.string s] w fun e w' => e = .returned (.tuple #[.string q, .int .i64 0]) ∧ Below w.heap.size w w' := by
  have hl := textB_le h
  have hd := dbl_length_le (L s)
  rw [L_length] at hl hd
  have hs : s.size ≤ maxLen := by unfold maxLen; omega
  have hs2 : s.size ≤ 1048676 := by omega
  obtain ⟨d, hd2⟩ := mkL (dbl (L s))
  have hz := size_of_L hd2
  have hz2 : d.size ≤ 400 := by omega
  have HD := Lib.hid hd2
  have HQ := Lib.hid hq
  clear hz hd2 hq hd
  go_enter Tryd.func18, Tryd.ntmps18
  go_wp2_with (first | (go_at_call 24; refine (text_any _ _ hs).mono ?_; rintro e w' ⟨rfl, rfl⟩) | (go_at_call 46; refine (replace2_any _ _ HD.out _ hs2 t).mono ?_; rintro e w' ⟨rfl, hb⟩))
  go_ret2
  exact ⟨ret_tup (eq_of_L (by rw [HQ.out, L_append, L_append, HD.out]; rfl)) rfl, hb⟩

/-- What Unquote returns. -/
def optS (k : Int) : Option (List UInt8) → Value
  | some t => .tuple #[.string ⟨t.toArray⟩, .int .i64 0]
  | none => .tuple #[.string ⟨#[]⟩, .int .i64 k]
set_option maxHeartbeats 800000 in
theorem unquote_mid (s : ByteArray) (w : World) (t : Tabs w) (hs : s.size ≤ 1048676) (h2 : ¬ s.size < 2) (hf : (s[0].toNat : Int) = 34) (hg : (s[s.size - 1].toNat : Int) = 34) :
    Calls Tryd.prog 20 #[.string s] w fun e w' => e = .returned (optS 6 (unquoteL (L s))) ∧ Below w.heap.size w w' := by
  have hx : (s.extract 1 (s.size - 1)).size ≤ 1048676 := by simp; omega
  obtain ⟨q, hq⟩ := mkL (hlv (L (s.extract 1 (s.size - 1))))
  have hm : q.size ≤ maxLen := by
    have := hlv_length_le (L (s.extract 1 (s.size - 1)))
    rw [L_length] at this
    rw [size_of_L hq]
    unfold maxLen; omega
  obtain ⟨r, hr⟩ := mkL (quoteL (L q))
  have HQ := Lib.hid hq
  have HR := Lib.hid hr
  clear hq hr
  cases ht : textB (L q)
  · have HT := Lib.hid ht
    clear ht
    go_enter Tryd.func20, Tryd.ntmps20
    go_wp2_with fail
    refine (replace1_any _ _ HQ.out _ hx t).mono ?_
    rintro e w1 ⟨rfl, hb⟩
    go_wp2_with fail
    refine (quote_no _ _ hm HT.out).mono ?_
    rintro e w2 ⟨rfl, rfl⟩
    go_wp2_with fail
    go_ret2
    exact ⟨by rw [unquote_no HQ.out (.inl HT.out)]; rfl, hb⟩
  · have HT := Lib.hid ht
    clear ht
    go_enter Tryd.func20, Tryd.ntmps20
    go_wp2_with fail
    refine (replace1_any _ _ HQ.out _ hx t).mono ?_
    rintro e w1 ⟨rfl, hb⟩
    go_wp2_with fail
    refine (quote_yes _ _ HR.out _ (t.below hb) HT.out).mono ?_
    rintro e w2 ⟨rfl, hb2⟩
    go_wp2_with fail
    · have hne : (!r.toList == s.toList) = true := by assumption
      go_ret2
      refine ⟨?_, hb.trans (hb2.mono hb.size)⟩
      rw [unquote_no HQ.out (.inr ?_)]
      · rfl
      · rintro e
        rw [← HR.out] at e
        rw [eq_of_L e] at hne
        simp at hne
    · have hne : (!r.toList == s.toList) = false := by assumption
      go_ret2
      refine ⟨?_, hb.trans (hb2.mono hb.size)⟩
      have he : r.toList = s.toList := by simpa using hne
      rw [Lib.toList_data, Lib.toList_data] at he
      rw [unquote_yes HQ.out HT.out (by rw [← HR.out]; exact he)]
      exact ret_tup (eq_of_L rfl) rfl
set_option maxHeartbeats 800000 in
theorem unquote_any (s : ByteArray) (w : World) (t : Tabs w) (hs : s.size ≤ 1048676) :
    Calls Tryd.prog 20 #[.string s] w fun e w' => e = .returned (optS 6 (unquoteL (L s))) ∧ Below w.heap.size w w' := by
  by_cases h2 : s.size < 2
  · rw [unquote_short h2]
    go_enter Tryd.func20, Tryd.ntmps20
    go_wp2
    go_ret2
    exact ⟨rfl, Below.refl _ _⟩
  by_cases hf : (s[0].toNat : Int) = 34
  · by_cases hg : (s[s.size - 1].toNat : Int) = 34
    · exact unquote_mid s w t hs h2 hf hg
    · rw [unquote_last (by omega) hg]
      have hg2 : ((s[s.size - 1].toNat : Int) != 34) = true := by rw [bne_iff_ne]; exact hg
      clear hg
      go_enter Tryd.func20, Tryd.ntmps20
      go_wp2
      go_ret2
      exact ⟨rfl, Below.refl _ _⟩
  · rw [unquote_first (by omega) hf]
    have hg2 : ((s[0].toNat : Int) != 34) = true := by rw [bne_iff_ne]; exact hf
    clear hf
    go_enter Tryd.func20, Tryd.ntmps20
    go_wp2
    go_ret2
    exact ⟨rfl, Below.refl _ _⟩
end Go.Proofs.YtoclgcneclbfiaaDoor
