/-
  PLAIN: quotations: what strings.ReplaceAll does with quotation marks, by recursion; the reference's reading of a quotation; that both are one. No program in sight.
-/
import Derived.Test.YtoclgcneclbfiaaDoorPlain
import Derived.Lib.Replace
import Derived.Lib.CountLaws
namespace Go.Proofs.YtoclgcneclbfiaaDoor
open Go.RowKit

/-- All instances replaced. -/
def rep (old new s : List UInt8) : List UInt8 := Lib.replaceK old new (Lib.count s old) s
theorem replaceAll_eq (s old new : List UInt8) (h : (old == new) = false) : Lib.replaceAll s old new = rep old new s := by
  unfold Lib.replaceAll Lib.replace rep
  rw [if_neg (by simp [h])]
  simp [Lib.replaceNum]
theorem rep_nil (c : UInt8) (old new : List UInt8) : rep (c :: old) new [] = [] := by
  unfold rep
  rw [Lib.count_miss (by simp [Lib.index])]
  rfl
theorem rep_pre (c : UInt8) (old new s : List UInt8) (h : (c :: old).isPrefixOf s = true) : rep (c :: old) new s = new ++ rep (c :: old) new (s.drop (old.length + 1)) := by
  have hi : Lib.index s (c :: old) = ((0 : Nat) : Int) := by
    cases s with
    | nil => simp at h
    | cons b l => unfold Lib.index; rw [if_pos h]; rfl
  unfold rep
  rw [Lib.count_hit (by simp) hi, Nat.add_comm 1, Lib.replaceK_hit _ _ _ _ 0 hi]
  simp
theorem rep_cons (c : UInt8) (old new : List UInt8) (b : UInt8) (l : List UInt8) (h : (c :: old).isPrefixOf (b :: l) = false) : rep (c :: old) new (b :: l) = b :: rep (c :: old) new l := by
  have hi : Lib.index (b :: l) (c :: old) = if Lib.index l (c :: old) == -1 then -1 else Lib.index l (c :: old) + 1 := by
    rw [Lib.index, if_neg (by rw [h]; simp)]
  by_cases hm : Lib.index l (c :: old) = -1
  · unfold rep
    rw [Lib.count_miss (by rw [hi, hm]; rfl), Lib.count_miss hm]
    rfl
  · have hg := Lib.index_ge l (c :: old)
    obtain ⟨i, hl⟩ : ∃ i : Nat, Lib.index l (c :: old) = i := ⟨(Lib.index l (c :: old)).toNat, by omega⟩
    have hb : Lib.index (b :: l) (c :: old) = ((i + 1 : Nat) : Int) := by
      rw [hi, hl, if_neg (by simp)]; omega
    have e : (b :: l).drop (i + 1 + (c :: old).length) = l.drop (i + (c :: old).length) := by
      rw [show i + 1 + (c :: old).length = (i + (c :: old).length) + 1 by omega, List.drop_succ_cons]
    unfold rep
    rw [Lib.count_hit (by simp) hb, Lib.count_hit (by simp) hl, e, Nat.add_comm 1, Lib.replaceK_hit _ _ _ _ _ hb, Lib.replaceK_hit _ _ _ _ _ hl, e]
    simp

/-- Each quotation mark twice. -/
def dbl : List UInt8 → List UInt8
  | [] => []
  | c :: t => if c = 34 then 34 :: 34 :: dbl t else c :: dbl t
theorem rep_dbl : ∀ l : List UInt8, rep [34] [34, 34] l = dbl l
  | [] => rep_nil _ _ _
  | c :: t => by
    by_cases h : c = 34
    · rw [rep_pre _ _ _ _ (by simp [h, List.isPrefixOf]), dbl, if_pos h]
      simp [rep_dbl t]
    · rw [rep_cons _ _ _ _ _ (by simp [List.isPrefixOf]; exact fun e => h e.symm), dbl, if_neg h, rep_dbl t]
/-- Two quotation marks become one. -/
def hlv : List UInt8 → List UInt8
  | [] => []
  | [c] => [c]
  | c :: d :: t => if c = 34 ∧ d = 34 then 34 :: hlv t else c :: hlv (d :: t)
theorem rep_hlv : ∀ l : List UInt8, rep [34, 34] [34] l = hlv l
  | [] => rep_nil _ _ _
  | [c] => by
    rw [rep_cons _ _ _ _ _ (by simp [List.isPrefixOf]), rep_nil]; rfl
  | c :: d :: t => by
    by_cases h : c = 34 ∧ d = 34
    · rw [rep_pre _ _ _ _ (by simp [h.1, h.2, List.isPrefixOf]), hlv, if_pos h]
      simp [rep_hlv t]
    · rw [rep_cons _ _ _ _ _ (by
        simp only [List.isPrefixOf, Bool.and_true, Bool.and_eq_false_iff, beq_eq_false_iff_ne]
        by_cases e : c = 34
        · exact .inr fun e2 => h ⟨e, e2.symm⟩
        · exact .inl fun e2 => e e2.symm), hlv, if_neg h, rep_hlv (d :: t)]
theorem replace_dbl (l : List UInt8) : Lib.replaceAll l [34] [34, 34] = dbl l := by rw [replaceAll_eq _ _ _ (by decide), rep_dbl]
theorem replace_hlv (l : List UInt8) : Lib.replaceAll l [34, 34] [34] = hlv l := by rw [replaceAll_eq _ _ _ (by decide), rep_hlv]

/-- The reference's reading of what stands between the outer marks. -/
def unq : List UInt8 → Option (List UInt8)
  | [] => some []
  | [c] => if c = 34 then none else some [c]
  | c :: d :: t => if c = 34 then (if d = 34 then (unq t).map (34 :: ·) else none) else (unq (d :: t)).map (c :: ·)
theorem dbl_q (t : List UInt8) : dbl (34 :: t) = 34 :: 34 :: dbl t := by rw [dbl, if_pos rfl]
theorem dbl_n {c : UInt8} (h : ¬ c = 34) (t : List UInt8) : dbl (c :: t) = c :: dbl t := by rw [dbl, if_neg h]
theorem hlv_q (t : List UInt8) : hlv (34 :: 34 :: t) = 34 :: hlv t := by rw [hlv, if_pos ⟨rfl, rfl⟩]
theorem hlv_n {c d : UInt8} (h : ¬ (c = 34 ∧ d = 34)) (t : List UInt8) : hlv (c :: d :: t) = c :: hlv (d :: t) := by rw [hlv, if_neg h]
theorem unq_hlv : ∀ l : List UInt8, unq l = if dbl (hlv l) = l then some (hlv l) else none
  | [] => by simp [unq, hlv, dbl]
  | [c] => by by_cases h : c = 34 <;> simp [unq, hlv, dbl, h]
  | c :: d :: t => by
    by_cases h : c = 34
    · by_cases e : d = 34
      · subst h; subst e
        rw [unq, if_pos rfl, if_pos rfl, unq_hlv t, hlv_q, dbl_q]
        by_cases g : dbl (hlv t) = t <;> simp [g]
      · subst h
        rw [unq, if_pos rfl, if_neg e, hlv_n (fun x => e x.2), dbl_q, if_neg]
        intro x
        simp at x
        exact e x.1.symm
    · rw [unq, if_neg h, unq_hlv (d :: t), hlv_n (fun x => h x.1), dbl_n h]
      by_cases g : dbl (hlv (d :: t)) = d :: t <;> simp [g]
theorem hlv_dbl : ∀ l : List UInt8, hlv (dbl l) = l
  | [] => rfl
  | c :: t => by
    by_cases h : c = 34
    · rw [dbl, if_pos h, hlv, if_pos ⟨rfl, rfl⟩, hlv_dbl t, h]
    · rw [dbl, if_neg h]
      have ih := hlv_dbl t
      cases hd : dbl t with
      | nil => rw [hd] at ih; rw [hlv]; rw [← ih]; rfl
      | cons d u => rw [hlv, if_neg (fun x => h x.1), ← hd, ih]
theorem dbl_length_le : ∀ l : List UInt8, (dbl l).length ≤ 2 * l.length
  | [] => by simp [dbl]
  | c :: t => by
    have := dbl_length_le t
    by_cases h : c = 34 <;> simp [dbl, h] <;> omega
theorem hlv_length_le : ∀ l : List UInt8, (hlv l).length ≤ l.length
  | [] => by simp [hlv]
  | [c] => by simp [hlv]
  | c :: d :: t => by
    have h1 := hlv_length_le t
    have h2 := hlv_length_le (d :: t)
    by_cases h : c = 34 ∧ d = 34 <;> simp [hlv, h] <;> simp at h2 <;> omega
/-- The quotation of a text; what a quotation says. -/
def quoteL (l : List UInt8) : List UInt8 := 34 :: dbl l ++ [34]
def mid (l : List UInt8) : List UInt8 := (l.drop 1).take (l.length - 2)
def unquoteL (l : List UInt8) : Option (List UInt8) :=
  if textB (hlv (mid l)) = true ∧ quoteL (hlv (mid l)) = l then some (hlv (mid l)) else none
theorem mid_extract (s : ByteArray) : L (s.extract 1 (s.size - 1)) = mid (L s) := by
  rw [L_extract, mid, L_length, show s.size - 1 - 1 = s.size - 2 by omega]
theorem unquote_yes {s q : ByteArray} (hq : L q = hlv (L (s.extract 1 (s.size - 1)))) (ht : textB (L q) = true) (he : quoteL (L q) = L s) : unquoteL (L s) = some (L q) := by
  rw [mid_extract] at hq
  unfold unquoteL
  rw [← hq, if_pos ⟨ht, he⟩]
theorem unquote_no {s q : ByteArray} (hq : L q = hlv (L (s.extract 1 (s.size - 1)))) (h : textB (L q) = false ∨ quoteL (L q) ≠ L s) : unquoteL (L s) = none := by
  rw [mid_extract] at hq
  unfold unquoteL
  rw [← hq, if_neg]
  rintro ⟨a, b⟩
  rcases h with h | h
  · rw [h] at a; cases a
  · exact h b
theorem unquote_short {s : ByteArray} (h : s.size < 2) : unquoteL (L s) = none := by
  unfold unquoteL
  rw [if_neg]
  rintro ⟨_, b⟩
  have := congrArg List.length b
  rw [L_length] at this
  simp [quoteL] at this
  omega
theorem unquote_first {s : ByteArray} (h : 0 < s.size) (hf : ¬ (s[0].toNat : Int) = 34) : unquoteL (L s) = none := by
  unfold unquoteL
  rw [if_neg]
  rintro ⟨_, b⟩
  have e := L_get s 0 h
  have h0 : (L s)[0]? = some 34 := by rw [← b]; rfl
  rw [List.getElem?_eq_some_iff] at h0
  have : (L s)[0]'(by rw [L_length]; exact h) = 34 := h0.2
  rw [e] at this
  rw [this] at hf
  exact hf rfl
theorem unquote_last {s : ByteArray} (h : 0 < s.size) (hf : ¬ (s[s.size - 1].toNat : Int) = 34) : unquoteL (L s) = none := by
  unfold unquoteL
  rw [if_neg]
  rintro ⟨_, b⟩
  have e := L_get s (s.size - 1) (by omega)
  have : (L s)[s.size - 1]'(by rw [L_length]; omega) = 34 := by
    have hl : s.size - 1 = (L s).length - 1 := by rw [L_length]
    simp only [hl]
    have : (L s)[(L s).length - 1]? = some 34 := by rw [← List.getLast?_eq_getElem?, ← b, quoteL, List.getLast?_append]; rfl
    rw [List.getElem?_eq_some_iff] at this
    exact this.2
  rw [e] at this
  rw [this] at hf
  exact hf rfl
end Go.Proofs.YtoclgcneclbfiaaDoor
