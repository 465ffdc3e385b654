/-
  PLAIN: a line read field by field, as the reference reads it, is a line read piece by piece; a line written out of fields is read back, and a line that is read is written back. No program in sight.
-/
import Derived.Test.YtoclgcneclbfiaaDoorPlainR
namespace Go.Proofs.YtoclgcneclbfiaaDoor
open Go.RowKit
/-- How far a quotation goes whose first mark has been read. -/
def cloE : List UInt8 → Nat
  | [] => 0
  | [_] => 1
  | c :: d :: t => if c = 34 then (if d = 34 then 2 + cloE t else 1) else 1 + cloE (d :: t)
/-- Has it an end? -/
def shut : List UInt8 → Bool
  | [] => false
  | [c] => decide (c = 34)
  | c :: d :: t => if c = 34 then (if d = 34 then shut t else true) else shut (d :: t)
/-- How far a bare field goes. -/
def bareE : List UInt8 → Nat
  | [] => 0
  | c :: t => if c = 32 then 0 else 1 + bareE t
/-- How far a field goes. -/
def endN : List UInt8 → Nat
  | [] => 0
  | c :: t => if c = 34 then 1 + cloE t else bareE (c :: t)
theorem cloE_other {c : UInt8} (h : ¬ c = 34) (t : List UInt8) : cloE (c :: t) = 1 + cloE t := by
  cases t with
  | nil => rfl
  | cons d u => rw [cloE, if_neg h]
theorem shut_other {c : UInt8} (h : ¬ c = 34) (t : List UInt8) : shut (c :: t) = shut t := by
  cases t with
  | nil => simp [shut, h]
  | cons d u => rw [shut, if_neg h]
theorem cloE_two (t : List UInt8) : cloE (34 :: 34 :: t) = 2 + cloE t := by rw [cloE, if_pos rfl, if_pos rfl]
theorem shut_two (t : List UInt8) : shut (34 :: 34 :: t) = shut t := by rw [shut, if_pos rfl, if_pos rfl]
theorem cloE_stop {d : UInt8} (h : ¬ d = 34) (t : List UInt8) : cloE (34 :: d :: t) = 1 := by rw [cloE, if_pos rfl, if_neg h]
theorem shut_stop {d : UInt8} (h : ¬ d = 34) (t : List UInt8) : shut (34 :: d :: t) = true := by rw [shut, if_pos rfl, if_neg h]
theorem cloE_le : ∀ l : List UInt8, cloE l ≤ l.length
  | [] => Nat.le_refl _
  | [_] => Nat.le_refl _
  | c :: d :: t => by
    have h1 := cloE_le t
    have h2 := cloE_le (d :: t)
    rw [cloE]
    split
    · split <;> simp only [List.length_cons] at * <;> omega
    · simp only [List.length_cons] at *; omega
theorem bareE_le : ∀ l : List UInt8, bareE l ≤ l.length
  | [] => Nat.le_refl _
  | c :: t => by
    have := bareE_le t
    rw [bareE]
    split <;> simp only [List.length_cons] <;> omega
theorem endN_le (l : List UInt8) : endN l ≤ l.length := by
  cases l with
  | nil => exact Nat.le_refl _
  | cons c t =>
    rw [endN]
    split
    · have := cloE_le t; simp only [List.length_cons]; omega
    · exact bareE_le _
/-- The scan within a quotation. -/
theorem scan_kin : ∀ (l : List UInt8) (pos : Nat), scan true pos l = if shut l = true then scan false (pos + cloE l) (l.drop (cloE l)) else (-1, (scan true pos l).2)
  | [], pos => by simp [shut, scan]
  | [c], pos => by
    by_cases h : c = 34
    · subst h; simp [shut, scan, cloE]
    · simp [shut, scan, h]
  | c :: d :: t, pos => by
    by_cases h : c = 34
    · subst h
      by_cases e : d = 34
      · subst e
        rw [shut_two, cloE_two]
        have ih := scan_kin t (pos + 1 + 1)
        have e1 : scan true pos (34 :: 34 :: t) = scan true (pos + 1 + 1) t := by rw [scan, if_pos rfl, scan, if_pos rfl]; rfl
        have e2 : List.drop (2 + cloE t) (34 :: 34 :: t) = t.drop (cloE t) := by rw [Nat.add_comm]; rfl
        rw [e1, e2, show pos + (2 + cloE t) = pos + 1 + 1 + cloE t by omega]
        exact ih
      · rw [shut_stop e, if_pos rfl, cloE_stop e, scan, if_pos rfl]
        rfl
    · rw [shut_other h, cloE_other h]
      have ih := scan_kin (d :: t) (pos + 1)
      have e1 : scan true pos (c :: d :: t) = scan true (pos + 1) (d :: t) := by rw [scan, if_neg h, if_neg (by simp)]
      have e2 : List.drop (1 + cloE (d :: t)) (c :: d :: t) = (d :: t).drop (cloE (d :: t)) := by rw [Nat.add_comm]; rfl
      rw [e1, e2, show pos + (1 + cloE (d :: t)) = pos + 1 + cloE (d :: t) by omega]
      exact ih
/-- What follows the end of a quotation is no mark. -/
theorem after_shut : ∀ (l : List UInt8), shut l = true → ∀ r, l.drop (cloE l) ≠ 34 :: r
  | [], h, r => by cases h
  | [c], h, r => by simp [cloE]
  | c :: d :: t, h, r => by
    by_cases h1 : c = 34
    · subst h1
      by_cases e : d = 34
      · subst e
        rw [shut_two] at h
        have e2 : List.drop (cloE (34 :: 34 :: t)) (34 :: 34 :: t) = t.drop (cloE t) := by rw [cloE_two, Nat.add_comm]; rfl
        rw [e2]
        exact after_shut t h r
      · rw [cloE_stop e]
        intro x
        simp at x
        exact e x.1
    · rw [shut_other h1] at h
      have e2 : List.drop (cloE (c :: d :: t)) (c :: d :: t) = (d :: t).drop (cloE (d :: t)) := by rw [cloE_other h1, Nat.add_comm]; rfl
      rw [e2]
      exact after_shut (d :: t) h r
/-- Doubled marks are gone through. -/
theorem clo_dbl : ∀ (t r : List UInt8), cloE (dbl t ++ r) = (dbl t).length + cloE r ∧ shut (dbl t ++ r) = shut r
  | [], r => by simp [dbl]
  | c :: t, r => by
    obtain ⟨i1, i2⟩ := clo_dbl t r
    by_cases h : c = 34
    · subst h
      rw [dbl_q, List.cons_append, List.cons_append, cloE_two, shut_two, i1, i2]
      simp only [List.length_cons]
      exact ⟨by omega, trivial⟩
    · rw [dbl_n h, List.cons_append, cloE_other h, shut_other h, i1, i2]
      simp only [List.length_cons]
      exact ⟨by omega, trivial⟩
theorem clo_mark {r : List UInt8} (h : ∀ u, r ≠ 34 :: u) : cloE (34 :: r) = 1 ∧ shut (34 :: r) = true := by
  cases r with
  | nil => exact ⟨rfl, rfl⟩
  | cons d u =>
    have hd : ¬ d = 34 := fun e => h u (by rw [e])
    exact ⟨cloE_stop hd u, shut_stop hd u⟩
theorem mid_quote (t : List UInt8) : mid (quoteL t) = dbl t := by
  unfold mid quoteL
  simp
theorem unquote_quote {t : List UInt8} (h : textB t = true) : unquoteL (quoteL t) = some t := by
  unfold unquoteL
  rw [mid_quote, hlv_dbl, if_pos ⟨h, rfl⟩]
theorem unquote_is {l t : List UInt8} (h : unquoteL l = some t) : quoteL t = l ∧ textB t = true := by
  unfold unquoteL at h
  split at h
  · next hc => cases h; exact ⟨hc.2, hc.1⟩
  · cases h
/-- A quotation ends where it ends. -/
theorem unquote_shut {l t : List UInt8} (h : unquoteL (34 :: l) = some t) : cloE l = l.length ∧ shut l = true := by
  obtain ⟨hq, _⟩ := unquote_is h
  have hl : l = dbl t ++ [34] := by
    unfold quoteL at hq
    exact (List.cons.inj hq).2.symm
  obtain ⟨e1, e2⟩ := clo_dbl t [34]
  rw [hl, e1, e2, List.length_append]
  exact ⟨rfl, rfl⟩
theorem startsQ_cons (c : UInt8) (t : List UInt8) : startsQ (c :: t) = decide (c = 34) := by
  unfold startsQ
  simp only [List.isPrefixOf, Bool.and_true]
  rw [Bool.eq_iff_iff, beq_iff_eq, decide_eq_true_eq, eq_comm]
theorem fieldOf_nil : fieldOf [] = none := by decide
theorem pieces_nil : fieldsOf (pieces []) = none := by decide
/-- What is read of a line that may be empty. -/
def DS (l : List UInt8) : Option (List (Bool × List UInt8)) := if l = [] then some [] else fieldsOf (pieces l)
theorem piecesF_more2 (f : Nat) (l : List UInt8) (hf : l.length < f) : piecesF f l = pieces l := by
  suffices ∀ (f g : Nat) (l : List UInt8), l.length < f → l.length < g → piecesF f l = piecesF g l from this f _ l hf (Nat.lt_succ_self _)
  intro f
  induction f with
  | zero => intro g l h; omega
  | succ f ih =>
    intro g l h1 h2
    obtain ⟨g, rfl⟩ : ∃ k, g = k + 1 := ⟨g - 1, by omega⟩
    rw [piecesF, piecesF]
    split
    · rfl
    · next hs =>
      rcases scan_range l false 0 with h3 | ⟨h3, h4, _⟩
      · omega
      · rw [ih g _ (by simp only [List.length_drop]; omega) (by simp only [List.length_drop]; omega)]
theorem pieces_last {l : List UInt8} (h : (scan false 0 l).1 < 0) : pieces l = [l] := piecesF_last h
theorem pieces_more {l : List UInt8} {k : Nat} (h : (scan false 0 l).1 = k) : pieces l = l.take k :: pieces (l.drop (k + 1)) := by
  unfold pieces
  rw [piecesF_more (by omega), h, Int.toNat_natCast]
  congr 1
  have hr : (k : Int) < l.length := by
    rcases scan_range l false 0 with h3 | ⟨h3, h4, _⟩
    · omega
    · omega
  exact piecesF_more2 _ _ (by simp only [List.length_drop]; omega)
theorem fieldsOf_cons (p : List UInt8) (ps : List (List UInt8)) : fieldsOf (p :: ps) = (fieldOf p).bind fun f => (fieldsOf ps).map (f :: ·) := by
  unfold fieldsOf
  rw [List.mapM_cons]
  cases fieldOf p <;> simp
  cases ps.mapM fieldOf <;> rfl
theorem fieldsOf_one (p : List UInt8) : fieldsOf [p] = (fieldOf p).map fun f => [f] := by
  rw [fieldsOf_cons]
  cases fieldOf p <;> rfl
/-- The scan over a bare field. -/
theorem scan_bare : ∀ (l : List UInt8) (pos : Nat), (34 : UInt8) ∉ l.take (bareE l) → scan false pos l = if bareE l < l.length then (((pos + bareE l : Nat) : Int), false) else (-1, false)
  | [], pos, _ => rfl
  | c :: t, pos, h => by
    by_cases h2 : c = 32
    · subst h2
      rw [bareE, if_pos rfl, scan, if_neg (by decide), if_pos ⟨rfl, rfl⟩, if_pos (by simp)]
      rfl
    · rw [bareE, if_neg h2] at h ⊢
      rw [Nat.add_comm 1, List.take_succ_cons, List.mem_cons, not_or] at h
      have ih := scan_bare t (pos + 1) h.2
      rw [scan, if_neg (fun e => h.1 e.symm), if_neg (fun e => h2 e.1), ih]
      simp only [List.length_cons]
      by_cases hl : bareE t < t.length
      · rw [if_pos hl, if_pos (by omega)]
        congr 1
        omega
      · rw [if_neg hl, if_neg (by omega)]
/-- The first blank is a blank. -/
theorem bareE_at : ∀ (l : List UInt8), bareE l < l.length → l[bareE l]? = some 32
  | [], h => by simp at h
  | c :: t, h => by
    by_cases h2 : c = 32
    · subst h2
      rw [bareE, if_pos rfl]
      rfl
    · rw [bareE, if_neg h2] at h ⊢
      rw [Nat.add_comm 1, List.getElem?_cons_succ]
      exact bareE_at t (by simp only [List.length_cons] at h; omega)
/-- A piece goes at least to the first blank. -/
theorem scan_past : ∀ (l : List UInt8) (pos : Nat), (scan false pos l).1 = -1 ∨ ((pos + bareE l : Nat) : Int) ≤ (scan false pos l).1
  | [], pos => .inl rfl
  | c :: t, pos => by
    by_cases h2 : c = 32
    · subst h2
      rw [bareE, if_pos rfl]
      rcases scan_range (32 :: t) false pos with h | h
      · exact .inl h
      · exact .inr h.1
    · rw [bareE, if_neg h2]
      by_cases h1 : c = 34
      · subst h1
        rw [scan, if_pos rfl]
        have key : ∀ (l : List UInt8) (b : Bool) (pos : Nat), (scan b pos l).1 = -1 ∨ ((pos + bareE l : Nat) : Int) ≤ (scan b pos l).1 := by
          intro l
          induction l with
          | nil => intro b pos; exact .inl rfl
          | cons d u ih =>
            intro b pos
            by_cases h3 : d = 32
            · subst h3
              rw [bareE, if_pos rfl]
              rcases scan_range (32 :: u) b pos with h | h
              · exact .inl h
              · exact .inr h.1
            · rw [bareE, if_neg h3]
              by_cases h4 : d = 34
              · rw [scan, if_pos h4]
                have := ih (!b) (pos + 1)
                omega
              · rw [scan, if_neg h4, if_neg (fun e => h3 e.1)]
                have := ih b (pos + 1)
                omega
        have := key t (!false) (pos + 1)
        omega
      · rw [scan, if_neg h1, if_neg (fun e => h2 e.1)]
        have := scan_past t (pos + 1)
        omega
end Go.Proofs.YtoclgcneclbfiaaDoor
