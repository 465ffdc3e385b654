/-
  PLAIN: whole numbers: what they spell. No program in sight.
-/
import Derived.Test.YtoclgcneclbfiaaDoorTabs
import Derived.Lib.ParseIntBCases
namespace Go.Proofs.YtoclgcneclbfiaaDoor
open Go.RowKit

def digU (c : UInt8) : Bool := digB (c.toNat : Int)
/-- What digits spell behind a number. -/
def stp (a : Nat) (c : UInt8) : Nat := 10 * a + (c.toNat - 48)
def dv (a : Nat) (l : List UInt8) : Nat := l.foldl stp a
def signOf : List UInt8 → Bool × List UInt8
  | 45 :: t => (true, t)
  | l => (false, l)
def wholeT (neg : Bool) (t : List UInt8) : Bool := t.all digU && !t.isEmpty && !(decide (t.head? = some 48) && (decide (1 < t.length) || neg))
def wholeB (l : List UInt8) : Bool := wholeT (signOf l).1 (signOf l).2
def valL (l : List UInt8) : Int := if (signOf l).1 then -(dv 0 (signOf l).2 : Int) else (dv 0 (signOf l).2 : Int)
def numR (l : List UInt8) (lo hi : Int) : Int × Int :=
  if hi < lo then (0, 2) else if wholeB l = false then (0, 6) else if valL l < lo ∨ hi < valL l then (0, 7) else (valL l, 0)
theorem digU_iff (c : UInt8) : digU c = true ↔ 48 ≤ c.toNat ∧ c.toNat ≤ 57 := by
  unfold digU digB
  simp only [Bool.and_eq_true, decide_eq_true_eq]
  omega
theorem dv_cons (a : Nat) (c : UInt8) (t : List UInt8) : dv a (c :: t) = dv (10 * a + (c.toNat - 48)) t := by
  unfold dv
  rw [List.foldl_cons, stp]
theorem dv_nil (a : Nat) : dv a [] = a := rfl
theorem dv_append (x y : List UInt8) (a : Nat) : dv a (x ++ y) = dv (dv a x) y := by
  induction x generalizing a with
  | nil => rfl
  | cons c t ih => rw [List.cons_append, dv_cons, dv_cons, ih]
theorem dv_ge (t : List UInt8) (a : Nat) : a * 10 ^ t.length ≤ dv a t := by
  induction t generalizing a with
  | nil =>
    rw [List.length_nil, Nat.pow_zero, Nat.mul_one, dv_nil]
    exact Nat.le_refl _
  | cons c t ih =>
    rw [dv_cons, List.length_cons, Nat.pow_succ]
    refine Nat.le_trans ?_ (ih _)
    rw [Nat.mul_comm (10 ^ t.length) 10, ← Nat.mul_assoc, Nat.mul_comm a 10]
    exact Nat.mul_le_mul_right _ (Nat.le_add_right _ _)
theorem dv_ge' (t : List UInt8) (a : Nat) : a ≤ dv a t := Nat.le_trans (Nat.le_mul_of_pos_right _ (Nat.pow_pos (by decide))) (dv_ge t a)
theorem dec_big (u : Nat) (h : 10 ≤ u) : Lib.decDigits u = Lib.decDigits (u / 10) ++ [UInt8.ofNat (48 + u % 10)] := by
  rw [Lib.decDigits, dif_neg (by omega)]
theorem digit_back {c : UInt8} (h : digU c = true) : UInt8.ofNat (48 + (c.toNat - 48)) = c := by
  have := (digU_iff c).1 h
  apply UInt8.toNat_inj.1
  rw [UInt8.toNat_ofNat']
  omega
theorem dec_dv : ∀ (t : List UInt8) (a : Nat), 1 ≤ a → t.all digU = true → Lib.decDigits (dv a t) = Lib.decDigits a ++ t
  | [], a, _, _ => by simp [dv_nil]
  | c :: t, a, h, ht => by
    simp only [List.all_cons, Bool.and_eq_true] at ht
    have hd := (digU_iff c).1 ht.1
    have e1 : (10 * a + (c.toNat - 48)) / 10 = a := by omega
    have e2 : (10 * a + (c.toNat - 48)) % 10 = c.toNat - 48 := by omega
    rw [dv_cons, dec_dv t _ (by omega) ht.2, dec_big _ (by omega), e1, e2, digit_back ht.1]
    simp
theorem dec_whole {t : List UInt8} (h : wholeT false t = true) : Lib.decDigits (dv 0 t) = t := by
  unfold wholeT at h
  match t, h with
  | [], h => simp at h
  | c :: r, h =>
    simp only [List.all_cons, Bool.and_eq_true, List.isEmpty_cons, Bool.not_false, List.head?_cons, Option.some.injEq, List.length_cons, Bool.not_eq_true', Bool.or_false, Bool.and_eq_false_iff, decide_eq_false_iff_not] at h
    have hd := (digU_iff c).1 h.1.1.1
    have hc : c.toNat - 48 < 10 := by omega
    rw [dv_cons, Nat.mul_zero, Nat.zero_add]
    by_cases h48 : c = 48
    · have hr : r = [] := by
        rcases h.2 with h2 | h2
        · exact absurd h48 h2
        · exact List.length_eq_zero_iff.1 (by omega)
      rw [hr, dv_nil, Lib.decDigits_one hc, digit_back h.1.1.1]
    · have h1 : 1 ≤ c.toNat - 48 := by
        have : c.toNat ≠ 48 := fun e => h48 (UInt8.toNat_inj.1 e)
        omega
      rw [dec_dv r _ h1 h.1.1.2, Lib.decDigits_one hc, digit_back h.1.1.1]
      rfl
theorem digit_dec {u : Nat} (h : u < 10) : digU (UInt8.ofNat (48 + u)) = true ∧ (UInt8.ofNat (48 + u)).toNat = 48 + u := by
  have e : (UInt8.ofNat (48 + u)).toNat = 48 + u := by
    rw [UInt8.toNat_ofNat']
    omega
  exact ⟨(digU_iff _).2 (by omega), e⟩
theorem dec_says (u : Nat) : dv 0 (Lib.decDigits u) = u ∧ (Lib.decDigits u).all digU = true ∧ (Lib.decDigits u) ≠ [] ∧ ((Lib.decDigits u).head? = some 48 → u = 0) := by
  by_cases h : u < 10
  · have hd := digit_dec h
    rw [Lib.decDigits_one h]
    refine ⟨?_, by simpa using hd.1, by simp, ?_⟩
    · rw [dv_cons, dv_nil, hd.2]
      omega
    · intro e
      have e2 := Option.some.inj e
      have := congrArg UInt8.toNat e2
      rw [hd.2] at this
      have e3 : (48 : UInt8).toNat = 48 := rfl
      omega
  · obtain ⟨i1, i2, i3, i4⟩ := dec_says (u / 10)
    have hd := digit_dec (u := u % 10) (by omega)
    rw [dec_big u (by omega)]
    have hh : (Lib.decDigits (u / 10) ++ [UInt8.ofNat (48 + u % 10)]).head? = (Lib.decDigits (u / 10)).head? := by
      cases hx : Lib.decDigits (u / 10) with
      | nil => exact absurd hx i3
      | cons a b => rfl
    refine ⟨?_, by rw [List.all_append, i2, List.all_cons, hd.1]; rfl, by simp, ?_⟩
    · rw [dv_append, i1, dv_cons, dv_nil, hd.2]
      omega
    · intro e
      rw [hh] at e
      have := i4 e
      omega
termination_by u
decreasing_by omega
theorem dec_wholeT (u : Nat) (neg : Bool) (h : neg = true → u ≠ 0) : wholeT neg (Lib.decDigits u) = true := by
  obtain ⟨_, i2, i3, i4⟩ := dec_says u
  unfold wholeT
  rw [i2]
  have e3 : (Lib.decDigits u).isEmpty = false := by simpa using i3
  rw [e3]
  by_cases hh : (Lib.decDigits u).head? = some 48
  · have h0 := i4 hh
    subst h0
    have hn : neg = false := by cases neg <;> simp_all
    have hl : (Lib.decDigits 0).length = 1 := by rw [Lib.decDigits_one (by decide)]; rfl
    simp [hn, hl]
  · simp [hh]
theorem dec_sign (u : Nat) : signOf (Lib.decDigits u) = (false, Lib.decDigits u) := by
  obtain ⟨_, i2, i3, _⟩ := dec_says u
  cases h : Lib.decDigits u with
  | nil => exact absurd h i3
  | cons c t =>
    unfold signOf
    split
    · next heq =>
      rw [h] at i2
      cases heq
      simp [digU, digB] at i2
    · rfl
theorem itoa_says (n : Int) : wholeB (Lib.itoa n) = true ∧ valL (Lib.itoa n) = n := by
  unfold Lib.itoa
  by_cases h : n < 0
  · rw [if_pos h]
    have e : signOf (45 :: Lib.decDigits n.natAbs) = (true, Lib.decDigits n.natAbs) := rfl
    unfold wholeB valL
    rw [e]
    refine ⟨dec_wholeT _ true (fun _ => by omega), ?_⟩
    simp only [if_true, (dec_says n.natAbs).1]
    omega
  · rw [if_neg h]
    unfold wholeB valL
    rw [dec_sign]
    refine ⟨dec_wholeT _ false (fun e => by cases e), ?_⟩
    simp only [(dec_says _).1]
    simp
    omega
theorem whole_back {l : List UInt8} (h : wholeB l = true) : Lib.itoa (valL l) = l := by
  unfold wholeB at h
  have hs : signOf l = (true, l.drop 1) ∧ l = 45 :: l.drop 1 ∨ signOf l = (false, l) := by
    unfold signOf
    split
    · exact .inl ⟨rfl, rfl⟩
    · exact .inr rfl
  rcases hs with ⟨e, hl⟩ | e
  · rw [e] at h
    unfold valL
    rw [e]
    have h2 : wholeT false (l.drop 1) = true := by
      unfold wholeT at h ⊢
      simp only [Bool.and_eq_true] at h ⊢
      refine ⟨h.1, ?_⟩
      have := h.2
      simp at this ⊢
      exact .inl this
    have hb := dec_whole h2
    have hpos : 1 ≤ dv 0 (l.drop 1) := by
      rcases Nat.eq_zero_or_pos (dv 0 (l.drop 1)) with h0 | h0
      · rw [h0, Lib.decDigits_one (by decide)] at hb
        rw [← hb] at h
        simp [wholeT, digU, digB] at h
      · exact h0
    simp only [if_true]
    unfold Lib.itoa
    rw [if_pos (by omega), show (-(dv 0 (l.drop 1) : Int)).natAbs = dv 0 (l.drop 1) by omega, hb]
    exact hl.symm
  · rw [e] at h
    unfold valL
    rw [e]
    simp only [Bool.false_eq_true, if_false]
    unfold Lib.itoa
    rw [if_neg (by omega)]
    exact dec_whole h
end Go.Proofs.YtoclgcneclbfiaaDoor
