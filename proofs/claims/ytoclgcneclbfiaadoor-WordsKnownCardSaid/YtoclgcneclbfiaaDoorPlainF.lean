/-
  PLAIN: footages: what is read off a text; a footage's text is read back. No program in sight.
-/
import Derived.Test.YtoclgcneclbfiaaDoorPlainI
import Derived.Test.YtoclgcneclbfiaaDoorW17
import Derived.Test.YtoclgcneclbfiaaDoorW10
import Derived.Lib.CutLaws
namespace Go.Proofs.YtoclgcneclbfiaaDoor
open Go.RowKit
theorem index_no (c : UInt8) (l : List UInt8) (h : c ∉ l) : Lib.index l [c] = -1 := by
  induction l with
  | nil => rfl
  | cons b t ih =>
    simp only [List.mem_cons, not_or] at h
    have hp : ([c] : List UInt8).isPrefixOf (b :: t) = false := by simp [List.isPrefixOf, h.1]
    rw [Lib.index, hp, ih h.2]
    rfl
theorem index_at (c : UInt8) (x y : List UInt8) (h : c ∉ x) : Lib.index (x ++ c :: y) [c] = x.length := by
  induction x with
  | nil =>
    rw [List.nil_append, Lib.index]
    simp [List.isPrefixOf]
  | cons b t ih =>
    simp only [List.mem_cons, not_or] at h
    have hp : ([c] : List UInt8).isPrefixOf (b :: (t ++ c :: y)) = false := by simp [List.isPrefixOf, h.1]
    have hne : ((t.length : Int) == -1) = false := by rw [beq_eq_false_iff_ne]; omega
    rw [List.cons_append, Lib.index, hp, ih h.2]
    simp only [Bool.false_eq_true, if_false, hne]
    simp
theorem cut_miss (c : UInt8) (l : List UInt8) (h : c ∉ l) : Lib.cut l [c] = (l, [], false) := by
  unfold Lib.cut
  rw [index_no c l h, if_neg (by omega)]
theorem cut_hit (c : UInt8) (x y : List UInt8) (h : c ∉ x) : Lib.cut (x ++ c :: y) [c] = (x, y, true) := by
  unfold Lib.cut
  rw [index_at c x y h, if_pos (by omega)]
  simp
/-- The three texts of a footage: whole, top, bottom. -/
def part1 (l : List UInt8) : List UInt8 × List UInt8 := if (Lib.cut l [43]).2.2 = true then ((Lib.cut l [43]).1, (Lib.cut l [43]).2.1) else ([48], l)
def part2 (l : List UInt8) : List UInt8 × List UInt8 := ((Lib.cut l [47]).1, if (Lib.cut l [47]).2.2 = true then (Lib.cut l [47]).2.1 else [49])
def footN (a b c : Int × Int) : Option (Int × Int) := if a.2 = 0 ∧ b.2 = 0 ∧ c.2 = 0 then some (a.1 * c.1 + b.1, c.1) else none
def footR (l : List UInt8) : Option (Int × Int) :=
  footN (numR (part1 l).1 0 64) (numR (part2 (part1 l).2).1 0 64) (numR (part2 (part1 l).2).2 1 15)
theorem num_is (n lo hi : Int) (h1 : lo ≤ n) (h2 : n ≤ hi) : numR (Lib.itoa n) lo hi = (n, 0) := by
  have h := itoa_says n
  rw [num_val (by omega) h.1, h.2, if_neg (by omega)]
theorem not_in (n : Nat) (c : UInt8) (hc : digU c = false) : c ∉ Lib.itoa (n : Int) := by
  intro h
  unfold Lib.itoa at h
  rw [if_neg (by omega)] at h
  have := List.all_eq_true.1 (dec_says (n : Int).toNat).2.1 c h
  rw [hc] at this
  cases this
theorem zero_is : numR [48] 0 64 = (0, 0) := by decide
theorem one_is : numR [49] 1 15 = (1, 0) := by decide
theorem foot_back {n d : Nat} (h : ValidF n d) : footR (feetL n d) = some ((n : Int), (d : Int)) := by
  obtain ⟨h1, h2, h3, h4, _⟩ := h
  have hm : n % d + d * (n / d) = n := Nat.mod_add_div n d
  have hr : n % d < d := Nat.mod_lt n (by omega)
  have hq : n / d ≤ 64 := by
    rw [Nat.div_le_iff_le_mul_add_pred (by omega)]
    omega
  unfold feetL
  generalize n / d = q at *
  generalize n % d = r at *
  have p1 := not_in q 43 rfl
  have p2 := not_in q 47 rfl
  have p3 := not_in r 43 rfl
  have p4 := not_in r 47 rfl
  have p5 := not_in d 43 rfl
  unfold feetQ
  by_cases e1 : d = 1
  · subst e1
    rw [if_pos rfl]
    have x1 : part1 (Lib.itoa (q : Int)) = ([48], Lib.itoa (q : Int)) := by unfold part1; rw [cut_miss _ _ p1]; rfl
    have x2 : part2 (Lib.itoa (q : Int)) = (Lib.itoa (q : Int), [49]) := by unfold part2; rw [cut_miss _ _ p2]; rfl
    unfold footR
    rw [x1]
    simp only [x2]
    rw [zero_is, one_is, num_is q 0 64 (by omega) (by omega)]
    simp only [footN, and_self, if_true]
    congr 2
    omega
  · rw [if_neg e1]
    have x2 : part2 (partL r d) = (Lib.itoa (r : Int), Lib.itoa (d : Int)) := by
      unfold part2 partL
      rw [cut_hit _ _ _ p4]
      rfl
    by_cases e2 : q = 0
    · rw [if_pos e2]
      have hp : (43 : UInt8) ∉ partL r d := by
        unfold partL
        simp only [List.mem_append, List.mem_cons, not_or]
        exact ⟨p3, by decide, p5⟩
      have x1 : part1 (partL r d) = ([48], partL r d) := by unfold part1; rw [cut_miss _ _ hp]; rfl
      unfold footR
      rw [x1]
      simp only [x2]
      rw [zero_is, num_is r 0 64 (by omega) (by omega), num_is d 1 15 (by omega) (by omega)]
      simp only [footN, and_self, if_true]
      subst e2
      congr 2
      omega
    · rw [if_neg e2]
      have x1 : part1 (Lib.itoa (q : Int) ++ 43 :: partL r d) = (Lib.itoa (q : Int), partL r d) := by
        unfold part1
        rw [cut_hit _ _ _ p1]
        rfl
      unfold footR
      rw [x1]
      simp only [x2]
      rw [num_is q 0 64 (by omega) (by omega), num_is r 0 64 (by omega) (by omega), num_is d 1 15 (by omega) (by omega)]
      simp only [footN, and_self, if_true]
      congr 2
      rw [← hm, Int.natCast_add, Int.natCast_mul, Int.mul_comm, Int.add_comm]
theorem feet_short {n d : Nat} (h : ValidF n d) : (feetL n d).length ≤ 10 := by
  obtain ⟨h1, h2, h3, h4, _⟩ := h
  have hr : n % d < d := Nat.mod_lt n (by omega)
  have hq : n / d ≤ 64 := by
    rw [Nat.div_le_iff_le_mul_add_pred (by omega)]
    omega
  have two : ∀ k : Fin 65, (Lib.itoa ((k.val : Nat) : Int)).length ≤ 2 := by decide +kernel
  have t1 := two ⟨n / d, by omega⟩
  have t2 := two ⟨n % d, by omega⟩
  have t3 := two ⟨d, by omega⟩
  dsimp only at t1 t2 t3
  unfold feetL feetQ partL
  split
  · omega
  · split <;> simp only [List.length_append, List.length_cons] <;> omega
/-- What ParseFeet says: the footage of a text. -/
def footOf (l : List UInt8) : Option (Int × Int) := match footR l with
  | some p => if ValidF p.1 p.2 ∧ feetL p.1.toNat p.2.toNat = l then some p else none
  | none => none
theorem footOf_back {n d : Nat} (h : ValidF n d) : footOf (feetL n d) = some ((n : Int), (d : Int)) := by
  unfold footOf
  rw [foot_back h]
  simp only [Int.toNat_natCast]
  rw [if_pos ⟨h, trivial⟩]
theorem footOf_some {l : List UInt8} {p : Int × Int} (h : footOf l = some p) : ValidF p.1 p.2 ∧ feetL p.1.toNat p.2.toNat = l := by
  unfold footOf at h
  split at h
  · split at h
    · next hc => cases h; exact hc
    · cases h
  · cases h
theorem footOf_miss {l : List UInt8} (h : ∀ n d : Nat, ValidF n d → feetL n d ≠ l) : footOf l = none := by
  cases e : footOf l with
  | none => rfl
  | some p =>
    obtain ⟨h1, h2⟩ := footOf_some e
    have hp1 : ((p.1.toNat : Nat) : Int) = p.1 := by have := h1.2.2.1; omega
    have hp2 : ((p.2.toNat : Nat) : Int) = p.2 := by have := h1.1; omega
    exact absurd h2 (h _ _ (by rw [hp1, hp2]; exact h1))
theorem footOf_long {l : List UInt8} (h : 10 < l.length) : footOf l = none :=
  footOf_miss fun n d hv e => by have := feet_short hv; rw [e] at this; omega
theorem footOf_bad {l : List UInt8} (h : footR l = none) : footOf l = none := by unfold footOf; rw [h]
theorem footOf_form {l : List UInt8} {p : Int × Int} (h : footR l = some p) (hn : ¬ (ValidF p.1 p.2 ∧ feetL p.1.toNat p.2.toNat = l)) : footOf l = none := by unfold footOf; rw [h]; exact if_neg hn
theorem footOf_good {l : List UInt8} {p : Int × Int} (h : footR l = some p) (hn : ValidF p.1 p.2 ∧ feetL p.1.toNat p.2.toNat = l) : footOf l = some p := by unfold footOf; rw [h]; exact if_pos hn
theorem numR_ok {l : List UInt8} {lo hi a : Int} (h : numR l lo hi = (a, 0)) : lo ≤ a ∧ a ≤ hi := by
  unfold numR at h
  split at h
  · cases h
  · split at h
    · cases h
    · split at h
      · cases h
      · cases h; omega
theorem cut_le (l p : List UInt8) : (Lib.cut l p).1.length ≤ l.length ∧ (Lib.cut l p).2.1.length ≤ l.length := by
  unfold Lib.cut
  split <;> simp <;> omega
end Go.Proofs.YtoclgcneclbfiaaDoor
