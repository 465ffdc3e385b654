/-
  PLAIN: lines: what strings.Split at a newline gives is what the reference collects. No program in sight.
-/
import Derived.Test.YtoclgcneclbfiaaDoorTabs
import Derived.Lib.SplitLaws
namespace Go.Proofs.YtoclgcneclbfiaaDoor
open Go.RowKit

/-- The pieces between newlines. -/
def spl : List UInt8 → List (List UInt8)
  | [] => [[]]
  | c :: t => if c = 10 then [] :: spl t else match spl t with
    | h :: r => (c :: h) :: r
    | [] => [[c]]
/-- The lines that end, the first one begun. -/
def lns : List UInt8 → List UInt8 → List (List UInt8)
  | _, [] => []
  | acc, c :: t => if c = 10 then acc :: lns [] t else lns (acc ++ [c]) t
theorem spl_ne (l : List UInt8) : spl l ≠ [] := by
  cases l with
  | nil => simp [spl]
  | cons c t =>
    unfold spl
    split
    · simp
    · split <;> simp
theorem lns_spl : ∀ (t acc : List UInt8), lns acc (t ++ [10]) = match spl t with | h :: r => (acc ++ h) :: r | [] => []
  | [], acc => by simp [lns, spl]
  | c :: t, acc => by
    by_cases h : c = 10
    · have := lns_spl t []
      simp only [List.cons_append, lns, spl, h, if_true]
      rw [this]
      have hn := spl_ne t
      cases hs : spl t with
      | nil => exact absurd hs hn
      | cons a b => simp
    · have := lns_spl t (acc ++ [c])
      simp only [List.cons_append, lns, spl, h, if_false]
      rw [this]
      have hn := spl_ne t
      cases hs : spl t with
      | nil => exact absurd hs hn
      | cons a b => simp
theorem lns_nil (t : List UInt8) : lns [] (t ++ [10]) = spl t := by
  rw [lns_spl]
  cases hs : spl t with
  | nil => exact absurd hs (spl_ne t)
  | cons a b => simp
theorem lns_count : ∀ (l acc : List UInt8), (lns acc l).length = l.count 10
  | [], _ => rfl
  | c :: t, acc => by
    by_cases h : c = 10
    · simp [lns, h, lns_count t]
    · simp [lns, h, lns_count t]
theorem index_ne (b : UInt8) (l : List UInt8) (h : b ≠ 10) : Lib.index (b :: l) [10] = if Lib.index l [10] == -1 then -1 else Lib.index l [10] + 1 := by
  have hp : ([10] : List UInt8).isPrefixOf (b :: l) = false := by simp [List.isPrefixOf, Ne.symm h]
  rw [Lib.index, hp]
  simp
theorem index_eq (l : List UInt8) : Lib.index (10 :: l) [10] = 0 := by
  rw [Lib.index]
  simp [List.isPrefixOf]
theorem splitK_ne (b : UInt8) (l : List UInt8) (h : b ≠ 10) (k : Nat) : Lib.splitK [10] 0 k (b :: l) = match Lib.splitK [10] 0 k l with | x :: r => (b :: x) :: r | [] => [[b]] := by
  cases k with
  | zero => simp [Lib.splitK]
  | succ k =>
    by_cases hm : Lib.index l [10] = -1
    · simp [Lib.splitK, index_ne b l h, hm]
    · have hge : 0 ≤ Lib.index l [10] := by have := Lib.index_ge l [10]; omega
      have h2 : ¬ Lib.index l [10] + 1 = -1 := by omega
      have h3 : (Lib.index l [10] + 1).toNat = (Lib.index l [10]).toNat + 1 := by omega
      simp [Lib.splitK, index_ne b l h, hm, h2, h3]
theorem splitK_spl : ∀ l : List UInt8, Lib.splitK [10] 0 (Lib.count l [10]) l = spl l
  | [] => by rw [Lib.count_one]; rfl
  | c :: t => by
    have ih := splitK_spl t
    by_cases h : c = 10
    · subst h
      rw [Lib.count_cons_eq, Nat.add_comm]
      simp [Lib.splitK, index_eq, spl, ih]
    · rw [Lib.count_cons_ne c 10 t h, splitK_ne c t h, ih]
      simp only [spl, h, if_false]
end Go.Proofs.YtoclgcneclbfiaaDoor
