/-
  PLAIN: notes: what ParseNote says. No program in sight.
-/
import Derived.Test.YtoclgcneclbfiaaDoorTabs
namespace Go.Proofs.YtoclgcneclbfiaaDoor
open Go.RowKit

/-- A note, or the error number of one that is out of range. -/
def noteFin (n : Int) : Int × Int := if n < 0 ∨ 127 < n then (0, 7) else (n, 0)
/-- What follows letter and sign. -/
def noteOct (n : Int) (r : List UInt8) : Int × Int :=
  if r = [45, 49] then noteFin n else match r with
    | [d] => if digB (d.toNat : Int) then noteFin (n + 12 * ((d.toNat : Int) - 48 + 1)) else (0, 6)
    | _ => (0, 6)
def noteSign (n : Int) (r : List UInt8) : Int × Int :=
  match r with
  | 35 :: t => noteOct (n + 1) t
  | 98 :: t => noteOct (n - 1) t
  | _ => noteOct n r
def parseNoteL (l : List UInt8) : Int × Int :=
  match l with
  | [] => (0, 6)
  | c :: r => if (c.toNat : Int) < 97 ∨ 103 < (c.toNat : Int) then (0, 6) else noteSign (st (c.toNat - 97)) r
theorem noteOct_minus (n : Int) {r : List UInt8} (h : r = [45, 49]) : noteOct n r = noteFin n := by unfold noteOct; rw [if_pos h]
theorem noteOct_digit (n : Int) {r : List UInt8} {d : UInt8} (h : r = [d]) (hd : digB (d.toNat : Int) = true) : noteOct n r = noteFin (n + 12 * ((d.toNat : Int) - 48 + 1)) := by
  subst h
  unfold noteOct
  rw [if_neg (by simp)]
  simp [hd]
theorem noteOct_bad1 (n : Int) {r : List UInt8} {d : UInt8} (h : r = [d]) (hd : digB (d.toNat : Int) = false) : noteOct n r = (0, 6) := by
  subst h
  unfold noteOct
  rw [if_neg (by simp)]
  simp [hd]
theorem noteOct_bad (n : Int) {r : List UInt8} (h1 : r ≠ [45, 49]) (h2 : r.length ≠ 1) : noteOct n r = (0, 6) := by
  unfold noteOct
  rw [if_neg h1]
  match r, h2 with
  | [], _ => rfl
  | [_], h2 => exact absurd rfl h2
  | _ :: _ :: _, _ => rfl
theorem noteFin_ok {n : Int} (h1 : 0 ≤ n) (h2 : n ≤ 127) : noteFin n = (n, 0) := by unfold noteFin; rw [if_neg (by omega)]
theorem noteFin_bad {n : Int} (h : n < 0 ∨ 127 < n) : noteFin n = (0, 7) := by unfold noteFin; rw [if_pos h]
theorem one_byte {r : ByteArray} (h : r.size = 1) : L r = [r[0]] := by
  have hl := L_length r
  have hg := L_get r 0 (by omega)
  match hL : L r with
  | [] => rw [hL] at hl; simp at hl; omega
  | [a] => simp only [hL] at hg; rw [← hg]; rfl
  | a :: b :: t => rw [hL] at hl; simp at hl; omega
theorem first_rest {s : ByteArray} (h : 1 ≤ s.size) : L s = s[0] :: L (s.extract 1 s.size) := by
  have hg := L_get s 0 (by omega)
  have ht : L (s.extract 1 s.size) = (L s).drop 1 := by rw [L_extract]; exact List.take_of_length_le (by rw [List.length_drop, L_length]; omega)
  rw [ht]
  have hl := L_length s
  match hL : L s with
  | [] => rw [hL] at hl; simp at hl; omega
  | a :: t => simp only [hL] at hg; rw [← hg]; rfl
/-- A pair as a result. -/
def pairV (p : Int × Int) : Value := .tuple #[.int .i64 p.1, .int .i64 p.2]
end Go.Proofs.YtoclgcneclbfiaaDoor
