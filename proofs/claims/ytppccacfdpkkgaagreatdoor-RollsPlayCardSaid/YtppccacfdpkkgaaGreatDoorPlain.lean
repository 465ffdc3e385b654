/-
  PLAIN: words on bytes and lists that the walks over this seat speak, and small laws on them. No program in sight.
-/
import Derived.WalkKit
import Derived.WalkSpells
import Derived.Lib.Strings
namespace Go.Proofs.YtppccacfdpkkgaaGreatDoor
open Go.RowKit

/-- A digit, a letter, a byte of a name: of a byte as a number. -/
def digB (c : Int) : Bool := decide (48 ≤ c) && decide (c ≤ 57)
def letB (c : Int) : Bool := decide (97 ≤ c) && decide (c ≤ 122) || decide (65 ≤ c) && decide (c ≤ 90)
def wrdB (c : Int) : Bool := letB c || digB c || decide (c = 95)
/-- The bytes of a string. -/
def L (s : ByteArray) : List UInt8 := s.data.toList
theorem L_length (s : ByteArray) : (L s).length = s.size := by unfold L; rw [Array.length_toList]; rfl
theorem L_get (s : ByteArray) (k : Nat) (h : k < s.size) : (L s)[k]'(by rw [L_length]; exact h) = s[k] := by
  rfl
theorem take_snoc (s : ByteArray) (k : Nat) (h : k < s.size) : (L s).take (k + 1) = (L s).take k ++ [s[k]] := by
  rw [List.take_succ_eq_append_getElem (by rw [L_length]; exact h), L_get s k h]
theorem take_all (s : ByteArray) (k : Nat) (h : s.size ≤ k) : (L s).take k = L s := List.take_of_length_le (by rw [L_length]; exact h)
theorem L_mk (l : List UInt8) : L ⟨l.toArray⟩ = l := rfl
theorem mkL (l : List UInt8) : ∃ q : ByteArray, L q = l := ⟨⟨l.toArray⟩, rfl⟩
theorem eq_of_L {a b : ByteArray} (h : L a = L b) : a = b := by
  obtain ⟨⟨x⟩⟩ := a; obtain ⟨⟨y⟩⟩ := b
  have h' : x = y := h
  rw [h']
theorem mk_of_L {q : ByteArray} {l : List UInt8} (h : L q = l) : (⟨l.toArray⟩ : ByteArray) = q := eq_of_L h.symm
theorem size_of_L {q : ByteArray} {l : List UInt8} (h : L q = l) : q.size = l.length := by rw [← h, L_length]
theorem L_extract (s : ByteArray) (a b : Nat) : L (s.extract a b) = ((L s).drop a).take (b - a) := Lib.extract_data s a b
theorem L_append (a b : ByteArray) : L (a ++ b) = L a ++ L b := by
  obtain ⟨⟨x⟩⟩ := a; obtain ⟨⟨y⟩⟩ := b
  rw [ByteArray.mk_append_mk]; rfl
theorem toList_nil (s : ByteArray) : s.toList = [] ↔ s.size = 0 := by
  rw [Lib.toList_data, ← L_length]; exact List.length_eq_zero_iff.symm
/-- All bytes so far; one more. -/
theorem allTo_succ (s : ByteArray) (p : UInt8 → Bool) (k : Nat) (h : k < s.size) : ((L s).take (k + 1)).all p = (((L s).take k).all p && p s[k]) := by
  rw [take_snoc s k h]; simp
theorem all_no (s : ByteArray) (p : UInt8 → Bool) (k : Nat) (h : k < s.size) (hp : p s[k] = false) : (L s).all p = false := by
  rw [Bool.eq_false_iff]
  intro ha
  rw [List.all_eq_true] at ha
  have := ha s[k] (by rw [← L_get s k h]; exact List.getElem_mem _)
  simp [hp] at this
theorem byte_lt (c : UInt8) : (c.toNat : Int) < 256 := by have := c.toNat_lt; omega
theorem ret_bool {a b : Bool} (h : a = b) : Ending.returned (.bool a) = .returned (.bool b) := by rw [h]
theorem ret_int {k : IntKind} {a b : Int} (h : a = b) : Ending.returned (.int k a) = .returned (.int k b) := by rw [h]
theorem ret_string {a b : ByteArray} (h : a = b) : Ending.returned (.string a) = .returned (.string b) := by rw [h]

theorem or32_fin : ∀ n : Fin 256, (decide (97 ≤ bits .or .u8 (n.val : Int) 32) && decide (bits .or .u8 (n.val : Int) 32 ≤ 122)) = letB (n.val : Int) := by decide +kernel
theorem or32 (c : Int) (h0 : 0 ≤ c) (h1 : c < 256) : (decide (97 ≤ bits .or .u8 c 32) && decide (bits .or .u8 c 32 ≤ 122)) = letB c := by
  obtain ⟨n, rfl⟩ := Int.eq_ofNat_of_zero_le h0
  exact or32_fin ⟨n, by omega⟩

/-- Printed: all bytes from a least one to 126. -/
def prB (m : Int) (c : UInt8) : Bool := decide (m ≤ (c.toNat : Int)) && decide ((c.toNat : Int) ≤ 126)
def printedB (m : Int) (l : List UInt8) : Bool := l.all (prB m)
/-- A string of the document: at most 200 bytes from 32 to 126. -/
def textB (l : List UInt8) : Bool := decide (l.length ≤ 200) && printedB 32 l
/-- A name. -/
def wrdU (c : UInt8) : Bool := wrdB (c.toNat : Int)
def nameB (l : List UInt8) : Bool := decide (1 ≤ l.length) && decide (l.length ≤ 16) && letB ((l.headD 0).toNat : Int) && l.all wrdU
theorem head_eq (s : ByteArray) (h : 0 < s.size) : (L s).headD 0 = s[0] := by
  have e := L_get s 0 h
  have hl := L_length s
  cases hL : L s with
  | nil => rw [hL] at hl; simp at hl; omega
  | cons a t => simp only [hL] at e; simpa using e
/-- The state of 'Name' behind k bytes, and its step. -/
def nameTo (s : ByteArray) (k : Nat) : Prop := ((L s).take k).all wrdU = true ∧ (0 < k → letB ((L s).headD 0).toNat = true)
theorem nameTo_zero (s : ByteArray) : nameTo s 0 := ⟨by simp, fun h => absurd h (Nat.lt_irrefl 0)⟩
theorem nameTo_succ {s : ByteArray} {k : Nat} (h : nameTo s k) (hk : k < s.size) (hw : wrdU s[k] = true) (h0 : k = 0 → letB (s[k].toNat : Int) = true) : nameTo s (k + 1) := by
  refine ⟨by rw [allTo_succ s _ k hk, h.1, hw]; rfl, fun _ => ?_⟩
  by_cases e : k = 0
  · subst e; rw [head_eq s hk]; exact h0 rfl
  · exact h.2 (by omega)
theorem name_bad {s : ByteArray} {k : Nat} (hk : k < s.size) (hb : wrdU s[k] = false ∨ (k = 0 ∧ letB (s[k].toNat : Int) = false)) : nameB (L s) = false := by
  rcases hb with hb | ⟨rfl, hb⟩
  · unfold nameB; rw [all_no s wrdU k hk hb]; simp
  · unfold nameB; rw [head_eq s hk, hb]; simp
theorem name_end {s : ByteArray} {k : Nat} (h : nameTo s k) (hk : s.size ≤ k) : nameB (L s) = (decide (1 ≤ s.size) && decide (s.size ≤ 16)) := by
  have h1 := h.1
  rw [take_all s k hk] at h1
  unfold nameB
  rw [L_length, h1]
  by_cases e : 1 ≤ s.size
  · rw [h.2 (by omega)]; simp
  · simp [e]
theorem name_empty {s : ByteArray} (h : s.size < 1) : nameB (L s) = false := by
  have : (L s).length = 0 := by rw [L_length]; omega
  simp [nameB, this]
theorem name_long {s : ByteArray} (h : 16 < s.size) : nameB (L s) = false := by
  have : ¬ (L s).length ≤ 16 := by rw [L_length]; omega
  simp [nameB, this]
end Go.Proofs.YtppccacfdpkkgaaGreatDoor
