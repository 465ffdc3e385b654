/-
  THE WALK of the law WordsAlike: a letter with a sharp and the next one with a flat.
-/
import Derived.Test.YtoclgcneclbfiaaDoorW12
namespace Go.Proofs.YtoclgcneclbfiaaDoor
open Go.RowKit

/-- The letters from c on, without the last; a spelling. -/
def lt (i : Nat) : UInt8 := [99, 100, 101, 102, 103, 97, 98].getD i 0
def letters : ByteArray := ⟨#[99, 100, 101, 102, 103, 97, 98]⟩
theorem letters_at : ∀ i : Fin 7, L (letters.extract i.val (i.val + 1)) = [lt i.val] := by decide
def oct (o : Nat) : UInt8 := UInt8.ofNat (48 + o)
theorem alike_far : ∀ (i : Fin 6) (o : Fin 10), (o.val = 9 ∧ 4 ≤ i.val) → ((parseNoteL [lt i.val, oct o.val]).2 ≠ 0 ∨ (parseNoteL [lt (i.val + 1), oct o.val]).2 ≠ 0) := by decide
theorem alike_near : ∀ (i : Fin 6) (o : Fin 10), ¬ (o.val = 9 ∧ 4 ≤ i.val) →
    (parseNoteL [lt i.val, oct o.val]).2 = 0 ∧ (parseNoteL [lt (i.val + 1), oct o.val]).2 = 0 ∧ (parseNoteL [lt i.val, 35, oct o.val]).2 = 0 ∧ (parseNoteL [lt (i.val + 1), 98, oct o.val]).2 = 0 ∧
    (((parseNoteL [lt (i.val + 1), oct o.val]).1 - (parseNoteL [lt i.val, oct o.val]).1 == 2) = ((parseNoteL [lt i.val, 35, oct o.val]).1 == (parseNoteL [lt (i.val + 1), 98, oct o.val]).1)) ∧
    0 ≤ (parseNoteL [lt i.val, oct o.val]).1 ∧ (parseNoteL [lt i.val, oct o.val]).1 ≤ 127 ∧ 0 ≤ (parseNoteL [lt (i.val + 1), oct o.val]).1 ∧ (parseNoteL [lt (i.val + 1), oct o.val]).1 ≤ 127 := by decide +kernel
theorem parse_as (s : ByteArray) (l : List UInt8) (p : Int × Int) (hs : L s = l) (hp : parseNoteL l = p) (w : World) (t : Tabs w) :
    Calls Tryd.prog 16 #[.string s] w fun e w' => e = .returned (.tuple #[.int .i64 p.1, .int .i64 p.2]) ∧ w = w' := by
  have := parseNote_any s w t
  rw [hs, hp] at this
  exact this
set_option maxRecDepth 100000 in
set_option maxHeartbeats 3200000 in
theorem wordsAlike_walk (a b : Int) (w : World) (t : Tabs w) (ha : 0 ≤ a) (ha2 : a < 256) (hb : 0 ≤ b) :
    Calls Tryd.prog 5 #[.int .u8 a, .int .u8 b] w fun e w' => e = .returned (.bool true) ∧ Below w.heap.size w w' := by
  have e1 : a.tmod 6 = a % 6 := Int.tmod_eq_emod_of_nonneg ha
  have e2 : b.tmod 10 = b % 10 := Int.tmod_eq_emod_of_nonneg hb
  obtain ⟨i, hi⟩ : ∃ i : Nat, a % 6 = i := ⟨(a % 6).toNat, by omega⟩
  obtain ⟨o, ho⟩ : ∃ o : Nat, b % 10 = o := ⟨(b % 10).toNat, by omega⟩
  have hi6 : i < 6 := by omega
  have ho10 : o < 10 := by omega
  rw [hi] at e1
  rw [ho] at e2
  have hcv := run_byte_string w (48 + o)
  rw [show UInt8.ofNat ((48 : Int) + (o : Int)).toNat = oct o from by unfold oct; congr 1] at hcv
  by_cases hf : o = 9 ∧ 4 ≤ i
  · obtain ⟨rfl, h4⟩ := hf
    have tw : Tabs (w.alloc (.cells #[.int .u8 57] 5)) := t.below ((Below.refl _ _).alloc (Nat.le_refl _) _)
    have hcv9 := run_byte_string w 57
    rw [show UInt8.ofNat (57 : Int).toNat = 57 from rfl] at hcv9
    have e29 : b.tmod 10 = 9 := e2
    clear hcv e2
    have ti := Lib.hid hi
    have tj := Lib.hid ho
    clear hi ho
    rcases (show i = 4 ∨ i = 5 by omega) with rfl | rfl
    · have e14 : a.tmod 6 = 4 := e1
      clear e1
      have C1 := Lib.hid (fun s (hs : L s = [103, 57]) w t => parse_as s _ (127, 0) hs (by decide) w t)
      have C2 := Lib.hid (fun s (hs : L s = [97, 57]) w t => parse_as s _ (0, 7) hs (by decide) w t)
      go_enter Tryd.func5, Tryd.ntmps5
      go_wp2_with fail
      refine (C1.out _ ?_ _ tw).mono ?_
      · first | rfl | (simp only [L_append, L_extract]; rfl)
      rintro e w' ⟨rfl, rfl⟩
      go_wp2_with fail
      refine (C2.out _ ?_ _ tw).mono ?_
      · first | rfl | (simp only [L_append, L_extract]; rfl)
      rintro e w' ⟨rfl, rfl⟩
      go_wp2_with fail
      refine (shown_any _ tw).mono ?_
      rintro e w2 ⟨rfl, hbs⟩
      go_wp2_with fail
      go_ret
      exact ⟨rfl, ((Below.refl _ _).alloc (Nat.le_refl _) _).trans (hbs.mono (by simp))⟩
    · have e15 : a.tmod 6 = 5 := e1
      clear e1
      have C1 := Lib.hid (fun s (hs : L s = [97, 57]) w t => parse_as s _ (0, 7) hs (by decide) w t)
      have C2 := Lib.hid (fun s (hs : L s = [98, 57]) w t => parse_as s _ (0, 7) hs (by decide) w t)
      go_enter Tryd.func5, Tryd.ntmps5
      go_wp2_with fail
      refine (C1.out _ ?_ _ tw).mono ?_
      · first | rfl | (simp only [L_append, L_extract]; rfl)
      rintro e w' ⟨rfl, rfl⟩
      go_wp2_with fail
      refine (C2.out _ ?_ _ tw).mono ?_
      · first | rfl | (simp only [L_append, L_extract]; rfl)
      rintro e w' ⟨rfl, rfl⟩
      go_wp2_with fail
      refine (shown_any _ tw).mono ?_
      rintro e w2 ⟨rfl, hbs⟩
      go_wp2_with fail
      go_ret
      exact ⟨rfl, ((Below.refl _ _).alloc (Nat.le_refl _) _).trans (hbs.mono (by simp))⟩
  · obtain ⟨f1, f2, f3, f4, f5, f6, f7, f8, f9⟩ := alike_near ⟨i, hi6⟩ ⟨o, ho10⟩ hf
    dsimp only at f1 f2 f3 f4 f5 f6 f7 f8 f9
    have L1 := letters_at ⟨i, by omega⟩
    have L2 := letters_at ⟨i + 1, by omega⟩
    dsimp only at L1 L2
    generalize hp1 : parseNoteL [lt i, oct o] = p1 at f1 f5 f6 f7
    generalize hp2 : parseNoteL [lt (i + 1), oct o] = p2 at f2 f5 f8 f9
    generalize hp3 : parseNoteL [lt i, 35, oct o] = p3 at f3 f5
    generalize hp4 : parseNoteL [lt (i + 1), 98, oct o] = p4 at f4 f5
    obtain ⟨n1, k1⟩ := p1
    obtain ⟨n2, k2⟩ := p2
    obtain ⟨n3, k3⟩ := p3
    obtain ⟨n4, k4⟩ := p4
    dsimp only at f1 f2 f3 f4 f5 f6 f7 f8 f9
    subst f1 f2 f3 f4
    have C1 := Lib.hid (fun s (hs : L s = [lt i, oct o]) w t => parse_as s _ _ hs hp1 w t)
    have C2 := Lib.hid (fun s (hs : L s = [lt (i + 1), oct o]) w t => parse_as s _ _ hs hp2 w t)
    have C3 := Lib.hid (fun s (hs : L s = [lt i, 35, oct o]) w t => parse_as s _ _ hs hp3 w t)
    have C4 := Lib.hid (fun s (hs : L s = [lt (i + 1), 98, oct o]) w t => parse_as s _ _ hs hp4 w t)
    have H1 := Lib.hid L1
    have H2 := Lib.hid L2
    have H5 := Lib.hid f5
    have ti := Lib.hid hi
    have tj := Lib.hid ho
    obtain ⟨q, q1, q2⟩ : ∃ q : Bool, (n2 - n1 == 2) = q ∧ (n3 == n4) = q := ⟨_, rfl, f5.symm⟩
    have tw : Tabs (w.alloc (.cells #[.int .u8 (48 + (o : Int))] 5)) := t.below ((Below.refl _ _).alloc (Nat.le_refl _) _)
    clear hp1 hp2 hp3 hp4 L1 L2 f5 hf hi ho
    cases q
    all_goals
      go_enter Tryd.func5, Tryd.ntmps5
      go_wp2_with fail
      refine (C1.out _ (by rw [L_append]; exact congrArg (· ++ [oct o]) H1.out) _ tw).mono ?_
      rintro e w' ⟨rfl, rfl⟩
      go_wp2_with fail
      refine (C2.out _ (by rw [L_append]; exact congrArg (· ++ [oct o]) H2.out) _ tw).mono ?_
      rintro e w' ⟨rfl, rfl⟩
      go_wp2_with fail
      refine (C3.out _ (by rw [L_append, L_append]; exact congrArg (· ++ [35] ++ [oct o]) H1.out) _ tw).mono ?_
      rintro e w' ⟨rfl, rfl⟩
      go_wp2_with fail
      refine (C4.out _ (by rw [L_append, L_append]; exact congrArg (· ++ [98] ++ [oct o]) H2.out) _ tw).mono ?_
      rintro e w' ⟨rfl, rfl⟩
      go_wp2_with fail
      refine (shown_any _ tw).mono ?_
      rintro e w2 ⟨rfl, hbs⟩
      go_wp2_with fail
      go_ret
      exact ⟨rfl, ((Below.refl _ _).alloc (Nat.le_refl _) _).trans (hbs.mono (by simp))⟩
end Go.Proofs.YtoclgcneclbfiaaDoor
