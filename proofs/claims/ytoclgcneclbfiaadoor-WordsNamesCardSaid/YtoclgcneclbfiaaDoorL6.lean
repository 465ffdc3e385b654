/-
  THE WALK of the law WordsNames.
-/
import Derived.Test.YtoclgcneclbfiaaDoorW12
namespace Go.Proofs.YtoclgcneclbfiaaDoor
open Go.RowKit
set_option maxHeartbeats 800000 in
theorem wordsNames_walk (s : ByteArray) (w : World) (t : Tabs w) (hs : s.size ≤ maxLen) :
    Calls Tryd.prog 6 #[.string s] w fun e w' => e = .returned (.bool true) ∧ Below w.heap.size w w' := by
  by_cases hl : 20000 < s.size
  · go_enter Tryd.func6, Tryd.ntmps6
    go_wp2_with fail
    refine (shown_any _ t).mono ?_
    rintro e w2 ⟨rfl, hb⟩
    go_wp2_with fail
    go_ret
    exact ⟨rfl, hb⟩
  · obtain ⟨a, ha⟩ : ∃ a : Bool, nameB (L s) = a := ⟨_, rfl⟩
    obtain ⟨b, hb⟩ : ∃ b : Bool, textB (L s) = b := ⟨_, rfl⟩
    have C1 := Lib.hid (fun w => name_any s w hs)
    have C2 := Lib.hid (fun w => rname_any s w hs)
    have C3 := Lib.hid (fun w => text_any s w hs)
    have C4 := Lib.hid (fun w => rtext_any s w hs)
    rw [ha] at C1 C2
    rw [hb] at C3 C4
    clear ha hb
    cases a <;> cases b
    all_goals
      go_enter Tryd.func6, Tryd.ntmps6
      go_wp2_with fail
      refine (C1.out _).mono ?_
      rintro e w' ⟨rfl, rfl⟩
      go_wp2_with fail
      refine (C2.out _).mono ?_
      rintro e w' ⟨rfl, rfl⟩
      go_wp2_with fail
      refine (C3.out _).mono ?_
      rintro e w' ⟨rfl, rfl⟩
      go_wp2_with fail
      refine (C4.out _).mono ?_
      rintro e w' ⟨rfl, rfl⟩
      go_wp2_with fail
      refine (shown_any _ t).mono ?_
      rintro e w2 ⟨rfl, hbs⟩
      go_wp2_with fail
      go_ret
      exact ⟨rfl, hbs⟩
end Go.Proofs.YtoclgcneclbfiaaDoor
