/-
  WALKS: WordsKnown: the examples of the document.
-/
import Derived.Test.YtoclgcneclbfiaaDoorW21
import Derived.Test.YtoclgcneclbfiaaDoorW12
namespace Go.Proofs.YtoclgcneclbfiaaDoor
open Go.RowKit
theorem parse_h4 (w : World) (t : Tabs w) : Calls Tryd.prog 16 #[.string ⟨#[104, 52]⟩] w fun e w' => e = .returned (.tuple #[.int .i64 0, .int .i64 6]) ∧ w = w' :=
  (parseNote_any ⟨#[104, 52]⟩ w t).mono fun _ _ ⟨he, hb⟩ => ⟨by rw [he, show parseNoteL (L ⟨#[104, 52]⟩) = (0, 6) by decide]; rfl, hb⟩
theorem parse_g9 (w : World) (t : Tabs w) : Calls Tryd.prog 16 #[.string ⟨#[103, 35, 57]⟩] w fun e w' => e = .returned (.tuple #[.int .i64 0, .int .i64 7]) ∧ w = w' :=
  (parseNote_any ⟨#[103, 35, 57]⟩ w t).mono fun _ _ ⟨he, hb⟩ => ⟨by rw [he, show parseNoteL (L ⟨#[103, 35, 57]⟩) = (0, 7) by decide]; rfl, hb⟩
theorem feet42 (w : World) : Calls Tryd.prog 38 #[.agg #[.int .i64 4, .int .i64 2]] w fun e w' => e = .returned (.tuple #[.string ⟨#[]⟩, .int .i64 2]) ∧ Below w.heap.size w w' := feet_no 4 2 w (by decide)
theorem foot46 : footOf (L ⟨#[50, 43, 52, 47, 54]⟩) = none := footOf_form (p := (16, 6)) (by decide +kernel) (fun h => absurd h.1 (by decide))
theorem parse46 (w : World) (t : Tabs w) (hv : ErrV w) : Calls Tryd.prog 40 #[.string ⟨#[50, 43, 52, 47, 54]⟩] w fun e w' => e = .returned (.tuple #[.agg #[.int .i64 0, .int .i64 0], .int .i64 6]) ∧ Below w.heap.size w w' := by
  have := parseFeet_any ⟨#[50, 43, 52, 47, 54]⟩ w t hv (by decide)
  rwa [foot46] at this
theorem unquote_a (w : World) (t : Tabs w) : Calls Tryd.prog 20 #[.string ⟨#[34, 97]⟩] w fun e w' => e = .returned (.tuple #[.string ⟨#[]⟩, .int .i64 6]) ∧ Below w.heap.size w w' :=
  unquote_bad ⟨#[34, 97]⟩ (by decide) w t (by decide)
theorem split_bad (s : ByteArray) (h : splitL (L s) = (6, [])) (w : World) (t : Tabs w) : Calls Tryd.prog 26 #[.string s] w fun e w' => ∃ a c, e = .returned (.tuple #[.slice a 0 c, .int .i64 6]) ∧ Below w.heap.size w w' := by
  refine (split_any s w t).mono ?_
  rintro e w' ⟨v, fs, rfl, hfs, hrow, hb⟩
  rw [h] at hfs ⊢
  have h0 : fs = [] := by simpa using hfs.symm
  subst h0
  obtain ⟨a, c, rfl⟩ := (FRead.of_row hrow).form
  exact ⟨a, c, rfl, hb⟩
theorem int_590 (w : World) (hv : ErrV w) : Calls Tryd.prog 34 #[.string ⟨#[53]⟩, .int .i64 9, .int .i64 0] w fun e w' => e = .returned (.tuple #[.int .i64 0, .int .i64 2]) ∧ Below w.heap.size w w' :=
  int_as ⟨#[53]⟩ 9 0 0 2 (by decide) w (by decide) hv (by decide) (by decide)
theorem eql56_same (a b : Int) (w : World) : (binOp .eql 56 (.agg #[.int .i64 a, .int .i64 b]) (.agg #[.int .i64 a, .int .i64 b])).run Tryd.prog w = .ok (.bool true) w := by
  rw [run_eql_struct]
  rw [run_equalIn_agg w 9999 56 _ _ (by kernel_rfl) (by kernel_rfl)]
  simp only [Program.fieldsOf, Tryd.underlying56]
  simp [go_sem, Tryd.underlying3, part]
set_option maxRecDepth 100000 in
set_option maxHeartbeats 6400000 in
theorem wordsKnown_walk (w : World) (t : Tabs w) (hv : ErrV w) : Calls Tryd.prog 12 #[] w fun e w' => e = .returned (.bool true) ∧ Below w.heap.size w w' := by
  have n1 := eql56_same 0 0
  go_enter Tryd.func12, Tryd.ntmps12
  go_wp2_with fail
  refine (note_no 128 _ (by decide)).mono ?_
  rintro e w' ⟨rfl, rfl⟩
  go_wp2_with fail
  refine (parse_h4 _ t).mono ?_
  rintro e w' ⟨rfl, rfl⟩
  go_wp2_with fail
  refine (parse_g9 _ t).mono ?_
  rintro e w' ⟨rfl, rfl⟩
  go_wp2_with fail
  refine (feet42 _).mono ?_
  rintro e w1 ⟨rfl, hB1⟩
  have t1 := t.below hB1
  have v1 := hv.below hB1
  go_wp2_with fail
  refine (parse46 _ t1 v1).mono ?_
  rintro e w2 ⟨rfl, hb2⟩
  have hB2 := below_step hB1 hb2
  clear hb2
  have hB3 : Below w.heap.size w (w2.alloc (.cells #[.int .i64 0, .int .i64 0] 56)) := hB2.alloc hB2.size _
  have b3 : Blk (w2.alloc (.cells #[.int .i64 0, .int .i64 0] 56)) w2.heap.size 56 #[.int .i64 0, .int .i64 0] := Blk.new _ _ _
  have t3 := t.below hB3
  go_wp2_with fail
  refine (unquote_a _ t3).mono ?_
  rintro e w4 ⟨rfl, hb4⟩
  have hB4 := below_step hB3 hb4
  have b4 := b3.below hb4
  have t4 := t.below hB4
  clear hb4
  go_wp2_with fail
  refine (split_bad ⟨#[97, 32, 32, 98]⟩ (by decide +kernel) _ t4).mono ?_
  rintro e w5 ⟨s5, c5, rfl, hb5⟩
  have hB5 := below_step hB4 hb5
  have b5 := b4.below hb5
  have t5 := t.below hB5
  clear hb5
  go_wp2_with fail
  refine (split_bad ⟨#[97, 34, 98]⟩ (by decide +kernel) _ t5).mono ?_
  rintro e w6 ⟨s6, c6, rfl, hb6⟩
  have hB6 := below_step hB5 hb6
  have b6 := b5.below hb6
  have v6 := hv.below hB6
  clear hb6
  go_wp2_with fail
  refine (int_590 _ v6).mono ?_
  rintro e w7 ⟨rfl, hb7⟩
  have hB7 := below_step hB6 hb7
  have b7 := b6.below hb7
  have t7 := t.below hB7
  obtain ⟨a0, a1, f0, f1⟩ := b7.two
  clear hb7
  go_wp2_with fail
  refine (shown_any _ t7).mono ?_
  rintro e w8 ⟨rfl, hb8⟩
  have hB8 := below_step hB7 hb8
  go_wp2_with fail
  go_ret
  exact ⟨rfl, hB8⟩
end Go.Proofs.YtoclgcneclbfiaaDoor
