/-
  WALKS: shown, the part that every law of the stage ends with.
-/
import Derived.Test.YtoclgcneclbfiaaDoorW2
import Derived.Test.YtoclgcneclbfiaaDoorW3
import Derived.Test.YtoclgcneclbfiaaDoorW9
import Derived.Test.YtoclgcneclbfiaaDoorW10
import Derived.Test.YtoclgcneclbfiaaDoorW11
namespace Go.Proofs.YtoclgcneclbfiaaDoor
open Go.RowKit

theorem fcells_get : ∀ (fs : List (Bool × ByteArray)) (i : Nat) (h : i < fs.length), (fcells fs)[i * 2]? = some (.bool fs[i].1) ∧ (fcells fs)[i * 2 + 1]? = some (.string fs[i].2)
  | f :: fs, 0, _ => ⟨rfl, rfl⟩
  | f :: fs, i + 1, h => by
    have ih := fcells_get fs i (by simpa using h)
    have e : fcells (f :: fs) = .bool f.1 :: .string f.2 :: fcells fs := rfl
    rw [e, show (i + 1) * 2 = i * 2 + 1 + 1 by omega, show i * 2 + 1 + 1 + 1 = (i * 2 + 1) + 1 + 1 by omega]
    simpa using ih
theorem fcells_length (fs : List (Bool × ByteArray)) : (fcells fs).length = fs.length * 2 := by
  induction fs with
  | nil => rfl
  | cons f fs ih => rw [show fcells (f :: fs) = .bool f.1 :: .string f.2 :: fcells fs from rfl]; simp [ih]; omega
theorem FRead.of_row {W : World} {base : Nat} {t : TypeId} {v : Value} {fs : List (Bool × ByteArray)} (h : W.ownsRow base t 2 v fs.length (fcells fs)) : FRead W v fs := by
  obtain ⟨_, ⟨rfl, h0⟩ | ⟨g, cap, cur, rfl, _, hg, _, _, _, hx⟩⟩ := h
  · exact .inl ⟨rfl, List.length_eq_zero_iff.1 h0⟩
  · refine .inr ⟨g, 0, cap, rfl, fun i hi => ?_⟩
    have hk := fcells_get fs i hi
    have hc : ∀ j u, (fcells fs)[j]? = some u → W.cell? ⟨g, 0 + j, none⟩ = some u := fun j u hj => by
      rw [← hx, List.getElem?_take] at hj
      split at hj
      · simp only [World.cell?, hg, Nat.zero_add]
        simpa using hj
      · cases hj
    exact ⟨hc _ _ hk.1, by have := hc _ _ hk.2; simpa [Nat.add_assoc] using this⟩

theorem note70 (w : World) (t : Tabs w) : Calls Tryd.prog 14 #[.int .i64 70] w fun e w' => e = .returned (.tuple #[.string ⟨#[97, 35, 52]⟩, .int .i64 0]) ∧ Below w.heap.size w w' :=
  (note_any 70 w t (by decide) (by decide)).mono fun _ _ ⟨he, hb⟩ => ⟨by
    rw [he]
    refine ret_tup ?_ rfl
    rw [show ((70 : Int) / 12 - 1) = 4 by decide, itoa_small 4 (by decide) (by decide)]
    rfl, hb⟩
theorem parse_cb4 (w : World) (t : Tabs w) : Calls Tryd.prog 16 #[.string ⟨#[99, 98, 52]⟩] w fun e w' => e = .returned (.tuple #[.int .i64 59, .int .i64 0]) ∧ w = w' :=
  (parseNote_any ⟨#[99, 98, 52]⟩ w t).mono fun _ _ ⟨he, hb⟩ => ⟨by rw [he, show parseNoteL (L ⟨#[99, 98, 52]⟩) = (59, 0) by decide]; rfl, hb⟩
theorem feet83 (w : World) (t : Tabs w) : Calls Tryd.prog 38 #[.agg #[.int .i64 8, .int .i64 3]] w fun e w' => e = .returned (.tuple #[.string ⟨#[50, 43, 50, 47, 51]⟩, .int .i64 0]) ∧ Below w.heap.size w w' :=
  feet_yes 8 3 ⟨#[50, 43, 50, 47, 51]⟩ (by
    show [50, 43, 50, 47, 51] = feetQ (8 / 3) (8 % 3) 3
    rw [feetQ, if_neg (by decide), if_neg (by decide), partL, itoa_small _ (by decide) (by decide), itoa_small _ (by decide) (by decide)]
    rfl) w t (by decide)
theorem quote_say (w : World) (t : Tabs w) : Calls Tryd.prog 18 #[.string ⟨#[115, 97, 121, 32, 34, 97, 34]⟩] w fun e w' => e = .returned (.tuple #[.string ⟨#[34, 115, 97, 121, 32, 34, 34, 97, 34, 34, 34]⟩, .int .i64 0]) ∧ Below w.heap.size w w' :=
  quote_yes _ _ (by decide) w t (by decide)
def exLine : ByteArray := ⟨#[115, 116, 111, 112, 32, 34, 84, 114, 117, 109, 112, 101, 116, 32, 56, 34, 32, 49]⟩
def exFields : List (Bool × ByteArray) := [(false, ⟨#[115, 116, 111, 112]⟩), (true, ⟨#[84, 114, 117, 109, 112, 101, 116, 32, 56]⟩), (false, ⟨#[49]⟩)]
theorem split_ex : splitL (L exLine) = (0, exFields.map fL) := by decide +kernel
set_option maxRecDepth 100000 in
set_option maxHeartbeats 3200000 in
theorem shown_any (w : World) (t : Tabs w) : Calls Tryd.prog 13 #[] w fun e w' => e = .returned (.bool true) ∧ Below w.heap.size w w' := by
  go_enter Tryd.func13, Tryd.ntmps13
  go_wp2_with fail
  refine (note70 _ t).mono ?_
  rintro e w1 ⟨rfl, hb1⟩
  have t1 := t.below hb1
  go_wp2_with fail
  refine (parse_cb4 _ t1).mono ?_
  rintro e w' ⟨rfl, rfl⟩
  go_wp2_with fail
  refine (feet83 _ t1).mono ?_
  rintro e w2 ⟨rfl, hb2⟩
  have t2 := t1.below hb2
  have hB2 := hb1.trans (hb2.mono hb1.size)
  go_wp2_with fail
  refine (quote_say _ t2).mono ?_
  rintro e w3 ⟨rfl, hb3⟩
  have t3 := t2.below hb3
  have hB3 := hB2.trans (hb3.mono hB2.size)
  clear hb1 hb2 hb3 hB2 t1 t2
  go_wp2_with fail
  refine (split_any exLine _ t3).mono ?_
  rintro e w4 ⟨v, fs, rfl, hfs, hrow, hb4⟩
  rw [split_ex] at hfs
  rw [split_ex]
  have hB4 := hB3.trans (hb4.mono hB3.size)
  have hlen : fs.length = 3 := by have := congrArg List.length hfs; simpa [exFields] using this.symm
  have hr := FRead.of_row hrow
  have HF := Lib.hid hfs
  have hlb : fs.length ≤ 100000 := by omega
  clear hfs hlen hrow hb4 hB3 t3
  go_wp2_with fail
  refine (fields_any v fs _ hr hlb).mono ?_
  rintro e w5 ⟨v2, rfl, hrow2, hb5⟩
  have hB5 := hB4.trans (hb5.mono hB4.size)
  have hr2 := FRead.of_row hrow2
  clear hrow2 hb5 hB4 hr
  have hz := hB5.size
  go_wp2_with fail
  have hr3 : FRead (w5.alloc (.cells #[.bool false, .string ⟨#[115, 116, 111, 112]⟩, .bool true, .string ⟨#[84, 114, 117, 109, 112, 101, 116, 32, 56]⟩, .bool false, .string ⟨#[49]⟩] 61)) (.slice (some ⟨w5.heap.size, 0, none⟩) 3 3) exFields := by
    refine .inr ⟨w5.heap.size, 0, 3, rfl, fun i hi => ?_⟩
    match i, hi with
    | 0, _ => exact ⟨by simp [exFields], by simp [exFields]⟩
    | 1, _ => exact ⟨by simp [exFields], by simp [exFields]⟩
    | 2, _ => exact ⟨by simp [exFields], by simp [exFields]⟩
  refine (alike_any v2 _ fs exFields _ (hr2.later ((Below.refl _ _).alloc (Nat.le_refl _) _)) hr3 hlb).mono ?_
  rintro e w6 ⟨rfl, hb6⟩
  rw [HF.out.symm, decide_eq_true rfl]
  go_wp2_with fail
  go_ret
  exact ⟨rfl, (hB5.alloc hz _).trans (hb6.mono (by simp; omega))⟩
end Go.Proofs.YtoclgcneclbfiaaDoor
