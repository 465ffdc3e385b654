/-
  CONTRACTS: ParseFeet of the program.
-/
import Derived.Test.YtoclgcneclbfiaaDoorPlainF
import Derived.Test.YtoclgcneclbfiaaDoorW20
import Derived.Test.YtoclgcneclbfiaaDoorBlk
namespace Go.Proofs.YtoclgcneclbfiaaDoor
open Go.RowKit
def footVal : Option (Int × Int) → Value
  | some p => .tuple #[.agg #[.int .i64 p.1, .int .i64 p.2], .int .i64 0]
  | none => .tuple #[.agg #[.int .i64 0, .int .i64 0], .int .i64 6]
theorem cut_is (c : UInt8) (s a b : ByteArray) (k : Bool) (ha : L a = (Lib.cut (L s) [c]).1) (hb : L b = (Lib.cut (L s) [c]).2.1) (hk : (Lib.cut (L s) [c]).2.2 = k) (w : World) (t : Tabs w) (hs : s.size ≤ 1000000) :
    Calls Tryd.prog 65 #[.string s, .string ⟨#[c]⟩] w fun e w' => e = .returned (.tuple #[.string a, .string b, .bool k]) ∧ Below w.heap.size w w' := by
  obtain ⟨m, hm⟩ := t.mlen
  refine (Tryd.strings_Cut s ⟨#[c]⟩ m w (by omega) hm).mono ?_
  rintro e w' ⟨rfl, n, rfl⟩
  refine ⟨?_, below_drewN (Below.refl _ _) n⟩
  have e1 : (⟨(Lib.cut (L s) [c]).1.toArray⟩ : ByteArray) = a := mk_of_L ha
  have e2 : (⟨(Lib.cut (L s) [c]).2.1.toArray⟩ : ByteArray) = b := mk_of_L hb
  rw [← hk, ← e1, ← e2]
  rfl
theorem int_as (s : ByteArray) (lo hi a e : Int) (h : numR (L s) lo hi = (a, e)) (w : World) (hs : s.size ≤ 1000000) (hv : ErrV w) (l1 : -9223372036854775808 ≤ lo) (l2 : hi ≤ 9223372036854775807) :
    Calls Tryd.prog 34 #[.string s, .int .i64 lo, .int .i64 hi] w fun x w' => x = .returned (.tuple #[.int .i64 a, .int .i64 e]) ∧ Below w.heap.size w w' := by
  have := int_any s lo hi w hs hv l1 l2
  rwa [h] at this
theorem feet_at (n d : Int) (f : ByteArray) (hf : L f = feetL n.toNat d.toNat) (w : World) (t : Tabs w) (h : ValidF n d) :
    Calls Tryd.prog 38 #[.agg #[.int .i64 n, .int .i64 d]] w fun e w' => e = .returned (.tuple #[.string f, .int .i64 0]) ∧ Below w.heap.size w w' := by
  have hp1 : ((n.toNat : Nat) : Int) = n := by have := h.2.2.1; omega
  have hp2 : ((d.toNat : Nat) : Int) = d := by have := h.1; omega
  have := feet_yes n.toNat d.toNat f hf w t (by rw [hp1, hp2]; exact h)
  rwa [hp1, hp2] at this
theorem str_ne {f s : ByteArray} (h : ¬ L f = L s) : (!f.toList == s.toList) = true := by
  rw [Lib.toList_data, Lib.toList_data, Bool.not_eq_true', beq_eq_false_iff_ne]; exact h
theorem str_eq {f s : ByteArray} (h : L f = L s) : (!f.toList == s.toList) = false := by
  rw [eq_of_L h]; simp
theorem str_ne' {f s : ByteArray} (h : ¬ L f = L s) : (f.toList == s.toList) = false := by
  rw [Lib.toList_data, Lib.toList_data, beq_eq_false_iff_ne]; exact h
theorem str_eq' {f s : ByteArray} (h : L f = L s) : (f.toList == s.toList) = true := by
  rw [eq_of_L h]; simp
/-- What the three numbers give. -/
def footW (l : List UInt8) (x1 e1 x2 e2 x3 e3 : Int) : Option (Int × Int) :=
  if e1 = 0 ∧ e2 = 0 ∧ e3 = 0 then (if ValidF (x1 * x3 + x2) x3 ∧ feetL (x1 * x3 + x2).toNat x3.toNat = l then some (x1 * x3 + x2, x3) else none) else none
set_option maxRecDepth 100000 in
set_option maxHeartbeats 6400000 in
theorem parseFeet_tt (s a p b c : ByteArray) (x1 x2 x3 e1 e2 e3 : Int) (w : World) (t : Tabs w) (hv : ErrV w)
    (q1 : L a = (Lib.cut (L s) [43]).1) (q2 : L p = (Lib.cut (L s) [43]).2.1) (q3 : (Lib.cut (L s) [43]).2.2 = true)
    (q6 : L b = (Lib.cut (L p) [47]).1) (q7 : L c = (Lib.cut (L p) [47]).2.1) (q8 : (Lib.cut (L p) [47]).2.2 = true)
    (hs : s.size ≤ 1000000) (z1 : ByteArray.size a ≤ 1000000) (z2 : ByteArray.size p ≤ 1000000) (z3 : b.size ≤ 1000000) (z4 : ByteArray.size c ≤ 1000000)
    (n1 : numR (L a) 0 64 = (x1, e1)) (n2 : numR (L b) 0 64 = (x2, e2)) (n3 : numR (L c) 1 15 = (x3, e3)) :
    Calls Tryd.prog 40 #[.string s] w fun e w' => e = .returned (footVal (footW (L s) x1 e1 x2 e2 x3 e3)) ∧ Below w.heap.size w w' := by
  have B1 : e1 = 0 → 0 ≤ x1 ∧ x1 ≤ 64 := fun e => numR_ok (by rw [n1, e])
  have B2 : e2 = 0 → 0 ≤ x2 ∧ x2 ≤ 64 := fun e => numR_ok (by rw [n2, e])
  have B3 : e3 = 0 → 1 ≤ x3 ∧ x3 ≤ 15 := fun e => numR_ok (by rw [n3, e])
  have C1 := Lib.hid (fun w t => cut_is 43 s _ _ _ q1 q2 q3 w t hs)
  have C2 := Lib.hid (fun w t => cut_is 47 _ b _ _ q6 q7 q8 w t z2)
  have I1 := Lib.hid (fun w hv => int_as a 0 64 x1 e1 n1 w z1 hv (by omega) (by omega))
  have I2 := Lib.hid (fun w hv => int_as b 0 64 x2 e2 n2 w z3 hv (by omega) (by omega))
  have I3 := Lib.hid (fun w hv => int_as c 1 15 x3 e3 n3 w z4 hv (by omega) (by omega))
  have HB1 := Lib.hid B1
  have HB2 := Lib.hid B2
  have HB3 := Lib.hid B3
  clear q1 q2 q3 q6 q7 q8 n1 n2 n3 B1 B2 B3 z1 z2 z3 z4
  have hb0 : Below w.heap.size w (w.alloc (.cells #[.int .i64 0, .int .i64 0] 56)) := (Below.refl _ _).alloc (Nat.le_refl _) _
  have t0 := t.below hb0
  have k0 : Blk (w.alloc (.cells #[.int .i64 0, .int .i64 0] 56)) w.heap.size 56 #[.int .i64 0, .int .i64 0] := Blk.new _ _ _
  go_enter Tryd.func40, Tryd.ntmps40
  go_wp2_with (go_at_call 65; with_reducible refine (C1.out _ t0).mono ?_; rintro e w1 ⟨rfl, hb1⟩)
  have hB1 := below_step hb0 hb1
  have t1 := t.below hB1
  replace k0 := k0.below hb1
  clear hb1
  go_wp2_with (go_at_call 65; with_reducible refine (C2.out _ t1).mono ?_; rintro e w2 ⟨rfl, hb2⟩)
  have hB2 := below_step hB1 hb2
  have v2 := hv.below hB2
  replace k0 := k0.below hb2
  clear hb2
  go_wp2_with (go_at_call 34; with_reducible refine (I1.out _ v2).mono ?_; rintro e w3 ⟨rfl, hb3⟩)
  have hB3 := below_step hB2 hb3
  have v3 := hv.below hB3
  replace k0 := k0.below hb3
  clear hb3
  go_wp2_with (go_at_call 34; with_reducible refine (I2.out _ v3).mono ?_; rintro e w4 ⟨rfl, hb4⟩)
  have hB4 := below_step hB3 hb4
  have v4 := hv.below hB4
  replace k0 := k0.below hb4
  clear hb4
  by_cases h0 : e1 = 0 ∧ e2 = 0 ∧ e3 = 0
  · obtain ⟨rfl, rfl, rfl⟩ := h0
    obtain ⟨a1, a2⟩ := HB1.out rfl
    obtain ⟨a3, a4⟩ := HB2.out rfl
    obtain ⟨a5, a6⟩ := HB3.out rfl
    have m1 : 0 ≤ x1 * x3 := Int.mul_nonneg a1 (by omega)
    have m2 : x1 * x3 ≤ 64 * 15 := Int.mul_le_mul a2 a6 (by omega) (by omega)
    clear HB1 HB2 HB3
    by_cases hV : ValidF (x1 * x3 + x2) x3
    · obtain ⟨f, hf⟩ := mkL (feetL (x1 * x3 + x2).toNat x3.toNat)
      have CF := Lib.hid (fun w t => feet_at _ _ f hf w t hV)
      by_cases hfs : L f = L s
      · have HW := Lib.hid (show footW (L s) x1 0 x2 0 x3 0 = some (x1 * x3 + x2, x3) by unfold footW; rw [if_pos ⟨rfl, rfl, rfl⟩, if_pos ⟨hV, by rw [← hf]; exact hfs⟩])
        have g1 := str_eq hfs
        have g2 := str_eq' hfs
        clear hfs hV hf
        go_wp2_with (go_at_call 34; with_reducible refine (I3.out _ v4).mono ?_; rintro e w5 ⟨rfl, hb5⟩)
        have hB5 := below_step hB4 hb5
        replace k0 := k0.below hb5
        have hb6 : Below w.heap.size w (w5.alloc (.cells #[.int .i64 (x1 * x3 + x2), .int .i64 x3] 56)) := hB5.alloc hB5.size _
        refine (CF.out _ (t.below hb6)).mono ?_
        rintro e w6 ⟨rfl, hb7⟩
        have hB6 := below_step hb6 hb7
        have k1 := (Blk.new w5 56 #[.int .i64 (x1 * x3 + x2), .int .i64 x3]).below hb7
        replace k0 := (k0.alloc _).below hb7
        obtain ⟨cA, cB, fA, fB⟩ := k0.two
        obtain ⟨cC, cD, fC, fD⟩ := k1.two
        clear hb7 hb6
        go_wp2
        have y0 : Blk _ w.heap.size 56 #[.int .i64 (x1 * x3 + x2), .int .i64 0] := (k0).set 0 (.int .i64 (x1 * x3 + x2))
        have y1 : Blk _ w.heap.size 56 #[.int .i64 (x1 * x3 + x2), .int .i64 x3] := y0.set 1 (.int .i64 x3)
        obtain ⟨yC, yD, _, _⟩ := y1.two
        refine bodyPost_ret (v := .tuple #[.agg #[.int .i64 (x1 * x3 + x2), .int .i64 x3], .int .i64 0]) (by simp [results, Tryd.results40, go_sem, yC, yD]) rfl ⟨by rw [HW.out]; rfl, ?_⟩
        exact (hB6.setCell (p := ⟨w.heap.size, 0, none⟩) (Nat.le_refl _) _).setCell (p := ⟨w.heap.size, 1, none⟩) (Nat.le_refl _) _
      · have HW := Lib.hid (show footW (L s) x1 0 x2 0 x3 0 = none by unfold footW; rw [if_pos ⟨rfl, rfl, rfl⟩, if_neg (fun h => hfs (by rw [hf]; exact h.2))])
        have g1 := str_ne hfs
        have g2 := str_ne' hfs
        clear hfs hV hf
        go_wp2_with (go_at_call 34; with_reducible refine (I3.out _ v4).mono ?_; rintro e w5 ⟨rfl, hb5⟩)
        have hB5 := below_step hB4 hb5
        replace k0 := k0.below hb5
        have hb6 : Below w.heap.size w (w5.alloc (.cells #[.int .i64 (x1 * x3 + x2), .int .i64 x3] 56)) := hB5.alloc hB5.size _
        refine (CF.out _ (t.below hb6)).mono ?_
        rintro e w6 ⟨rfl, hb7⟩
        have hB6 := below_step hb6 hb7
        have k1 := (Blk.new w5 56 #[.int .i64 (x1 * x3 + x2), .int .i64 x3]).below hb7
        replace k0 := (k0.alloc _).below hb7
        obtain ⟨cA, cB, fA, fB⟩ := k0.two
        obtain ⟨cC, cD, fC, fD⟩ := k1.two
        clear hb7 hb6
        go_wp2
        have y0 : Blk _ w.heap.size 56 #[.int .i64 0, .int .i64 0] := (k0).set 0 (.int .i64 0)
        have y1 : Blk _ w.heap.size 56 #[.int .i64 0, .int .i64 0] := y0.set 1 (.int .i64 0)
        obtain ⟨yC, yD, _, _⟩ := y1.two
        refine bodyPost_ret (v := .tuple #[.agg #[.int .i64 0, .int .i64 0], .int .i64 6]) (by simp [results, Tryd.results40, go_sem, yC, yD]) rfl ⟨by rw [HW.out]; rfl, ?_⟩
        exact (hB6.setCell (p := ⟨w.heap.size, 0, none⟩) (Nat.le_refl _) _).setCell (p := ⟨w.heap.size, 1, none⟩) (Nat.le_refl _) _
    · have HW := Lib.hid (show footW (L s) x1 0 x2 0 x3 0 = none by unfold footW; rw [if_pos ⟨rfl, rfl, rfl⟩, if_neg (fun h => hV h.1)])
      have CF := Lib.hid (fun w => feet_no _ _ w hV)
      clear hV
      go_wp2_with (go_at_call 34; with_reducible refine (I3.out _ v4).mono ?_; rintro e w5 ⟨rfl, hb5⟩)
      have hB5 := below_step hB4 hb5
      replace k0 := k0.below hb5
      have hb6 : Below w.heap.size w (w5.alloc (.cells #[.int .i64 (x1 * x3 + x2), .int .i64 x3] 56)) := hB5.alloc hB5.size _
      refine (CF.out _).mono ?_
      rintro e w6 ⟨rfl, hb7⟩
      have hB6 := below_step hb6 hb7
      have k1 := (Blk.new w5 56 #[.int .i64 (x1 * x3 + x2), .int .i64 x3]).below hb7
      replace k0 := (k0.alloc _).below hb7
      obtain ⟨cA, cB, fA, fB⟩ := k0.two
      obtain ⟨cC, cD, fC, fD⟩ := k1.two
      clear hb7 hb6
      go_wp2
      have y0 : Blk _ w.heap.size 56 #[.int .i64 0, .int .i64 0] := (k0).set 0 (.int .i64 0)
      have y1 : Blk _ w.heap.size 56 #[.int .i64 0, .int .i64 0] := y0.set 1 (.int .i64 0)
      obtain ⟨yC, yD, _, _⟩ := y1.two
      refine bodyPost_ret (v := .tuple #[.agg #[.int .i64 0, .int .i64 0], .int .i64 6]) (by simp [results, Tryd.results40, go_sem, yC, yD]) rfl ⟨by rw [HW.out]; rfl, ?_⟩
      exact (hB6.setCell (p := ⟨w.heap.size, 0, none⟩) (Nat.le_refl _) _).setCell (p := ⟨w.heap.size, 1, none⟩) (Nat.le_refl _) _
  · have HW := Lib.hid (show footW (L s) x1 e1 x2 e2 x3 e3 = none by unfold footW; rw [if_neg h0])
    have h1 : (¬ e1 = 0) ∨ (e1 = 0 ∧ ¬ e2 = 0) ∨ (e1 = 0 ∧ e2 = 0 ∧ ¬ e3 = 0) := by omega
    clear h0 HB1 HB2 HB3
    rcases h1 with h1 | ⟨rfl, h1⟩ | ⟨rfl, rfl, h1⟩
    · have g1 : (e1 == 0) = false := beq_eq_false_iff_ne.2 h1
      have H1 := Lib.hid h1
      clear h1
      go_wp2_with (go_at_call 34; with_reducible refine (I3.out _ v4).mono ?_; rintro e w5 ⟨rfl, hb5⟩; have hB5 := below_step hB4 hb5; replace k0 := k0.below hb5; obtain ⟨cA, cB, fA, fB⟩ := k0.two)
      have y0 : Blk _ w.heap.size 56 #[.int .i64 0, .int .i64 0] := (k0).set 0 (.int .i64 0)
      have y1 : Blk _ w.heap.size 56 #[.int .i64 0, .int .i64 0] := y0.set 1 (.int .i64 0)
      obtain ⟨yC, yD, _, _⟩ := y1.two
      refine bodyPost_ret (v := .tuple #[.agg #[.int .i64 0, .int .i64 0], .int .i64 6]) (by simp [results, Tryd.results40, go_sem, yC, yD]) rfl ⟨by rw [HW.out]; rfl, ?_⟩
      exact (hB5.setCell (p := ⟨w.heap.size, 0, none⟩) (Nat.le_refl _) _).setCell (p := ⟨w.heap.size, 1, none⟩) (Nat.le_refl _) _
    · have g1 : (e2 == 0) = false := beq_eq_false_iff_ne.2 h1
      have H1 := Lib.hid h1
      clear h1
      go_wp2_with (go_at_call 34; with_reducible refine (I3.out _ v4).mono ?_; rintro e w5 ⟨rfl, hb5⟩; have hB5 := below_step hB4 hb5; replace k0 := k0.below hb5; obtain ⟨cA, cB, fA, fB⟩ := k0.two)
      have y0 : Blk _ w.heap.size 56 #[.int .i64 0, .int .i64 0] := (k0).set 0 (.int .i64 0)
      have y1 : Blk _ w.heap.size 56 #[.int .i64 0, .int .i64 0] := y0.set 1 (.int .i64 0)
      obtain ⟨yC, yD, _, _⟩ := y1.two
      refine bodyPost_ret (v := .tuple #[.agg #[.int .i64 0, .int .i64 0], .int .i64 6]) (by simp [results, Tryd.results40, go_sem, yC, yD]) rfl ⟨by rw [HW.out]; rfl, ?_⟩
      exact (hB5.setCell (p := ⟨w.heap.size, 0, none⟩) (Nat.le_refl _) _).setCell (p := ⟨w.heap.size, 1, none⟩) (Nat.le_refl _) _
    · have g1 : (e3 == 0) = false := beq_eq_false_iff_ne.2 h1
      have H1 := Lib.hid h1
      clear h1
      go_wp2_with (go_at_call 34; with_reducible refine (I3.out _ v4).mono ?_; rintro e w5 ⟨rfl, hb5⟩; have hB5 := below_step hB4 hb5; replace k0 := k0.below hb5; obtain ⟨cA, cB, fA, fB⟩ := k0.two)
      have y0 : Blk _ w.heap.size 56 #[.int .i64 0, .int .i64 0] := (k0).set 0 (.int .i64 0)
      have y1 : Blk _ w.heap.size 56 #[.int .i64 0, .int .i64 0] := y0.set 1 (.int .i64 0)
      obtain ⟨yC, yD, _, _⟩ := y1.two
      refine bodyPost_ret (v := .tuple #[.agg #[.int .i64 0, .int .i64 0], .int .i64 6]) (by simp [results, Tryd.results40, go_sem, yC, yD]) rfl ⟨by rw [HW.out]; rfl, ?_⟩
      exact (hB5.setCell (p := ⟨w.heap.size, 0, none⟩) (Nat.le_refl _) _).setCell (p := ⟨w.heap.size, 1, none⟩) (Nat.le_refl _) _
set_option maxRecDepth 100000 in
set_option maxHeartbeats 6400000 in
theorem parseFeet_tf (s a p b c' : ByteArray) (x1 x2 x3 e1 e2 e3 : Int) (w : World) (t : Tabs w) (hv : ErrV w)
    (q1 : L a = (Lib.cut (L s) [43]).1) (q2 : L p = (Lib.cut (L s) [43]).2.1) (q3 : (Lib.cut (L s) [43]).2.2 = true)
    (q6 : L b = (Lib.cut (L p) [47]).1) (q7 : L c' = (Lib.cut (L p) [47]).2.1) (q8 : (Lib.cut (L p) [47]).2.2 = false)
    (hs : s.size ≤ 1000000) (z1 : ByteArray.size a ≤ 1000000) (z2 : ByteArray.size p ≤ 1000000) (z3 : b.size ≤ 1000000) (z4 : ByteArray.size ⟨#[49]⟩ ≤ 1000000)
    (n1 : numR (L a) 0 64 = (x1, e1)) (n2 : numR (L b) 0 64 = (x2, e2)) (n3 : numR (L ⟨#[49]⟩) 1 15 = (x3, e3)) :
    Calls Tryd.prog 40 #[.string s] w fun e w' => e = .returned (footVal (footW (L s) x1 e1 x2 e2 x3 e3)) ∧ Below w.heap.size w w' := by
  have B1 : e1 = 0 → 0 ≤ x1 ∧ x1 ≤ 64 := fun e => numR_ok (by rw [n1, e])
  have B2 : e2 = 0 → 0 ≤ x2 ∧ x2 ≤ 64 := fun e => numR_ok (by rw [n2, e])
  have B3 : e3 = 0 → 1 ≤ x3 ∧ x3 ≤ 15 := fun e => numR_ok (by rw [n3, e])
  have C1 := Lib.hid (fun w t => cut_is 43 s _ _ _ q1 q2 q3 w t hs)
  have C2 := Lib.hid (fun w t => cut_is 47 _ b _ _ q6 q7 q8 w t z2)
  have I1 := Lib.hid (fun w hv => int_as a 0 64 x1 e1 n1 w z1 hv (by omega) (by omega))
  have I2 := Lib.hid (fun w hv => int_as b 0 64 x2 e2 n2 w z3 hv (by omega) (by omega))
  have I3 := Lib.hid (fun w hv => int_as ⟨#[49]⟩ 1 15 x3 e3 n3 w z4 hv (by omega) (by omega))
  have HB1 := Lib.hid B1
  have HB2 := Lib.hid B2
  have HB3 := Lib.hid B3
  clear q1 q2 q3 q6 q7 q8 n1 n2 n3 B1 B2 B3 z1 z2 z3 z4
  have hb0 : Below w.heap.size w (w.alloc (.cells #[.int .i64 0, .int .i64 0] 56)) := (Below.refl _ _).alloc (Nat.le_refl _) _
  have t0 := t.below hb0
  have k0 : Blk (w.alloc (.cells #[.int .i64 0, .int .i64 0] 56)) w.heap.size 56 #[.int .i64 0, .int .i64 0] := Blk.new _ _ _
  go_enter Tryd.func40, Tryd.ntmps40
  go_wp2_with (go_at_call 65; with_reducible refine (C1.out _ t0).mono ?_; rintro e w1 ⟨rfl, hb1⟩)
  have hB1 := below_step hb0 hb1
  have t1 := t.below hB1
  replace k0 := k0.below hb1
  clear hb1
  go_wp2_with (go_at_call 65; with_reducible refine (C2.out _ t1).mono ?_; rintro e w2 ⟨rfl, hb2⟩)
  have hB2 := below_step hB1 hb2
  have v2 := hv.below hB2
  replace k0 := k0.below hb2
  clear hb2
  go_wp2_with (go_at_call 34; with_reducible refine (I1.out _ v2).mono ?_; rintro e w3 ⟨rfl, hb3⟩)
  have hB3 := below_step hB2 hb3
  have v3 := hv.below hB3
  replace k0 := k0.below hb3
  clear hb3
  go_wp2_with (go_at_call 34; with_reducible refine (I2.out _ v3).mono ?_; rintro e w4 ⟨rfl, hb4⟩)
  have hB4 := below_step hB3 hb4
  have v4 := hv.below hB4
  replace k0 := k0.below hb4
  clear hb4
  by_cases h0 : e1 = 0 ∧ e2 = 0 ∧ e3 = 0
  · obtain ⟨rfl, rfl, rfl⟩ := h0
    obtain ⟨a1, a2⟩ := HB1.out rfl
    obtain ⟨a3, a4⟩ := HB2.out rfl
    obtain ⟨a5, a6⟩ := HB3.out rfl
    have m1 : 0 ≤ x1 * x3 := Int.mul_nonneg a1 (by omega)
    have m2 : x1 * x3 ≤ 64 * 15 := Int.mul_le_mul a2 a6 (by omega) (by omega)
    clear HB1 HB2 HB3
    by_cases hV : ValidF (x1 * x3 + x2) x3
    · obtain ⟨f, hf⟩ := mkL (feetL (x1 * x3 + x2).toNat x3.toNat)
      have CF := Lib.hid (fun w t => feet_at _ _ f hf w t hV)
      by_cases hfs : L f = L s
      · have HW := Lib.hid (show footW (L s) x1 0 x2 0 x3 0 = some (x1 * x3 + x2, x3) by unfold footW; rw [if_pos ⟨rfl, rfl, rfl⟩, if_pos ⟨hV, by rw [← hf]; exact hfs⟩])
        have g1 := str_eq hfs
        have g2 := str_eq' hfs
        clear hfs hV hf
        go_wp2_with (go_at_call 34; with_reducible refine (I3.out _ v4).mono ?_; rintro e w5 ⟨rfl, hb5⟩)
        have hB5 := below_step hB4 hb5
        replace k0 := k0.below hb5
        have hb6 : Below w.heap.size w (w5.alloc (.cells #[.int .i64 (x1 * x3 + x2), .int .i64 x3] 56)) := hB5.alloc hB5.size _
        refine (CF.out _ (t.below hb6)).mono ?_
        rintro e w6 ⟨rfl, hb7⟩
        have hB6 := below_step hb6 hb7
        have k1 := (Blk.new w5 56 #[.int .i64 (x1 * x3 + x2), .int .i64 x3]).below hb7
        replace k0 := (k0.alloc _).below hb7
        obtain ⟨cA, cB, fA, fB⟩ := k0.two
        obtain ⟨cC, cD, fC, fD⟩ := k1.two
        clear hb7 hb6
        go_wp2
        have y0 : Blk _ w.heap.size 56 #[.int .i64 (x1 * x3 + x2), .int .i64 0] := (k0).set 0 (.int .i64 (x1 * x3 + x2))
        have y1 : Blk _ w.heap.size 56 #[.int .i64 (x1 * x3 + x2), .int .i64 x3] := y0.set 1 (.int .i64 x3)
        obtain ⟨yC, yD, _, _⟩ := y1.two
        refine bodyPost_ret (v := .tuple #[.agg #[.int .i64 (x1 * x3 + x2), .int .i64 x3], .int .i64 0]) (by simp [results, Tryd.results40, go_sem, yC, yD]) rfl ⟨by rw [HW.out]; rfl, ?_⟩
        exact (hB6.setCell (p := ⟨w.heap.size, 0, none⟩) (Nat.le_refl _) _).setCell (p := ⟨w.heap.size, 1, none⟩) (Nat.le_refl _) _
      · have HW := Lib.hid (show footW (L s) x1 0 x2 0 x3 0 = none by unfold footW; rw [if_pos ⟨rfl, rfl, rfl⟩, if_neg (fun h => hfs (by rw [hf]; exact h.2))])
        have g1 := str_ne hfs
        have g2 := str_ne' hfs
        clear hfs hV hf
        go_wp2_with (go_at_call 34; with_reducible refine (I3.out _ v4).mono ?_; rintro e w5 ⟨rfl, hb5⟩)
        have hB5 := below_step hB4 hb5
        replace k0 := k0.below hb5
        have hb6 : Below w.heap.size w (w5.alloc (.cells #[.int .i64 (x1 * x3 + x2), .int .i64 x3] 56)) := hB5.alloc hB5.size _
        refine (CF.out _ (t.below hb6)).mono ?_
        rintro e w6 ⟨rfl, hb7⟩
        have hB6 := below_step hb6 hb7
        have k1 := (Blk.new w5 56 #[.int .i64 (x1 * x3 + x2), .int .i64 x3]).below hb7
        replace k0 := (k0.alloc _).below hb7
        obtain ⟨cA, cB, fA, fB⟩ := k0.two
        obtain ⟨cC, cD, fC, fD⟩ := k1.two
        clear hb7 hb6
        go_wp2
        have y0 : Blk _ w.heap.size 56 #[.int .i64 0, .int .i64 0] := (k0).set 0 (.int .i64 0)
        have y1 : Blk _ w.heap.size 56 #[.int .i64 0, .int .i64 0] := y0.set 1 (.int .i64 0)
        obtain ⟨yC, yD, _, _⟩ := y1.two
        refine bodyPost_ret (v := .tuple #[.agg #[.int .i64 0, .int .i64 0], .int .i64 6]) (by simp [results, Tryd.results40, go_sem, yC, yD]) rfl ⟨by rw [HW.out]; rfl, ?_⟩
        exact (hB6.setCell (p := ⟨w.heap.size, 0, none⟩) (Nat.le_refl _) _).setCell (p := ⟨w.heap.size, 1, none⟩) (Nat.le_refl _) _
    · have HW := Lib.hid (show footW (L s) x1 0 x2 0 x3 0 = none by unfold footW; rw [if_pos ⟨rfl, rfl, rfl⟩, if_neg (fun h => hV h.1)])
      have CF := Lib.hid (fun w => feet_no _ _ w hV)
      clear hV
      go_wp2_with (go_at_call 34; with_reducible refine (I3.out _ v4).mono ?_; rintro e w5 ⟨rfl, hb5⟩)
      have hB5 := below_step hB4 hb5
      replace k0 := k0.below hb5
      have hb6 : Below w.heap.size w (w5.alloc (.cells #[.int .i64 (x1 * x3 + x2), .int .i64 x3] 56)) := hB5.alloc hB5.size _
      refine (CF.out _).mono ?_
      rintro e w6 ⟨rfl, hb7⟩
      have hB6 := below_step hb6 hb7
      have k1 := (Blk.new w5 56 #[.int .i64 (x1 * x3 + x2), .int .i64 x3]).below hb7
      replace k0 := (k0.alloc _).below hb7
      obtain ⟨cA, cB, fA, fB⟩ := k0.two
      obtain ⟨cC, cD, fC, fD⟩ := k1.two
      clear hb7 hb6
      go_wp2
      have y0 : Blk _ w.heap.size 56 #[.int .i64 0, .int .i64 0] := (k0).set 0 (.int .i64 0)
      have y1 : Blk _ w.heap.size 56 #[.int .i64 0, .int .i64 0] := y0.set 1 (.int .i64 0)
      obtain ⟨yC, yD, _, _⟩ := y1.two
      refine bodyPost_ret (v := .tuple #[.agg #[.int .i64 0, .int .i64 0], .int .i64 6]) (by simp [results, Tryd.results40, go_sem, yC, yD]) rfl ⟨by rw [HW.out]; rfl, ?_⟩
      exact (hB6.setCell (p := ⟨w.heap.size, 0, none⟩) (Nat.le_refl _) _).setCell (p := ⟨w.heap.size, 1, none⟩) (Nat.le_refl _) _
  · have HW := Lib.hid (show footW (L s) x1 e1 x2 e2 x3 e3 = none by unfold footW; rw [if_neg h0])
    have h1 : (¬ e1 = 0) ∨ (e1 = 0 ∧ ¬ e2 = 0) ∨ (e1 = 0 ∧ e2 = 0 ∧ ¬ e3 = 0) := by omega
    clear h0 HB1 HB2 HB3
    rcases h1 with h1 | ⟨rfl, h1⟩ | ⟨rfl, rfl, h1⟩
    · have g1 : (e1 == 0) = false := beq_eq_false_iff_ne.2 h1
      have H1 := Lib.hid h1
      clear h1
      go_wp2_with (go_at_call 34; with_reducible refine (I3.out _ v4).mono ?_; rintro e w5 ⟨rfl, hb5⟩; have hB5 := below_step hB4 hb5; replace k0 := k0.below hb5; obtain ⟨cA, cB, fA, fB⟩ := k0.two)
      have y0 : Blk _ w.heap.size 56 #[.int .i64 0, .int .i64 0] := (k0).set 0 (.int .i64 0)
      have y1 : Blk _ w.heap.size 56 #[.int .i64 0, .int .i64 0] := y0.set 1 (.int .i64 0)
      obtain ⟨yC, yD, _, _⟩ := y1.two
      refine bodyPost_ret (v := .tuple #[.agg #[.int .i64 0, .int .i64 0], .int .i64 6]) (by simp [results, Tryd.results40, go_sem, yC, yD]) rfl ⟨by rw [HW.out]; rfl, ?_⟩
      exact (hB5.setCell (p := ⟨w.heap.size, 0, none⟩) (Nat.le_refl _) _).setCell (p := ⟨w.heap.size, 1, none⟩) (Nat.le_refl _) _
    · have g1 : (e2 == 0) = false := beq_eq_false_iff_ne.2 h1
      have H1 := Lib.hid h1
      clear h1
      go_wp2_with (go_at_call 34; with_reducible refine (I3.out _ v4).mono ?_; rintro e w5 ⟨rfl, hb5⟩; have hB5 := below_step hB4 hb5; replace k0 := k0.below hb5; obtain ⟨cA, cB, fA, fB⟩ := k0.two)
      have y0 : Blk _ w.heap.size 56 #[.int .i64 0, .int .i64 0] := (k0).set 0 (.int .i64 0)
      have y1 : Blk _ w.heap.size 56 #[.int .i64 0, .int .i64 0] := y0.set 1 (.int .i64 0)
      obtain ⟨yC, yD, _, _⟩ := y1.two
      refine bodyPost_ret (v := .tuple #[.agg #[.int .i64 0, .int .i64 0], .int .i64 6]) (by simp [results, Tryd.results40, go_sem, yC, yD]) rfl ⟨by rw [HW.out]; rfl, ?_⟩
      exact (hB5.setCell (p := ⟨w.heap.size, 0, none⟩) (Nat.le_refl _) _).setCell (p := ⟨w.heap.size, 1, none⟩) (Nat.le_refl _) _
    · have g1 : (e3 == 0) = false := beq_eq_false_iff_ne.2 h1
      have H1 := Lib.hid h1
      clear h1
      go_wp2_with (go_at_call 34; with_reducible refine (I3.out _ v4).mono ?_; rintro e w5 ⟨rfl, hb5⟩; have hB5 := below_step hB4 hb5; replace k0 := k0.below hb5; obtain ⟨cA, cB, fA, fB⟩ := k0.two)
      have y0 : Blk _ w.heap.size 56 #[.int .i64 0, .int .i64 0] := (k0).set 0 (.int .i64 0)
      have y1 : Blk _ w.heap.size 56 #[.int .i64 0, .int .i64 0] := y0.set 1 (.int .i64 0)
      obtain ⟨yC, yD, _, _⟩ := y1.two
      refine bodyPost_ret (v := .tuple #[.agg #[.int .i64 0, .int .i64 0], .int .i64 6]) (by simp [results, Tryd.results40, go_sem, yC, yD]) rfl ⟨by rw [HW.out]; rfl, ?_⟩
      exact (hB5.setCell (p := ⟨w.heap.size, 0, none⟩) (Nat.le_refl _) _).setCell (p := ⟨w.heap.size, 1, none⟩) (Nat.le_refl _) _
set_option maxRecDepth 100000 in
set_option maxHeartbeats 6400000 in
theorem parseFeet_ft (s a' p' b c : ByteArray) (x1 x2 x3 e1 e2 e3 : Int) (w : World) (t : Tabs w) (hv : ErrV w)
    (q1 : L a' = (Lib.cut (L s) [43]).1) (q2 : L p' = (Lib.cut (L s) [43]).2.1) (q3 : (Lib.cut (L s) [43]).2.2 = false)
    (q6 : L b = (Lib.cut (L s) [47]).1) (q7 : L c = (Lib.cut (L s) [47]).2.1) (q8 : (Lib.cut (L s) [47]).2.2 = true)
    (hs : s.size ≤ 1000000) (z1 : ByteArray.size ⟨#[48]⟩ ≤ 1000000) (z2 : ByteArray.size s ≤ 1000000) (z3 : b.size ≤ 1000000) (z4 : ByteArray.size c ≤ 1000000)
    (n1 : numR (L ⟨#[48]⟩) 0 64 = (x1, e1)) (n2 : numR (L b) 0 64 = (x2, e2)) (n3 : numR (L c) 1 15 = (x3, e3)) :
    Calls Tryd.prog 40 #[.string s] w fun e w' => e = .returned (footVal (footW (L s) x1 e1 x2 e2 x3 e3)) ∧ Below w.heap.size w w' := by
  have B1 : e1 = 0 → 0 ≤ x1 ∧ x1 ≤ 64 := fun e => numR_ok (by rw [n1, e])
  have B2 : e2 = 0 → 0 ≤ x2 ∧ x2 ≤ 64 := fun e => numR_ok (by rw [n2, e])
  have B3 : e3 = 0 → 1 ≤ x3 ∧ x3 ≤ 15 := fun e => numR_ok (by rw [n3, e])
  have C1 := Lib.hid (fun w t => cut_is 43 s _ _ _ q1 q2 q3 w t hs)
  have C2 := Lib.hid (fun w t => cut_is 47 _ b _ _ q6 q7 q8 w t z2)
  have I1 := Lib.hid (fun w hv => int_as ⟨#[48]⟩ 0 64 x1 e1 n1 w z1 hv (by omega) (by omega))
  have I2 := Lib.hid (fun w hv => int_as b 0 64 x2 e2 n2 w z3 hv (by omega) (by omega))
  have I3 := Lib.hid (fun w hv => int_as c 1 15 x3 e3 n3 w z4 hv (by omega) (by omega))
  have HB1 := Lib.hid B1
  have HB2 := Lib.hid B2
  have HB3 := Lib.hid B3
  clear q1 q2 q3 q6 q7 q8 n1 n2 n3 B1 B2 B3 z1 z2 z3 z4
  have hb0 : Below w.heap.size w (w.alloc (.cells #[.int .i64 0, .int .i64 0] 56)) := (Below.refl _ _).alloc (Nat.le_refl _) _
  have t0 := t.below hb0
  have k0 : Blk (w.alloc (.cells #[.int .i64 0, .int .i64 0] 56)) w.heap.size 56 #[.int .i64 0, .int .i64 0] := Blk.new _ _ _
  go_enter Tryd.func40, Tryd.ntmps40
  go_wp2_with (go_at_call 65; with_reducible refine (C1.out _ t0).mono ?_; rintro e w1 ⟨rfl, hb1⟩)
  have hB1 := below_step hb0 hb1
  have t1 := t.below hB1
  replace k0 := k0.below hb1
  clear hb1
  go_wp2_with (go_at_call 65; with_reducible refine (C2.out _ t1).mono ?_; rintro e w2 ⟨rfl, hb2⟩)
  have hB2 := below_step hB1 hb2
  have v2 := hv.below hB2
  replace k0 := k0.below hb2
  clear hb2
  go_wp2_with (go_at_call 34; with_reducible refine (I1.out _ v2).mono ?_; rintro e w3 ⟨rfl, hb3⟩)
  have hB3 := below_step hB2 hb3
  have v3 := hv.below hB3
  replace k0 := k0.below hb3
  clear hb3
  go_wp2_with (go_at_call 34; with_reducible refine (I2.out _ v3).mono ?_; rintro e w4 ⟨rfl, hb4⟩)
  have hB4 := below_step hB3 hb4
  have v4 := hv.below hB4
  replace k0 := k0.below hb4
  clear hb4
  by_cases h0 : e1 = 0 ∧ e2 = 0 ∧ e3 = 0
  · obtain ⟨rfl, rfl, rfl⟩ := h0
    obtain ⟨a1, a2⟩ := HB1.out rfl
    obtain ⟨a3, a4⟩ := HB2.out rfl
    obtain ⟨a5, a6⟩ := HB3.out rfl
    have m1 : 0 ≤ x1 * x3 := Int.mul_nonneg a1 (by omega)
    have m2 : x1 * x3 ≤ 64 * 15 := Int.mul_le_mul a2 a6 (by omega) (by omega)
    clear HB1 HB2 HB3
    by_cases hV : ValidF (x1 * x3 + x2) x3
    · obtain ⟨f, hf⟩ := mkL (feetL (x1 * x3 + x2).toNat x3.toNat)
      have CF := Lib.hid (fun w t => feet_at _ _ f hf w t hV)
      by_cases hfs : L f = L s
      · have HW := Lib.hid (show footW (L s) x1 0 x2 0 x3 0 = some (x1 * x3 + x2, x3) by unfold footW; rw [if_pos ⟨rfl, rfl, rfl⟩, if_pos ⟨hV, by rw [← hf]; exact hfs⟩])
        have g1 := str_eq hfs
        have g2 := str_eq' hfs
        clear hfs hV hf
        go_wp2_with (go_at_call 34; with_reducible refine (I3.out _ v4).mono ?_; rintro e w5 ⟨rfl, hb5⟩)
        have hB5 := below_step hB4 hb5
        replace k0 := k0.below hb5
        have hb6 : Below w.heap.size w (w5.alloc (.cells #[.int .i64 (x1 * x3 + x2), .int .i64 x3] 56)) := hB5.alloc hB5.size _
        refine (CF.out _ (t.below hb6)).mono ?_
        rintro e w6 ⟨rfl, hb7⟩
        have hB6 := below_step hb6 hb7
        have k1 := (Blk.new w5 56 #[.int .i64 (x1 * x3 + x2), .int .i64 x3]).below hb7
        replace k0 := (k0.alloc _).below hb7
        obtain ⟨cA, cB, fA, fB⟩ := k0.two
        obtain ⟨cC, cD, fC, fD⟩ := k1.two
        clear hb7 hb6
        go_wp2
        have y0 : Blk _ w.heap.size 56 #[.int .i64 (x1 * x3 + x2), .int .i64 0] := (k0).set 0 (.int .i64 (x1 * x3 + x2))
        have y1 : Blk _ w.heap.size 56 #[.int .i64 (x1 * x3 + x2), .int .i64 x3] := y0.set 1 (.int .i64 x3)
        obtain ⟨yC, yD, _, _⟩ := y1.two
        refine bodyPost_ret (v := .tuple #[.agg #[.int .i64 (x1 * x3 + x2), .int .i64 x3], .int .i64 0]) (by simp [results, Tryd.results40, go_sem, yC, yD]) rfl ⟨by rw [HW.out]; rfl, ?_⟩
        exact (hB6.setCell (p := ⟨w.heap.size, 0, none⟩) (Nat.le_refl _) _).setCell (p := ⟨w.heap.size, 1, none⟩) (Nat.le_refl _) _
      · have HW := Lib.hid (show footW (L s) x1 0 x2 0 x3 0 = none by unfold footW; rw [if_pos ⟨rfl, rfl, rfl⟩, if_neg (fun h => hfs (by rw [hf]; exact h.2))])
        have g1 := str_ne hfs
        have g2 := str_ne' hfs
        clear hfs hV hf
        go_wp2_with (go_at_call 34; with_reducible refine (I3.out _ v4).mono ?_; rintro e w5 ⟨rfl, hb5⟩)
        have hB5 := below_step hB4 hb5
        replace k0 := k0.below hb5
        have hb6 : Below w.heap.size w (w5.alloc (.cells #[.int .i64 (x1 * x3 + x2), .int .i64 x3] 56)) := hB5.alloc hB5.size _
        refine (CF.out _ (t.below hb6)).mono ?_
        rintro e w6 ⟨rfl, hb7⟩
        have hB6 := below_step hb6 hb7
        have k1 := (Blk.new w5 56 #[.int .i64 (x1 * x3 + x2), .int .i64 x3]).below hb7
        replace k0 := (k0.alloc _).below hb7
        obtain ⟨cA, cB, fA, fB⟩ := k0.two
        obtain ⟨cC, cD, fC, fD⟩ := k1.two
        clear hb7 hb6
        go_wp2
        have y0 : Blk _ w.heap.size 56 #[.int .i64 0, .int .i64 0] := (k0).set 0 (.int .i64 0)
        have y1 : Blk _ w.heap.size 56 #[.int .i64 0, .int .i64 0] := y0.set 1 (.int .i64 0)
        obtain ⟨yC, yD, _, _⟩ := y1.two
        refine bodyPost_ret (v := .tuple #[.agg #[.int .i64 0, .int .i64 0], .int .i64 6]) (by simp [results, Tryd.results40, go_sem, yC, yD]) rfl ⟨by rw [HW.out]; rfl, ?_⟩
        exact (hB6.setCell (p := ⟨w.heap.size, 0, none⟩) (Nat.le_refl _) _).setCell (p := ⟨w.heap.size, 1, none⟩) (Nat.le_refl _) _
    · have HW := Lib.hid (show footW (L s) x1 0 x2 0 x3 0 = none by unfold footW; rw [if_pos ⟨rfl, rfl, rfl⟩, if_neg (fun h => hV h.1)])
      have CF := Lib.hid (fun w => feet_no _ _ w hV)
      clear hV
      go_wp2_with (go_at_call 34; with_reducible refine (I3.out _ v4).mono ?_; rintro e w5 ⟨rfl, hb5⟩)
      have hB5 := below_step hB4 hb5
      replace k0 := k0.below hb5
      have hb6 : Below w.heap.size w (w5.alloc (.cells #[.int .i64 (x1 * x3 + x2), .int .i64 x3] 56)) := hB5.alloc hB5.size _
      refine (CF.out _).mono ?_
      rintro e w6 ⟨rfl, hb7⟩
      have hB6 := below_step hb6 hb7
      have k1 := (Blk.new w5 56 #[.int .i64 (x1 * x3 + x2), .int .i64 x3]).below hb7
      replace k0 := (k0.alloc _).below hb7
      obtain ⟨cA, cB, fA, fB⟩ := k0.two
      obtain ⟨cC, cD, fC, fD⟩ := k1.two
      clear hb7 hb6
      go_wp2
      have y0 : Blk _ w.heap.size 56 #[.int .i64 0, .int .i64 0] := (k0).set 0 (.int .i64 0)
      have y1 : Blk _ w.heap.size 56 #[.int .i64 0, .int .i64 0] := y0.set 1 (.int .i64 0)
      obtain ⟨yC, yD, _, _⟩ := y1.two
      refine bodyPost_ret (v := .tuple #[.agg #[.int .i64 0, .int .i64 0], .int .i64 6]) (by simp [results, Tryd.results40, go_sem, yC, yD]) rfl ⟨by rw [HW.out]; rfl, ?_⟩
      exact (hB6.setCell (p := ⟨w.heap.size, 0, none⟩) (Nat.le_refl _) _).setCell (p := ⟨w.heap.size, 1, none⟩) (Nat.le_refl _) _
  · have HW := Lib.hid (show footW (L s) x1 e1 x2 e2 x3 e3 = none by unfold footW; rw [if_neg h0])
    have h1 : (¬ e1 = 0) ∨ (e1 = 0 ∧ ¬ e2 = 0) ∨ (e1 = 0 ∧ e2 = 0 ∧ ¬ e3 = 0) := by omega
    clear h0 HB1 HB2 HB3
    rcases h1 with h1 | ⟨rfl, h1⟩ | ⟨rfl, rfl, h1⟩
    · have g1 : (e1 == 0) = false := beq_eq_false_iff_ne.2 h1
      have H1 := Lib.hid h1
      clear h1
      go_wp2_with (go_at_call 34; with_reducible refine (I3.out _ v4).mono ?_; rintro e w5 ⟨rfl, hb5⟩; have hB5 := below_step hB4 hb5; replace k0 := k0.below hb5; obtain ⟨cA, cB, fA, fB⟩ := k0.two)
      have y0 : Blk _ w.heap.size 56 #[.int .i64 0, .int .i64 0] := (k0).set 0 (.int .i64 0)
      have y1 : Blk _ w.heap.size 56 #[.int .i64 0, .int .i64 0] := y0.set 1 (.int .i64 0)
      obtain ⟨yC, yD, _, _⟩ := y1.two
      refine bodyPost_ret (v := .tuple #[.agg #[.int .i64 0, .int .i64 0], .int .i64 6]) (by simp [results, Tryd.results40, go_sem, yC, yD]) rfl ⟨by rw [HW.out]; rfl, ?_⟩
      exact (hB5.setCell (p := ⟨w.heap.size, 0, none⟩) (Nat.le_refl _) _).setCell (p := ⟨w.heap.size, 1, none⟩) (Nat.le_refl _) _
    · have g1 : (e2 == 0) = false := beq_eq_false_iff_ne.2 h1
      have H1 := Lib.hid h1
      clear h1
      go_wp2_with (go_at_call 34; with_reducible refine (I3.out _ v4).mono ?_; rintro e w5 ⟨rfl, hb5⟩; have hB5 := below_step hB4 hb5; replace k0 := k0.below hb5; obtain ⟨cA, cB, fA, fB⟩ := k0.two)
      have y0 : Blk _ w.heap.size 56 #[.int .i64 0, .int .i64 0] := (k0).set 0 (.int .i64 0)
      have y1 : Blk _ w.heap.size 56 #[.int .i64 0, .int .i64 0] := y0.set 1 (.int .i64 0)
      obtain ⟨yC, yD, _, _⟩ := y1.two
      refine bodyPost_ret (v := .tuple #[.agg #[.int .i64 0, .int .i64 0], .int .i64 6]) (by simp [results, Tryd.results40, go_sem, yC, yD]) rfl ⟨by rw [HW.out]; rfl, ?_⟩
      exact (hB5.setCell (p := ⟨w.heap.size, 0, none⟩) (Nat.le_refl _) _).setCell (p := ⟨w.heap.size, 1, none⟩) (Nat.le_refl _) _
    · have g1 : (e3 == 0) = false := beq_eq_false_iff_ne.2 h1
      have H1 := Lib.hid h1
      clear h1
      go_wp2_with (go_at_call 34; with_reducible refine (I3.out _ v4).mono ?_; rintro e w5 ⟨rfl, hb5⟩; have hB5 := below_step hB4 hb5; replace k0 := k0.below hb5; obtain ⟨cA, cB, fA, fB⟩ := k0.two)
      have y0 : Blk _ w.heap.size 56 #[.int .i64 0, .int .i64 0] := (k0).set 0 (.int .i64 0)
      have y1 : Blk _ w.heap.size 56 #[.int .i64 0, .int .i64 0] := y0.set 1 (.int .i64 0)
      obtain ⟨yC, yD, _, _⟩ := y1.two
      refine bodyPost_ret (v := .tuple #[.agg #[.int .i64 0, .int .i64 0], .int .i64 6]) (by simp [results, Tryd.results40, go_sem, yC, yD]) rfl ⟨by rw [HW.out]; rfl, ?_⟩
      exact (hB5.setCell (p := ⟨w.heap.size, 0, none⟩) (Nat.le_refl _) _).setCell (p := ⟨w.heap.size, 1, none⟩) (Nat.le_refl _) _
set_option maxRecDepth 100000 in
set_option maxHeartbeats 6400000 in
theorem parseFeet_ff (s a' p' b c' : ByteArray) (x1 x2 x3 e1 e2 e3 : Int) (w : World) (t : Tabs w) (hv : ErrV w)
    (q1 : L a' = (Lib.cut (L s) [43]).1) (q2 : L p' = (Lib.cut (L s) [43]).2.1) (q3 : (Lib.cut (L s) [43]).2.2 = false)
    (q6 : L b = (Lib.cut (L s) [47]).1) (q7 : L c' = (Lib.cut (L s) [47]).2.1) (q8 : (Lib.cut (L s) [47]).2.2 = false)
    (hs : s.size ≤ 1000000) (z1 : ByteArray.size ⟨#[48]⟩ ≤ 1000000) (z2 : ByteArray.size s ≤ 1000000) (z3 : b.size ≤ 1000000) (z4 : ByteArray.size ⟨#[49]⟩ ≤ 1000000)
    (n1 : numR (L ⟨#[48]⟩) 0 64 = (x1, e1)) (n2 : numR (L b) 0 64 = (x2, e2)) (n3 : numR (L ⟨#[49]⟩) 1 15 = (x3, e3)) :
    Calls Tryd.prog 40 #[.string s] w fun e w' => e = .returned (footVal (footW (L s) x1 e1 x2 e2 x3 e3)) ∧ Below w.heap.size w w' := by
  have B1 : e1 = 0 → 0 ≤ x1 ∧ x1 ≤ 64 := fun e => numR_ok (by rw [n1, e])
  have B2 : e2 = 0 → 0 ≤ x2 ∧ x2 ≤ 64 := fun e => numR_ok (by rw [n2, e])
  have B3 : e3 = 0 → 1 ≤ x3 ∧ x3 ≤ 15 := fun e => numR_ok (by rw [n3, e])
  have C1 := Lib.hid (fun w t => cut_is 43 s _ _ _ q1 q2 q3 w t hs)
  have C2 := Lib.hid (fun w t => cut_is 47 _ b _ _ q6 q7 q8 w t z2)
  have I1 := Lib.hid (fun w hv => int_as ⟨#[48]⟩ 0 64 x1 e1 n1 w z1 hv (by omega) (by omega))
  have I2 := Lib.hid (fun w hv => int_as b 0 64 x2 e2 n2 w z3 hv (by omega) (by omega))
  have I3 := Lib.hid (fun w hv => int_as ⟨#[49]⟩ 1 15 x3 e3 n3 w z4 hv (by omega) (by omega))
  have HB1 := Lib.hid B1
  have HB2 := Lib.hid B2
  have HB3 := Lib.hid B3
  clear q1 q2 q3 q6 q7 q8 n1 n2 n3 B1 B2 B3 z1 z2 z3 z4
  have hb0 : Below w.heap.size w (w.alloc (.cells #[.int .i64 0, .int .i64 0] 56)) := (Below.refl _ _).alloc (Nat.le_refl _) _
  have t0 := t.below hb0
  have k0 : Blk (w.alloc (.cells #[.int .i64 0, .int .i64 0] 56)) w.heap.size 56 #[.int .i64 0, .int .i64 0] := Blk.new _ _ _
  go_enter Tryd.func40, Tryd.ntmps40
  go_wp2_with (go_at_call 65; with_reducible refine (C1.out _ t0).mono ?_; rintro e w1 ⟨rfl, hb1⟩)
  have hB1 := below_step hb0 hb1
  have t1 := t.below hB1
  replace k0 := k0.below hb1
  clear hb1
  go_wp2_with (go_at_call 65; with_reducible refine (C2.out _ t1).mono ?_; rintro e w2 ⟨rfl, hb2⟩)
  have hB2 := below_step hB1 hb2
  have v2 := hv.below hB2
  replace k0 := k0.below hb2
  clear hb2
  go_wp2_with (go_at_call 34; with_reducible refine (I1.out _ v2).mono ?_; rintro e w3 ⟨rfl, hb3⟩)
  have hB3 := below_step hB2 hb3
  have v3 := hv.below hB3
  replace k0 := k0.below hb3
  clear hb3
  go_wp2_with (go_at_call 34; with_reducible refine (I2.out _ v3).mono ?_; rintro e w4 ⟨rfl, hb4⟩)
  have hB4 := below_step hB3 hb4
  have v4 := hv.below hB4
  replace k0 := k0.below hb4
  clear hb4
  by_cases h0 : e1 = 0 ∧ e2 = 0 ∧ e3 = 0
  · obtain ⟨rfl, rfl, rfl⟩ := h0
    obtain ⟨a1, a2⟩ := HB1.out rfl
    obtain ⟨a3, a4⟩ := HB2.out rfl
    obtain ⟨a5, a6⟩ := HB3.out rfl
    have m1 : 0 ≤ x1 * x3 := Int.mul_nonneg a1 (by omega)
    have m2 : x1 * x3 ≤ 64 * 15 := Int.mul_le_mul a2 a6 (by omega) (by omega)
    clear HB1 HB2 HB3
    by_cases hV : ValidF (x1 * x3 + x2) x3
    · obtain ⟨f, hf⟩ := mkL (feetL (x1 * x3 + x2).toNat x3.toNat)
      have CF := Lib.hid (fun w t => feet_at _ _ f hf w t hV)
      by_cases hfs : L f = L s
      · have HW := Lib.hid (show footW (L s) x1 0 x2 0 x3 0 = some (x1 * x3 + x2, x3) by unfold footW; rw [if_pos ⟨rfl, rfl, rfl⟩, if_pos ⟨hV, by rw [← hf]; exact hfs⟩])
        have g1 := str_eq hfs
        have g2 := str_eq' hfs
        clear hfs hV hf
        go_wp2_with (go_at_call 34; with_reducible refine (I3.out _ v4).mono ?_; rintro e w5 ⟨rfl, hb5⟩)
        have hB5 := below_step hB4 hb5
        replace k0 := k0.below hb5
        have hb6 : Below w.heap.size w (w5.alloc (.cells #[.int .i64 (x1 * x3 + x2), .int .i64 x3] 56)) := hB5.alloc hB5.size _
        refine (CF.out _ (t.below hb6)).mono ?_
        rintro e w6 ⟨rfl, hb7⟩
        have hB6 := below_step hb6 hb7
        have k1 := (Blk.new w5 56 #[.int .i64 (x1 * x3 + x2), .int .i64 x3]).below hb7
        replace k0 := (k0.alloc _).below hb7
        obtain ⟨cA, cB, fA, fB⟩ := k0.two
        obtain ⟨cC, cD, fC, fD⟩ := k1.two
        clear hb7 hb6
        go_wp2
        have y0 : Blk _ w.heap.size 56 #[.int .i64 (x1 * x3 + x2), .int .i64 0] := (k0).set 0 (.int .i64 (x1 * x3 + x2))
        have y1 : Blk _ w.heap.size 56 #[.int .i64 (x1 * x3 + x2), .int .i64 x3] := y0.set 1 (.int .i64 x3)
        obtain ⟨yC, yD, _, _⟩ := y1.two
        refine bodyPost_ret (v := .tuple #[.agg #[.int .i64 (x1 * x3 + x2), .int .i64 x3], .int .i64 0]) (by simp [results, Tryd.results40, go_sem, yC, yD]) rfl ⟨by rw [HW.out]; rfl, ?_⟩
        exact (hB6.setCell (p := ⟨w.heap.size, 0, none⟩) (Nat.le_refl _) _).setCell (p := ⟨w.heap.size, 1, none⟩) (Nat.le_refl _) _
      · have HW := Lib.hid (show footW (L s) x1 0 x2 0 x3 0 = none by unfold footW; rw [if_pos ⟨rfl, rfl, rfl⟩, if_neg (fun h => hfs (by rw [hf]; exact h.2))])
        have g1 := str_ne hfs
        have g2 := str_ne' hfs
        clear hfs hV hf
        go_wp2_with (go_at_call 34; with_reducible refine (I3.out _ v4).mono ?_; rintro e w5 ⟨rfl, hb5⟩)
        have hB5 := below_step hB4 hb5
        replace k0 := k0.below hb5
        have hb6 : Below w.heap.size w (w5.alloc (.cells #[.int .i64 (x1 * x3 + x2), .int .i64 x3] 56)) := hB5.alloc hB5.size _
        refine (CF.out _ (t.below hb6)).mono ?_
        rintro e w6 ⟨rfl, hb7⟩
        have hB6 := below_step hb6 hb7
        have k1 := (Blk.new w5 56 #[.int .i64 (x1 * x3 + x2), .int .i64 x3]).below hb7
        replace k0 := (k0.alloc _).below hb7
        obtain ⟨cA, cB, fA, fB⟩ := k0.two
        obtain ⟨cC, cD, fC, fD⟩ := k1.two
        clear hb7 hb6
        go_wp2
        have y0 : Blk _ w.heap.size 56 #[.int .i64 0, .int .i64 0] := (k0).set 0 (.int .i64 0)
        have y1 : Blk _ w.heap.size 56 #[.int .i64 0, .int .i64 0] := y0.set 1 (.int .i64 0)
        obtain ⟨yC, yD, _, _⟩ := y1.two
        refine bodyPost_ret (v := .tuple #[.agg #[.int .i64 0, .int .i64 0], .int .i64 6]) (by simp [results, Tryd.results40, go_sem, yC, yD]) rfl ⟨by rw [HW.out]; rfl, ?_⟩
        exact (hB6.setCell (p := ⟨w.heap.size, 0, none⟩) (Nat.le_refl _) _).setCell (p := ⟨w.heap.size, 1, none⟩) (Nat.le_refl _) _
    · have HW := Lib.hid (show footW (L s) x1 0 x2 0 x3 0 = none by unfold footW; rw [if_pos ⟨rfl, rfl, rfl⟩, if_neg (fun h => hV h.1)])
      have CF := Lib.hid (fun w => feet_no _ _ w hV)
      clear hV
      go_wp2_with (go_at_call 34; with_reducible refine (I3.out _ v4).mono ?_; rintro e w5 ⟨rfl, hb5⟩)
      have hB5 := below_step hB4 hb5
      replace k0 := k0.below hb5
      have hb6 : Below w.heap.size w (w5.alloc (.cells #[.int .i64 (x1 * x3 + x2), .int .i64 x3] 56)) := hB5.alloc hB5.size _
      refine (CF.out _).mono ?_
      rintro e w6 ⟨rfl, hb7⟩
      have hB6 := below_step hb6 hb7
      have k1 := (Blk.new w5 56 #[.int .i64 (x1 * x3 + x2), .int .i64 x3]).below hb7
      replace k0 := (k0.alloc _).below hb7
      obtain ⟨cA, cB, fA, fB⟩ := k0.two
      obtain ⟨cC, cD, fC, fD⟩ := k1.two
      clear hb7 hb6
      go_wp2
      have y0 : Blk _ w.heap.size 56 #[.int .i64 0, .int .i64 0] := (k0).set 0 (.int .i64 0)
      have y1 : Blk _ w.heap.size 56 #[.int .i64 0, .int .i64 0] := y0.set 1 (.int .i64 0)
      obtain ⟨yC, yD, _, _⟩ := y1.two
      refine bodyPost_ret (v := .tuple #[.agg #[.int .i64 0, .int .i64 0], .int .i64 6]) (by simp [results, Tryd.results40, go_sem, yC, yD]) rfl ⟨by rw [HW.out]; rfl, ?_⟩
      exact (hB6.setCell (p := ⟨w.heap.size, 0, none⟩) (Nat.le_refl _) _).setCell (p := ⟨w.heap.size, 1, none⟩) (Nat.le_refl _) _
  · have HW := Lib.hid (show footW (L s) x1 e1 x2 e2 x3 e3 = none by unfold footW; rw [if_neg h0])
    have h1 : (¬ e1 = 0) ∨ (e1 = 0 ∧ ¬ e2 = 0) ∨ (e1 = 0 ∧ e2 = 0 ∧ ¬ e3 = 0) := by omega
    clear h0 HB1 HB2 HB3
    rcases h1 with h1 | ⟨rfl, h1⟩ | ⟨rfl, rfl, h1⟩
    · have g1 : (e1 == 0) = false := beq_eq_false_iff_ne.2 h1
      have H1 := Lib.hid h1
      clear h1
      go_wp2_with (go_at_call 34; with_reducible refine (I3.out _ v4).mono ?_; rintro e w5 ⟨rfl, hb5⟩; have hB5 := below_step hB4 hb5; replace k0 := k0.below hb5; obtain ⟨cA, cB, fA, fB⟩ := k0.two)
      have y0 : Blk _ w.heap.size 56 #[.int .i64 0, .int .i64 0] := (k0).set 0 (.int .i64 0)
      have y1 : Blk _ w.heap.size 56 #[.int .i64 0, .int .i64 0] := y0.set 1 (.int .i64 0)
      obtain ⟨yC, yD, _, _⟩ := y1.two
      refine bodyPost_ret (v := .tuple #[.agg #[.int .i64 0, .int .i64 0], .int .i64 6]) (by simp [results, Tryd.results40, go_sem, yC, yD]) rfl ⟨by rw [HW.out]; rfl, ?_⟩
      exact (hB5.setCell (p := ⟨w.heap.size, 0, none⟩) (Nat.le_refl _) _).setCell (p := ⟨w.heap.size, 1, none⟩) (Nat.le_refl _) _
    · have g1 : (e2 == 0) = false := beq_eq_false_iff_ne.2 h1
      have H1 := Lib.hid h1
      clear h1
      go_wp2_with (go_at_call 34; with_reducible refine (I3.out _ v4).mono ?_; rintro e w5 ⟨rfl, hb5⟩; have hB5 := below_step hB4 hb5; replace k0 := k0.below hb5; obtain ⟨cA, cB, fA, fB⟩ := k0.two)
      have y0 : Blk _ w.heap.size 56 #[.int .i64 0, .int .i64 0] := (k0).set 0 (.int .i64 0)
      have y1 : Blk _ w.heap.size 56 #[.int .i64 0, .int .i64 0] := y0.set 1 (.int .i64 0)
      obtain ⟨yC, yD, _, _⟩ := y1.two
      refine bodyPost_ret (v := .tuple #[.agg #[.int .i64 0, .int .i64 0], .int .i64 6]) (by simp [results, Tryd.results40, go_sem, yC, yD]) rfl ⟨by rw [HW.out]; rfl, ?_⟩
      exact (hB5.setCell (p := ⟨w.heap.size, 0, none⟩) (Nat.le_refl _) _).setCell (p := ⟨w.heap.size, 1, none⟩) (Nat.le_refl _) _
    · have g1 : (e3 == 0) = false := beq_eq_false_iff_ne.2 h1
      have H1 := Lib.hid h1
      clear h1
      go_wp2_with (go_at_call 34; with_reducible refine (I3.out _ v4).mono ?_; rintro e w5 ⟨rfl, hb5⟩; have hB5 := below_step hB4 hb5; replace k0 := k0.below hb5; obtain ⟨cA, cB, fA, fB⟩ := k0.two)
      have y0 : Blk _ w.heap.size 56 #[.int .i64 0, .int .i64 0] := (k0).set 0 (.int .i64 0)
      have y1 : Blk _ w.heap.size 56 #[.int .i64 0, .int .i64 0] := y0.set 1 (.int .i64 0)
      obtain ⟨yC, yD, _, _⟩ := y1.two
      refine bodyPost_ret (v := .tuple #[.agg #[.int .i64 0, .int .i64 0], .int .i64 6]) (by simp [results, Tryd.results40, go_sem, yC, yD]) rfl ⟨by rw [HW.out]; rfl, ?_⟩
      exact (hB5.setCell (p := ⟨w.heap.size, 0, none⟩) (Nat.le_refl _) _).setCell (p := ⟨w.heap.size, 1, none⟩) (Nat.le_refl _) _
theorem footOf_W (l : List UInt8) : footOf l = footW l (numR (part1 l).1 0 64).1 (numR (part1 l).1 0 64).2 (numR (part2 (part1 l).2).1 0 64).1 (numR (part2 (part1 l).2).1 0 64).2 (numR (part2 (part1 l).2).2 1 15).1 (numR (part2 (part1 l).2).2 1 15).2 := by
  unfold footOf footW footR footN
  split <;> rename_i h <;> split at h
  · next h2 => cases h; rw [if_pos h2]
  · cases h
  · cases h
  · next h2 => rw [if_neg h2]
theorem cut_small {s a b : ByteArray} {c : UInt8} (hs : s.size ≤ 1000000) (ha : L a = (Lib.cut (L s) [c]).1) (hb : L b = (Lib.cut (L s) [c]).2.1) : a.size ≤ 1000000 ∧ b.size ≤ 1000000 := by
  have h := cut_le (L s) [c]
  have h1 := size_of_L ha
  have h2 := size_of_L hb
  have h3 := L_length s
  omega
theorem parseFeet_any (s : ByteArray) (w : World) (t : Tabs w) (hv : ErrV w) (hs : s.size ≤ 1000000) :
    Calls Tryd.prog 40 #[.string s] w fun e w' => e = .returned (footVal (footOf (L s))) ∧ Below w.heap.size w w' := by
  rw [footOf_W]
  obtain ⟨a, ha⟩ := mkL (Lib.cut (L s) [43]).1
  obtain ⟨p, hp⟩ := mkL (Lib.cut (L s) [43]).2.1
  obtain ⟨z1, z2⟩ := cut_small hs ha hp
  have zz : (ByteArray.size ⟨#[48]⟩) ≤ 1000000 := by decide
  have zo : (ByteArray.size ⟨#[49]⟩) ≤ 1000000 := by decide
  cases k1 : (Lib.cut (L s) [43]).2.2
  · have e1 : part1 (L s) = ([48], L s) := by unfold part1; rw [k1]; rfl
    obtain ⟨b, hb⟩ := mkL (Lib.cut (L s) [47]).1
    obtain ⟨c, hc⟩ := mkL (Lib.cut (L s) [47]).2.1
    obtain ⟨z3, z4⟩ := cut_small hs hb hc
    rw [e1]
    cases k2 : (Lib.cut (L s) [47]).2.2
    · have e2 : part2 (L s) = (L b, [49]) := by unfold part2; rw [k2, hb]; rfl
      rw [e2]
      exact parseFeet_ff s a p b c _ _ _ _ _ _ w t hv ha hp k1 hb hc k2 hs zz hs z3 zo rfl rfl rfl
    · have e2 : part2 (L s) = (L b, L c) := by unfold part2; rw [k2, hb, hc]; rfl
      rw [e2]
      exact parseFeet_ft s a p b c _ _ _ _ _ _ w t hv ha hp k1 hb hc k2 hs zz hs z3 z4 rfl rfl rfl
  · have e1 : part1 (L s) = (L a, L p) := by unfold part1; rw [k1, ha, hp]; rfl
    obtain ⟨b, hb⟩ := mkL (Lib.cut (L p) [47]).1
    obtain ⟨c, hc⟩ := mkL (Lib.cut (L p) [47]).2.1
    obtain ⟨z3, z4⟩ := cut_small z2 hb hc
    rw [e1]
    cases k2 : (Lib.cut (L p) [47]).2.2
    · have e2 : part2 (L p) = (L b, [49]) := by unfold part2; rw [k2, hb]; rfl
      rw [e2]
      exact parseFeet_tf s a p b c _ _ _ _ _ _ w t hv ha hp k1 hb hc k2 hs z1 z2 z3 zo rfl rfl rfl
    · have e2 : part2 (L p) = (L b, L c) := by unfold part2; rw [k2, hb, hc]; rfl
      rw [e2]
      exact parseFeet_tt s a p b c _ _ _ _ _ _ w t hv ha hp k1 hb hc k2 hs z1 z2 z3 z4 rfl rfl rfl
end Go.Proofs.YtoclgcneclbfiaaDoor
