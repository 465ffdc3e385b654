/-
  WALKS: WordsFeet.
-/
import Derived.Test.YtoclgcneclbfiaaDoorW22
import Derived.Test.YtoclgcneclbfiaaDoorW12
namespace Go.Proofs.YtoclgcneclbfiaaDoor
open Go.RowKit
theorem run_neq56 (a b c d : Int) (w : World) : (binOp .neq 56 (.agg #[.int .i64 a, .int .i64 b]) (.agg #[.int .i64 c, .int .i64 d])).run Tryd.prog w = .ok (.bool (!(a == c && b == d))) w := by
  rw [run_neq_struct]
  rw [run_equalIn_agg w 9999 56 _ _ (by kernel_rfl) (by kernel_rfl)]
  simp only [Program.fieldsOf, Tryd.underlying56]
  simp [go_sem, Tryd.underlying3, part]
  by_cases h1 : a = c <;> by_cases h2 : b = d <;> simp [h1, h2]
theorem neq56_same (a b : Int) (w : World) : (binOp .neq 56 (.agg #[.int .i64 a, .int .i64 b]) (.agg #[.int .i64 a, .int .i64 b])).run Tryd.prog w = .ok (.bool false) w := by
  rw [run_neq56]; simp
/-- What the calls of the law say, at one input. -/
structure FeetSays (n d c1 c2 e g : Int) (s a : ByteArray) : Prop where
  k1 : ∀ w, Tabs w → Calls Tryd.prog 38 #[.agg #[.int .i64 n, .int .i64 d]] w fun x w' => x = .returned (.tuple #[.string a, .int .i64 e]) ∧ Below w.heap.size w w'
  k2 : ∀ w, Calls Tryd.prog 39 #[.agg #[.int .i64 n, .int .i64 d]] w fun x w' => x = .returned (.tuple #[.string a, .int .i64 e]) ∧ Below w.heap.size w w'
  k3 : ∀ w, Tabs w → ErrV w → Calls Tryd.prog 40 #[.string s] w fun x w' => x = .returned (.tuple #[.agg #[.int .i64 c1, .int .i64 c2], .int .i64 g]) ∧ Below w.heap.size w w'
  k4 : ∀ w, Calls Tryd.prog 41 #[.string s] w fun x w' => x = .returned (.tuple #[.agg #[.int .i64 c1, .int .i64 c2], .int .i64 g]) ∧ Below w.heap.size w w'
  k5 : e = 0 → ∀ w, Tabs w → ErrV w → Calls Tryd.prog 40 #[.string a] w fun x w' => x = .returned (.tuple #[.agg #[.int .i64 n, .int .i64 d], .int .i64 0]) ∧ Below w.heap.size w w'
  k6 : g = 0 → ∀ w, Tabs w → Calls Tryd.prog 38 #[.agg #[.int .i64 c1, .int .i64 c2]] w fun x w' => x = .returned (.tuple #[.string s, .int .i64 0]) ∧ Below w.heap.size w w'
set_option maxRecDepth 100000 in
set_option maxHeartbeats 6400000 in
theorem wordsFeet_walk_yy (n d c1 c2 e g : Int) (s a : ByteArray) (w : World) (t : Tabs w) (hv : ErrV w) (hs : ¬ 20000 < s.size) (h : FeetSays n d c1 c2 e g s a) (he : e = 0) (hg : g = 0) :
    Calls Tryd.prog 11 #[.agg #[.int .i64 n, .int .i64 d], .string s] w fun e w' => e = .returned (.bool true) ∧ Below w.heap.size w w' := by
  have hB0 : Below w.heap.size w (w.alloc (.cells #[.int .i64 n, .int .i64 d] 56)) := (Below.refl _ _).alloc (Nat.le_refl _) _
  have b0 : Blk (w.alloc (.cells #[.int .i64 n, .int .i64 d] 56)) w.heap.size 56 #[.int .i64 n, .int .i64 d] := Blk.new _ _ _
  have t0 := t.below hB0
  have v0 := hv.below hB0
  have n1 := neq56_same n d
  have n2 := neq56_same c1 c2
  have H := Lib.hid h
  have H1 := Lib.hid h.k1
  have H2 := Lib.hid h.k2
  have H3 := Lib.hid h.k3
  have H4 := Lib.hid h.k4
  subst he
  have H5 := Lib.hid (h.k5 rfl)
  subst hg
  have H6 := Lib.hid (h.k6 rfl)
  clear h
  go_enter Tryd.func11, Tryd.ntmps11
  go_wp2_with fail
  refine (H1.out _ t0).mono ?_
  rintro x w1 ⟨rfl, hb1⟩
  have hB1 := below_step hB0 hb1
  have t1 := t.below hB1
  have v1 := hv.below hB1
  have b1 := b0.below hb1
  obtain ⟨a0, a1, f0, f1⟩ := b1.two
  clear hb1
  go_wp2_with fail
  refine (H2.out _).mono ?_
  rintro x w2 ⟨rfl, hb2⟩
  have hB2 := below_step hB1 hb2
  have t2 := t.below hB2
  have v2 := hv.below hB2
  have b2 := b1.below hb2
  clear hb2 a0 a1 f0 f1
  go_wp2_with fail
  refine (H3.out _ t2 v2).mono ?_
  rintro x w3 ⟨rfl, hb3⟩
  have hB3 := below_step hB2 hb3
  have t3 := t.below hB3
  have v3 := hv.below hB3
  have b3 := b2.below hb3
  have z3 := b3.lt
  clear hb3
  go_wp2_with fail
  have b4 := b3.alloc (.cells #[.int .i64 c1, .int .i64 c2] 56)
  have d4 : Blk (w3.alloc (.cells #[.int .i64 c1, .int .i64 c2] 56)) w3.heap.size 56 #[.int .i64 c1, .int .i64 c2] := Blk.new _ _ _
  have hB4 : Below w.heap.size w (w3.alloc (.cells #[.int .i64 c1, .int .i64 c2] 56)) := hB3.alloc hB3.size _
  refine (H4.out _).mono ?_
  rintro x w5 ⟨rfl, hb5⟩
  have hB5 := below_step hB4 hb5
  have b5 := b4.below hb5
  have d5 := d4.below hb5
  clear hb5
  obtain ⟨wa, hwa⟩ : ∃ wa, wa = w5.alloc (.cells #[.int .i64 c1, .int .i64 c2] 56) := ⟨_, rfl⟩
  have hB6 : Below w.heap.size w (w5.alloc (.cells #[.int .i64 c1, .int .i64 c2] 56)) := hB5.alloc hB5.size _
  have b6 := b5.alloc (.cells #[.int .i64 c1, .int .i64 c2] 56)
  have d6 := d5.alloc (.cells #[.int .i64 c1, .int .i64 c2] 56)
  have t6 := t.below hB6
  have v6 := hv.below hB6
  obtain ⟨a0, a1, f0, f1⟩ := b6.two
  obtain ⟨a2, a3, f2, f3⟩ := d6.two
  clear hwa
  go_wp2_with fail
  refine (H5.out _ t6 v6).mono ?_
  rintro x w7 ⟨rfl, hb7⟩
  have hB7 := below_step hB6 hb7
  have b7 := b6.below hb7
  have d7 := d6.below hb7
  clear hb7 a0 a1 a2 a3 f0 f1 f2 f3
  have hB8 : Below w.heap.size w (w7.alloc (.cells #[.int .i64 n, .int .i64 d] 56)) := hB7.alloc hB7.size _
  have b8 := b7.alloc (.cells #[.int .i64 n, .int .i64 d] 56)
  have d8 := d7.alloc (.cells #[.int .i64 n, .int .i64 d] 56)
  have t8 := t.below hB8
  obtain ⟨a0, a1, f0, f1⟩ := b8.two
  obtain ⟨a2, a3, f2, f3⟩ := d8.two
  go_wp2_with fail
  refine (H6.out _ t8).mono ?_
  rintro x w9 ⟨rfl, hb9⟩
  have hB9 := below_step hB8 hb9
  have t9 := t.below hB9
  clear hb9 a0 a1 a2 a3 f0 f1 f2 f3
  go_wp2_with fail
  refine (shown_any _ t9).mono ?_
  rintro x w10 ⟨rfl, hb10⟩
  have hB10 := below_step hB9 hb10
  go_wp2_with fail
  go_ret
  exact ⟨rfl, hB10⟩
set_option maxRecDepth 100000 in
set_option maxHeartbeats 6400000 in
theorem wordsFeet_walk_yn (n d c1 c2 e g : Int) (s a : ByteArray) (w : World) (t : Tabs w) (hv : ErrV w) (hs : ¬ 20000 < s.size) (h : FeetSays n d c1 c2 e g s a) (he : e = 0) (hg : ¬ g = 0) :
    Calls Tryd.prog 11 #[.agg #[.int .i64 n, .int .i64 d], .string s] w fun e w' => e = .returned (.bool true) ∧ Below w.heap.size w w' := by
  have hB0 : Below w.heap.size w (w.alloc (.cells #[.int .i64 n, .int .i64 d] 56)) := (Below.refl _ _).alloc (Nat.le_refl _) _
  have b0 : Blk (w.alloc (.cells #[.int .i64 n, .int .i64 d] 56)) w.heap.size 56 #[.int .i64 n, .int .i64 d] := Blk.new _ _ _
  have t0 := t.below hB0
  have v0 := hv.below hB0
  have n1 := neq56_same n d
  have n2 := neq56_same c1 c2
  have H := Lib.hid h
  have H1 := Lib.hid h.k1
  have H2 := Lib.hid h.k2
  have H3 := Lib.hid h.k3
  have H4 := Lib.hid h.k4
  subst he
  have H5 := Lib.hid (h.k5 rfl)
  have G1 : (g == 0) = false := beq_eq_false_iff_ne.2 hg
  have G2 := Lib.hid hg
  clear hg
  clear h
  go_enter Tryd.func11, Tryd.ntmps11
  go_wp2_with fail
  refine (H1.out _ t0).mono ?_
  rintro x w1 ⟨rfl, hb1⟩
  have hB1 := below_step hB0 hb1
  have t1 := t.below hB1
  have v1 := hv.below hB1
  have b1 := b0.below hb1
  obtain ⟨a0, a1, f0, f1⟩ := b1.two
  clear hb1
  go_wp2_with fail
  refine (H2.out _).mono ?_
  rintro x w2 ⟨rfl, hb2⟩
  have hB2 := below_step hB1 hb2
  have t2 := t.below hB2
  have v2 := hv.below hB2
  have b2 := b1.below hb2
  clear hb2 a0 a1 f0 f1
  go_wp2_with fail
  refine (H3.out _ t2 v2).mono ?_
  rintro x w3 ⟨rfl, hb3⟩
  have hB3 := below_step hB2 hb3
  have t3 := t.below hB3
  have v3 := hv.below hB3
  have b3 := b2.below hb3
  have z3 := b3.lt
  clear hb3
  go_wp2_with fail
  have b4 := b3.alloc (.cells #[.int .i64 c1, .int .i64 c2] 56)
  have d4 : Blk (w3.alloc (.cells #[.int .i64 c1, .int .i64 c2] 56)) w3.heap.size 56 #[.int .i64 c1, .int .i64 c2] := Blk.new _ _ _
  have hB4 : Below w.heap.size w (w3.alloc (.cells #[.int .i64 c1, .int .i64 c2] 56)) := hB3.alloc hB3.size _
  refine (H4.out _).mono ?_
  rintro x w5 ⟨rfl, hb5⟩
  have hB5 := below_step hB4 hb5
  have b5 := b4.below hb5
  have d5 := d4.below hb5
  clear hb5
  obtain ⟨wa, hwa⟩ : ∃ wa, wa = w5.alloc (.cells #[.int .i64 c1, .int .i64 c2] 56) := ⟨_, rfl⟩
  have hB6 : Below w.heap.size w (w5.alloc (.cells #[.int .i64 c1, .int .i64 c2] 56)) := hB5.alloc hB5.size _
  have b6 := b5.alloc (.cells #[.int .i64 c1, .int .i64 c2] 56)
  have d6 := d5.alloc (.cells #[.int .i64 c1, .int .i64 c2] 56)
  have t6 := t.below hB6
  have v6 := hv.below hB6
  obtain ⟨a0, a1, f0, f1⟩ := b6.two
  obtain ⟨a2, a3, f2, f3⟩ := d6.two
  clear hwa
  go_wp2_with fail
  refine (H5.out _ t6 v6).mono ?_
  rintro x w7 ⟨rfl, hb7⟩
  have hB7 := below_step hB6 hb7
  have b7 := b6.below hb7
  have d7 := d6.below hb7
  clear hb7 a0 a1 a2 a3 f0 f1 f2 f3
  have hB8 : Below w.heap.size w (w7.alloc (.cells #[.int .i64 n, .int .i64 d] 56)) := hB7.alloc hB7.size _
  have b8 := b7.alloc (.cells #[.int .i64 n, .int .i64 d] 56)
  have d8 := d7.alloc (.cells #[.int .i64 n, .int .i64 d] 56)
  have t8 := t.below hB8
  obtain ⟨a0, a1, f0, f1⟩ := b8.two
  obtain ⟨a2, a3, f2, f3⟩ := d8.two
  go_wp2_with fail
  refine (shown_any _ t8).mono ?_
  rintro x w10 ⟨rfl, hb10⟩
  have hB10 := below_step hB8 hb10
  go_wp2_with fail
  go_ret
  exact ⟨rfl, hB10⟩
set_option maxRecDepth 100000 in
set_option maxHeartbeats 6400000 in
theorem wordsFeet_walk_ny (n d c1 c2 e g : Int) (s a : ByteArray) (w : World) (t : Tabs w) (hv : ErrV w) (hs : ¬ 20000 < s.size) (h : FeetSays n d c1 c2 e g s a) (he : ¬ e = 0) (hg : g = 0) :
    Calls Tryd.prog 11 #[.agg #[.int .i64 n, .int .i64 d], .string s] w fun e w' => e = .returned (.bool true) ∧ Below w.heap.size w w' := by
  have hB0 : Below w.heap.size w (w.alloc (.cells #[.int .i64 n, .int .i64 d] 56)) := (Below.refl _ _).alloc (Nat.le_refl _) _
  have b0 : Blk (w.alloc (.cells #[.int .i64 n, .int .i64 d] 56)) w.heap.size 56 #[.int .i64 n, .int .i64 d] := Blk.new _ _ _
  have t0 := t.below hB0
  have v0 := hv.below hB0
  have n1 := neq56_same n d
  have n2 := neq56_same c1 c2
  have H := Lib.hid h
  have H1 := Lib.hid h.k1
  have H2 := Lib.hid h.k2
  have H3 := Lib.hid h.k3
  have H4 := Lib.hid h.k4
  have E1 : (e == 0) = false := beq_eq_false_iff_ne.2 he
  have E2 := Lib.hid he
  clear he
  subst hg
  have H6 := Lib.hid (h.k6 rfl)
  clear h
  go_enter Tryd.func11, Tryd.ntmps11
  go_wp2_with fail
  refine (H1.out _ t0).mono ?_
  rintro x w1 ⟨rfl, hb1⟩
  have hB1 := below_step hB0 hb1
  have t1 := t.below hB1
  have v1 := hv.below hB1
  have b1 := b0.below hb1
  obtain ⟨a0, a1, f0, f1⟩ := b1.two
  clear hb1
  go_wp2_with fail
  refine (H2.out _).mono ?_
  rintro x w2 ⟨rfl, hb2⟩
  have hB2 := below_step hB1 hb2
  have t2 := t.below hB2
  have v2 := hv.below hB2
  have b2 := b1.below hb2
  clear hb2 a0 a1 f0 f1
  go_wp2_with fail
  refine (H3.out _ t2 v2).mono ?_
  rintro x w3 ⟨rfl, hb3⟩
  have hB3 := below_step hB2 hb3
  have t3 := t.below hB3
  have v3 := hv.below hB3
  have b3 := b2.below hb3
  have z3 := b3.lt
  clear hb3
  go_wp2_with fail
  have b4 := b3.alloc (.cells #[.int .i64 c1, .int .i64 c2] 56)
  have d4 : Blk (w3.alloc (.cells #[.int .i64 c1, .int .i64 c2] 56)) w3.heap.size 56 #[.int .i64 c1, .int .i64 c2] := Blk.new _ _ _
  have hB4 : Below w.heap.size w (w3.alloc (.cells #[.int .i64 c1, .int .i64 c2] 56)) := hB3.alloc hB3.size _
  refine (H4.out _).mono ?_
  rintro x w5 ⟨rfl, hb5⟩
  have hB5 := below_step hB4 hb5
  have b5 := b4.below hb5
  have d5 := d4.below hb5
  clear hb5
  obtain ⟨wa, hwa⟩ : ∃ wa, wa = w5.alloc (.cells #[.int .i64 c1, .int .i64 c2] 56) := ⟨_, rfl⟩
  have hB6 : Below w.heap.size w (w5.alloc (.cells #[.int .i64 c1, .int .i64 c2] 56)) := hB5.alloc hB5.size _
  have b6 := b5.alloc (.cells #[.int .i64 c1, .int .i64 c2] 56)
  have d6 := d5.alloc (.cells #[.int .i64 c1, .int .i64 c2] 56)
  have t6 := t.below hB6
  have v6 := hv.below hB6
  obtain ⟨a0, a1, f0, f1⟩ := b6.two
  obtain ⟨a2, a3, f2, f3⟩ := d6.two
  clear hwa
  go_wp2_with fail
  refine (H6.out _ t6).mono ?_
  rintro x w9 ⟨rfl, hb9⟩
  have hB9 := below_step hB6 hb9
  have t9 := t.below hB9
  clear hb9 a0 a1 a2 a3 f0 f1 f2 f3
  go_wp2_with fail
  refine (shown_any _ t9).mono ?_
  rintro x w10 ⟨rfl, hb10⟩
  have hB10 := below_step hB9 hb10
  go_wp2_with fail
  go_ret
  exact ⟨rfl, hB10⟩
set_option maxRecDepth 100000 in
set_option maxHeartbeats 6400000 in
theorem wordsFeet_walk_nn (n d c1 c2 e g : Int) (s a : ByteArray) (w : World) (t : Tabs w) (hv : ErrV w) (hs : ¬ 20000 < s.size) (h : FeetSays n d c1 c2 e g s a) (he : ¬ e = 0) (hg : ¬ g = 0) :
    Calls Tryd.prog 11 #[.agg #[.int .i64 n, .int .i64 d], .string s] w fun e w' => e = .returned (.bool true) ∧ Below w.heap.size w w' := by
  have hB0 : Below w.heap.size w (w.alloc (.cells #[.int .i64 n, .int .i64 d] 56)) := (Below.refl _ _).alloc (Nat.le_refl _) _
  have b0 : Blk (w.alloc (.cells #[.int .i64 n, .int .i64 d] 56)) w.heap.size 56 #[.int .i64 n, .int .i64 d] := Blk.new _ _ _
  have t0 := t.below hB0
  have v0 := hv.below hB0
  have n1 := neq56_same n d
  have n2 := neq56_same c1 c2
  have H := Lib.hid h
  have H1 := Lib.hid h.k1
  have H2 := Lib.hid h.k2
  have H3 := Lib.hid h.k3
  have H4 := Lib.hid h.k4
  have E1 : (e == 0) = false := beq_eq_false_iff_ne.2 he
  have E2 := Lib.hid he
  clear he
  have G1 : (g == 0) = false := beq_eq_false_iff_ne.2 hg
  have G2 := Lib.hid hg
  clear hg
  clear h
  go_enter Tryd.func11, Tryd.ntmps11
  go_wp2_with fail
  refine (H1.out _ t0).mono ?_
  rintro x w1 ⟨rfl, hb1⟩
  have hB1 := below_step hB0 hb1
  have t1 := t.below hB1
  have v1 := hv.below hB1
  have b1 := b0.below hb1
  obtain ⟨a0, a1, f0, f1⟩ := b1.two
  clear hb1
  go_wp2_with fail
  refine (H2.out _).mono ?_
  rintro x w2 ⟨rfl, hb2⟩
  have hB2 := below_step hB1 hb2
  have t2 := t.below hB2
  have v2 := hv.below hB2
  have b2 := b1.below hb2
  clear hb2 a0 a1 f0 f1
  go_wp2_with fail
  refine (H3.out _ t2 v2).mono ?_
  rintro x w3 ⟨rfl, hb3⟩
  have hB3 := below_step hB2 hb3
  have t3 := t.below hB3
  have v3 := hv.below hB3
  have b3 := b2.below hb3
  have z3 := b3.lt
  clear hb3
  go_wp2_with fail
  have b4 := b3.alloc (.cells #[.int .i64 c1, .int .i64 c2] 56)
  have d4 : Blk (w3.alloc (.cells #[.int .i64 c1, .int .i64 c2] 56)) w3.heap.size 56 #[.int .i64 c1, .int .i64 c2] := Blk.new _ _ _
  have hB4 : Below w.heap.size w (w3.alloc (.cells #[.int .i64 c1, .int .i64 c2] 56)) := hB3.alloc hB3.size _
  refine (H4.out _).mono ?_
  rintro x w5 ⟨rfl, hb5⟩
  have hB5 := below_step hB4 hb5
  have b5 := b4.below hb5
  have d5 := d4.below hb5
  clear hb5
  obtain ⟨wa, hwa⟩ : ∃ wa, wa = w5.alloc (.cells #[.int .i64 c1, .int .i64 c2] 56) := ⟨_, rfl⟩
  have hB6 : Below w.heap.size w (w5.alloc (.cells #[.int .i64 c1, .int .i64 c2] 56)) := hB5.alloc hB5.size _
  have b6 := b5.alloc (.cells #[.int .i64 c1, .int .i64 c2] 56)
  have d6 := d5.alloc (.cells #[.int .i64 c1, .int .i64 c2] 56)
  have t6 := t.below hB6
  have v6 := hv.below hB6
  obtain ⟨a0, a1, f0, f1⟩ := b6.two
  obtain ⟨a2, a3, f2, f3⟩ := d6.two
  clear hwa
  go_wp2_with fail
  refine (shown_any _ t6).mono ?_
  rintro x w10 ⟨rfl, hb10⟩
  have hB10 := below_step hB6 hb10
  go_wp2_with fail
  go_ret
  exact ⟨rfl, hB10⟩
theorem footVal_some {p : Int × Int} : footVal (some p) = .tuple #[.agg #[.int .i64 p.1, .int .i64 p.2], .int .i64 0] := rfl
theorem wordsFeet_at (n d c1 c2 e g : Int) (s a : ByteArray) (w : World) (t : Tabs w) (hv : ErrV w) (hs : ¬ 20000 < s.size) (h : FeetSays n d c1 c2 e g s a) :
    Calls Tryd.prog 11 #[.agg #[.int .i64 n, .int .i64 d], .string s] w fun e w' => e = .returned (.bool true) ∧ Below w.heap.size w w' := by
  by_cases he : e = 0 <;> by_cases hg : g = 0
  · exact wordsFeet_walk_yy n d c1 c2 e g s a w t hv hs h he hg
  · exact wordsFeet_walk_yn n d c1 c2 e g s a w t hv hs h he hg
  · exact wordsFeet_walk_ny n d c1 c2 e g s a w t hv hs h he hg
  · exact wordsFeet_walk_nn n d c1 c2 e g s a w t hv hs h he hg
/-- The program's Feet, the reference's Feet: one answer. -/
theorem feet_both (n d : Int) : ∃ (a : ByteArray) (e : Int), a.size ≤ 1000000 ∧
    (∀ w, Tabs w → Calls Tryd.prog 38 #[.agg #[.int .i64 n, .int .i64 d]] w fun x w' => x = .returned (.tuple #[.string a, .int .i64 e]) ∧ Below w.heap.size w w') ∧
    (∀ w, Calls Tryd.prog 39 #[.agg #[.int .i64 n, .int .i64 d]] w fun x w' => x = .returned (.tuple #[.string a, .int .i64 e]) ∧ Below w.heap.size w w') ∧ (e = 0 → footOf (L a) = some (n, d)) := by
  by_cases hV : ValidF n d
  · obtain ⟨n', rfl⟩ := Int.eq_ofNat_of_zero_le (show 0 ≤ n by have := hV.2.2.1; omega)
    obtain ⟨d', rfl⟩ := Int.eq_ofNat_of_zero_le (show 0 ≤ d by have := hV.1; omega)
    obtain ⟨a, ha⟩ := mkL (feetL n' d')
    have hz := feet_short hV
    exact ⟨a, 0, by rw [size_of_L ha]; omega, fun w t => feet_yes n' d' a ha w t hV, fun w => rfeet_yes n' d' a ha w hV, fun _ => by rw [ha]; exact footOf_back hV⟩
  · exact ⟨⟨#[]⟩, 2, by decide, fun w _ => feet_no n d w hV, fun w => rfeet_no n d w hV, fun h => by cases h⟩
theorem feetSays (n d : Int) (s : ByteArray) (hs : s.size ≤ 1000000) : ∃ c1 c2 e g a, FeetSays n d c1 c2 e g s a := by
  obtain ⟨a, e, hz, h1, h2, h5⟩ := feet_both n d
  have k5 : e = 0 → ∀ w, Tabs w → ErrV w → Calls Tryd.prog 40 #[.string a] w fun x w' => x = .returned (.tuple #[.agg #[.int .i64 n, .int .i64 d], .int .i64 0]) ∧ Below w.heap.size w w' := fun he w t hv => by
    have := parseFeet_any a w t hv hz
    rwa [h5 he] at this
  have h3 := fun w t hv => parseFeet_any s w t hv hs
  have h4 := fun w => rparseFeet_any s w hs
  cases hR : footOf (L s) with
  | none =>
    rw [hR] at h3 h4
    exact ⟨0, 0, e, 6, a, h1, h2, h3, h4, k5, fun h => by cases h⟩
  | some p =>
    rw [hR] at h3 h4
    obtain ⟨hV, hf⟩ := footOf_some hR
    exact ⟨p.1, p.2, e, 0, a, h1, h2, h3, h4, k5, fun _ w t => feet_at p.1 p.2 s hf.symm w t hV⟩
set_option maxHeartbeats 800000 in
theorem wordsFeet_walk (n d : Int) (s : ByteArray) (w : World) (t : Tabs w) (hv : ErrV w) :
    Calls Tryd.prog 11 #[.agg #[.int .i64 n, .int .i64 d], .string s] w fun e w' => e = .returned (.bool true) ∧ Below w.heap.size w w' := by
  by_cases hl : 20000 < s.size
  · have hb0 : Below w.heap.size w (w.alloc (.cells #[.int .i64 n, .int .i64 d] 56)) := (Below.refl _ _).alloc (Nat.le_refl _) _
    have t0 := t.below hb0
    go_enter Tryd.func11, Tryd.ntmps11
    go_wp2_with fail
    refine (shown_any _ t0).mono ?_
    rintro e w2 ⟨rfl, hb⟩
    go_wp2_with fail
    go_ret
    exact ⟨rfl, below_step hb0 hb⟩
  · obtain ⟨c1, c2, e, g, a, h⟩ := feetSays n d s (by omega)
    exact wordsFeet_at n d c1 c2 e g s a w t hv hl h
end Go.Proofs.YtoclgcneclbfiaaDoor
