/-
  CONTRACTS: shown.
-/
import Derived.Test.YtkddeliifadcoaaDoorF2
import Derived.Test.YtkddeliifadcoaaDoorE9
namespace Go.Proofs.YtkddeliifadcoaaDoor
open Go.RowKit
theorem run_eqFt (a b c x y z : Int) (w : World) : (binOp .eql 31 (.agg #[.int .i64 a, .int .i64 b, .int .i64 c]) (.agg #[.int .i64 x, .int .i64 y, .int .i64 z])).run Tryd.prog w = .ok (.bool (a == x && (b == y && c == z))) w := by
  rw [run_eql_struct]
  rw [run_equalIn_agg w 9999 31 _ _ (by kernel_rfl) (by kernel_rfl)]
  simp only [Program.fieldsOf, Tryd.underlying31]
  simp [go_sem, Tryd.underlying3, part]
  by_cases h1 : a = x <;> by_cases h2 : b = y <;> by_cases h3 : c = z <;> simp [h1, h2, h3]
theorem eqFt_same (a b c : Int) (w : World) : (binOp .eql 31 (.agg #[.int .i64 a, .int .i64 b, .int .i64 c]) (.agg #[.int .i64 a, .int .i64 b, .int .i64 c])).run Tryd.prog w = .ok (.bool true) w := by
  rw [run_eqFt]; simp
theorem ex_ck37 (w1 : World) (t : Tabs w1) (b : Nat) (h : ExMem w1 b 37) : Calls Tryd.prog 8 #[.agg #[.slice (some ⟨b + 3, 0, none⟩) 1 1, .slice (some ⟨b + 4, 0, none⟩) 2 2, .slice (some ⟨b + 8, 0, none⟩) 3 3, .slice (some ⟨b + 9, 0, none⟩) 1 1]] w1 fun e w' => e = .returned (.tuple #[.agg #[.int .i64 0, .int .i64 0, .int .i64 0], .int .i64 0]) ∧ Below w1.heap.size w1 w' := by
  have := check_any _ _ _ _ (exS 37) (exS_ok 37) w1 t _ h.rd
  rw [ex_check] at this
  exact this
theorem ex_ck36 (w1 : World) (t : Tabs w1) (b : Nat) (h : ExMem w1 b 36) : Calls Tryd.prog 8 #[.agg #[.slice (some ⟨b + 3, 0, none⟩) 1 1, .slice (some ⟨b + 4, 0, none⟩) 2 2, .slice (some ⟨b + 8, 0, none⟩) 3 3, .slice (some ⟨b + 9, 0, none⟩) 1 1]] w1 fun e w' => e = .returned (.tuple #[.agg #[.int .i64 3, .int .i64 1, .int .i64 1], .int .i64 4]) ∧ Below w1.heap.size w1 w' := by
  have := check_any _ _ _ _ (exS 36) (exS_ok 36) w1 t _ h.rd
  rw [ex_check2] at this
  exact this
theorem ex_pi (w1 : World) (t : Tabs w1) (b : Nat) (h : ExMem w1 b 37) : Calls Tryd.prog 10 #[.agg #[.slice (some ⟨b + 3, 0, none⟩) 1 1, .slice (some ⟨b + 4, 0, none⟩) 2 2, .slice (some ⟨b + 8, 0, none⟩) 3 3, .slice (some ⟨b + 9, 0, none⟩) 1 1]] w1 fun e w' => e = .returned (.tuple #[.int .i64 50, .int .i64 0]) ∧ Below w1.heap.size w1 w' := by
  have := pipes_any _ _ _ _ (exS 37) (exS_ok 37) w1 t _ h.rd
  rw [ex_pipes] at this
  exact this
theorem ex_po (w1 : World) (t : Tabs w1) (b : Nat) (h : ExMem w1 b 37) : Calls Tryd.prog 12 #[.agg #[.slice (some ⟨b + 3, 0, none⟩) 1 1, .slice (some ⟨b + 4, 0, none⟩) 2 2, .slice (some ⟨b + 8, 0, none⟩) 3 3, .slice (some ⟨b + 9, 0, none⟩) 1 1], .int .i64 1, .int .i64 60] w1 fun e w' => ∃ a c, e = .returned (.tuple #[.slice a 1 c, .int .i64 0]) ∧ ARd w' (.slice a 1 c) 2 ([((0 : Int), (72 : Int))].map ppC) ∧ Below w1.heap.size w1 w' := by
  have := pipesOf_any _ _ _ _ (exS 37) (exS_ok 37) 1 60 w1 t _ h.rd
  rw [ex_of] at this
  refine this.mono ?_
  rintro e w' ⟨v, rfl, ho, hb⟩
  have hr := ARd.of_pps ho
  obtain ⟨a, c, hv⟩ := hr.form
  subst hv
  exact ⟨a, c, rfl, hr, hb⟩
set_option maxRecDepth 100000 in
set_option maxHeartbeats 6400000 in
theorem shown_any (w : World) (t : Tabs w) : Calls Tryd.prog 7 #[] w fun e w' => e = .returned (.bool true) ∧ Below w.heap.size w w' := by
  have HT := Lib.hid t
  have q1 := eqFt_same 0 0 0
  have q2 := eqFt_same 3 1 1
  clear t
  go_enter Tryd.func7, Tryd.ntmps7
  go_wp2_with fail
  refine (example_any _).mono ?_
  rintro e w1 ⟨rfl, hx1, hb1⟩
  go_wp2_with fail
  refine (ex_ck37 w1 (HT.out.below hb1) _ hx1).mono ?_
  rintro e w2 ⟨rfl, hb2⟩
  have hB2 := below_step hb1 hb2
  have k2 := Blk.new w2 31 #[.int .i64 0, .int .i64 0, .int .i64 0]
  have hB2' := hB2.alloc hB2.size (.cells #[.int .i64 0, .int .i64 0, .int .i64 0] 31)
  go_wp2_with fail
  obtain ⟨W, hW⟩ : ∃ W, W = w2.alloc (.cells #[.int .i64 0, .int .i64 0, .int .i64 0] 31) := ⟨_, rfl⟩
  rw [← hW] at k2 hB2'
  have HK2 := Lib.hid k2
  have HB2 := Lib.hid hB2'
  have HW := Lib.hid hW
  clear k2 hB2' hB2 hb1 hb2 hx1 hW
  rw [← HW.out]
  clear HW
  refine (example_any _).mono ?_
  rintro e w3 ⟨rfl, hx3, hb3⟩
  have HB3 := Lib.hid (below_step HB2.out hb3)
  have HK3 := Lib.hid (HK2.out.below hb3)
  clear hb3
  go_wp2_with fail
  refine (ex_pi w3 (HT.out.below HB3.out) _ hx3).mono ?_
  rintro e w4 ⟨rfl, hb4⟩
  have HB4 := Lib.hid (below_step HB3.out hb4)
  have HK4 := Lib.hid (HK3.out.below hb4)
  clear hb4 hx3
  go_wp2_with fail
  refine (example_any _).mono ?_
  rintro e w5 ⟨rfl, hx5, hb5⟩
  have HB5 := Lib.hid (below_step HB4.out hb5)
  have HK5 := Lib.hid (HK4.out.below hb5)
  clear hb5
  go_wp2_with fail
  refine (ex_po w5 (HT.out.below HB5.out) _ hx5).mono ?_
  rintro e w6 ⟨av, cv, rfl, hv6, hb6⟩
  have HB6 := Lib.hid (below_step HB5.out hb6)
  have HK6 := Lib.hid (HK5.out.below hb6)
  have HV6 := Lib.hid hv6
  clear hb6 hx5 hv6
  go_wp2_with fail
  refine (example_any _).mono ?_
  rintro e w7 ⟨rfl, hx7, hb7⟩
  have HB7 := Lib.hid (below_step HB6.out hb7)
  have HK7 := Lib.hid (HK6.out.below hb7)
  have HV7 := Lib.hid (HV6.out.later hb7)
  have hsz7 := hb7.size
  have hlt7 := hx7.c.lt
  have HX8 := hx7.below ((Below.refl _ w7).alloc (Nat.le_refl _) (.cells #[.slice (some ⟨w6.heap.size + 3, 0, none⟩) 1 1, .slice (some ⟨w6.heap.size + 4, 0, none⟩) 2 2, .slice (some ⟨w6.heap.size + 8, 0, none⟩) 3 3, .slice (some ⟨w6.heap.size + 9, 0, none⟩) 1 1] 27))
  have r5 := HX8.r.cell 5
  have f5 := HX8.r.frozen 5
  have k8 := Blk.new w7 27 #[.slice (some ⟨w6.heap.size + 3, 0, none⟩) 1 1, .slice (some ⟨w6.heap.size + 4, 0, none⟩) 2 2, .slice (some ⟨w6.heap.size + 8, 0, none⟩) 3 3, .slice (some ⟨w6.heap.size + 9, 0, none⟩) 1 1]
  go_wp2_with fail
  obtain ⟨W9, hW9⟩ : ∃ W9, W9 = (w7.alloc (.cells #[.slice (some ⟨w6.heap.size + 3, 0, none⟩) 1 1, .slice (some ⟨w6.heap.size + 4, 0, none⟩) 2 2, .slice (some ⟨w6.heap.size + 8, 0, none⟩) 3 3, .slice (some ⟨w6.heap.size + 9, 0, none⟩) 1 1] 27)).setCell ⟨w6.heap.size + 4, 5, none⟩ (.int .i64 36) := ⟨_, rfl⟩
  rw [← hW9]
  have hx9 : ExMem W9 w6.heap.size 36 := by rw [hW9]; exact HX8.set 36
  have HB9 : RowKit.Hid (Below w.heap.size w W9) := by rw [hW9]; exact Lib.hid ((HB7.out.alloc HB7.out.size _).setCell (p := ⟨w6.heap.size + 4, 5, none⟩) (by have := HB6.out.size; simp only; omega) _)
  have hb79 : Below w6.heap.size w6 W9 := by rw [hW9]; exact (hb7.alloc hb7.size _).setCell (p := ⟨w6.heap.size + 4, 5, none⟩) (by simp only; omega) _
  have HK9 := Lib.hid (HK6.out.below hb79)
  have HV9 := Lib.hid (HV6.out.later hb79)
  clear hW9 HX8 r5 f5 k8 hb79 hb7 hx7 HK7 HV7 HK2 HK3 HK4 HK5 HB2 HB3 HB4 HB5
  refine (ex_ck36 W9 (HT.out.below HB9.out) _ hx9).mono ?_
  rintro e w10 ⟨rfl, hb10⟩
  have HB10 := Lib.hid (below_step HB9.out hb10)
  have hal : Below w10.heap.size w10 (w10.alloc (.cells #[.int .i64 3, .int .i64 1, .int .i64 1] 31)) := (Below.refl _ _).alloc (Nat.le_refl _) _
  have hal2 : Below w10.heap.size w10 ((w10.alloc (.cells #[.int .i64 3, .int .i64 1, .int .i64 1] 31)).alloc (.cells #[.int .i64 0, .int .i64 72] 46)) := hal.alloc (by simp) _
  have k10 := (HK9.out.below hb10).alloc (.cells #[.int .i64 3, .int .i64 1, .int .i64 1] 31)
  obtain ⟨c0, c1, c2, _, _, _⟩ := k10.three
  have SP := Lib.hid (same_pipes [((0 : Int), (72 : Int))] _ (.slice (some ⟨w10.heap.size + 1, 0, none⟩) 1 1) _ ((HV9.out.later hb10).later hal2) (ARd.of_blk (k := 2) (rows := [((0 : Int), (72 : Int))].map ppC) (B := w10.heap.size + 1) (t := 46) (cs := #[.int .i64 0, .int .i64 72]) (blk_at (by simp)) (by intro r hr; rw [List.mem_singleton.1 hr]; rfl) rfl _ _ rfl) (by decide))
  have HB12 := Lib.hid (below_step HB10.out hal2)
  have kF : Blk ((w10.alloc (.cells #[.int .i64 3, .int .i64 1, .int .i64 1] 31)).alloc (.cells #[.int .i64 0, .int .i64 72] 46)) w10.heap.size 31 #[.int .i64 3, .int .i64 1, .int .i64 1] := (Blk.new w10 _ _).alloc _
  have HKF := Lib.hid kF
  clear kF k10 hal hal2 hb10 hx9 HK9 HV9 HK6 HV6
  go_wp2_with fail
  refine (SP.out).mono ?_
  rintro e w13 ⟨rfl, hb13⟩
  obtain ⟨f0, f1, f2, _, _, _⟩ := (HKF.out.below hb13).three
  go_wp2
  go_ret
  exact ⟨rfl, below_step HB12.out hb13⟩
end Go.Proofs.YtkddeliifadcoaaDoor
