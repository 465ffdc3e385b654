/-
  CONTRACTS: shown: the examples of the document.
-/
import Derived.Test.YtppccacfdpkkgaaGreatDoorL1
import Derived.Test.YtppccacfdpkkgaaGreatDoorKV
import Derived.Test.YtppccacfdpkkgaaGreatDoorKF
import Derived.Deep.Cut
import Derived.Deep.RegionWith
import Derived.Deep.RegionHeld3
import Derived.BigRegion
namespace Go.Proofs.YtppccacfdpkkgaaGreatDoor
open Go.RowKit
/-- The roll that Bridge makes, written out. -/
def brW (X : World) : World := (((((X.alloc (.cells #[.int .i64 0, .int .i64 3] 3)).alloc (.cells #[.int .i64 0, .int .i64 1] 3)).alloc (.cells #[.int .i64 0, .int .i64 1, .int .i64 3] 3)).alloc (.cells #[.int .i64 0, .int .i64 2] 3)).alloc (.cells #[.int .i64 0, .int .i64 3] 3)).alloc (.cells #[.slice (some ⟨X.heap.size, 0, none⟩) 2 2, .slice (some ⟨X.heap.size + 1, 0, none⟩) 2 2, .slice (some ⟨X.heap.size + 1 + 1, 0, none⟩) 3 3, .slice (some ⟨X.heap.size + 1 + 1 + 1, 0, none⟩) 2 2, .slice (some ⟨X.heap.size + 1 + 1 + 1 + 1, 0, none⟩) 2 2] 74)
def brG (b : Nat) (i : Nat) : Value := .slice (some ⟨b + i, 0, none⟩) (brX.rows.getD i []).length (brX.rows.getD i []).length
theorem br_lit (X : World) : RoRd (brW X) (.slice (some ⟨X.heap.size + 1 + 1 + 1 + 1 + 1, 0, none⟩) 5 5) (brG X.heap.size) brX := by
  have hk : ∀ l : List Int, ∀ r ∈ l.map iC, r.length = 1 := fun l r h => by obtain ⟨e, _, rfl⟩ := List.mem_map.1 h; rfl
  refine ⟨?_, ?_⟩
  · exact ARd.of_blk (blk_at (by simp)) (fun r h => by
      obtain ⟨i, hi, rfl⟩ := List.getElem_of_mem h
      rw [List.getElem_mapIdx]; rfl) rfl _ _ rfl
  · intro i hi
    match i, hi with
    | 0, _ => exact ARd.of_blk ((((((blk_at (B := X.heap.size) (by simp)).alloc _).alloc _).alloc _).alloc _).alloc _) (hk [0, 3]) rfl _ _ rfl
    | 1, _ => exact ARd.of_blk (((((blk_at (B := X.heap.size + 1) (by simp)).alloc _).alloc _).alloc _).alloc _) (hk [0, 1]) rfl _ _ rfl
    | 2, _ => exact ARd.of_blk ((((blk_at (B := X.heap.size + 1 + 1) (by simp)).alloc _).alloc _).alloc _) (hk [0, 1, 3]) rfl _ _ rfl
    | 3, _ => exact ARd.of_blk (((blk_at (B := X.heap.size + 1 + 1 + 1) (by simp)).alloc _).alloc _) (hk [0, 2]) rfl _ _ rfl
    | 4, _ => exact ARd.of_blk ((blk_at (B := X.heap.size + 1 + 1 + 1 + 1) (by simp)).alloc _) (hk [0, 3]) rfl _ _ rfl
theorem br_below (X : World) : Below X.heap.size X (brW X) := ((((((Below.refl _ _).alloc (Nat.le_refl _) _).alloc (by simp) _).alloc (by simp; omega) _).alloc (by simp; omega) _).alloc (by simp; omega) _).alloc (by simp; omega) _
theorem held_step4 {W0 W w' : World} {a0 a1 a2 a3 : Addr} {u0 u1 u2 u3 : Value} (h : Below W0.heap.size W0 W ∧ W.cell? a0 = some u0 ∧ W.cell? a1 = some u1 ∧ W.cell? a2 = some u2 ∧ W.cell? a3 = some u3) (hb : Below W.heap.size W w') : Below W0.heap.size W0 w' ∧ w'.cell? a0 = some u0 ∧ w'.cell? a1 = some u1 ∧ w'.cell? a2 = some u2 ∧ w'.cell? a3 = some u3 := by
  obtain ⟨h0, g0, g1, g2, g3⟩ := h
  exact ⟨below_step h0 hb, (hb.cell (cell_size g0)).trans g0, (hb.cell (cell_size g1)).trans g1, (hb.cell (cell_size g2)).trans g2, (hb.cell (cell_size g3)).trans g3⟩
theorem held_alloc4 {W0 W : World} {a0 a1 a2 a3 : Addr} {u0 u1 u2 u3 : Value} (h : Below W0.heap.size W0 W ∧ W.cell? a0 = some u0 ∧ W.cell? a1 = some u1 ∧ W.cell? a2 = some u2 ∧ W.cell? a3 = some u3) (o : Obj) : Below W0.heap.size W0 (W.alloc o) ∧ (W.alloc o).cell? a0 = some u0 ∧ (W.alloc o).cell? a1 = some u1 ∧ (W.alloc o).cell? a2 = some u2 ∧ (W.alloc o).cell? a3 = some u3 := held_step4 h ((Below.refl _ _).alloc (Nat.le_refl _) _)
/-- A roll laid out of five rows. -/
theorem br_of {W : World} {a b c d e : Nat} (ha : ARd W (.slice (some ⟨a, 0, none⟩) 2 2) 1 (([0, 3] : List Int).map iC)) (hb : ARd W (.slice (some ⟨b, 0, none⟩) 2 2) 1 (([0, 1] : List Int).map iC)) (hc : ARd W (.slice (some ⟨c, 0, none⟩) 3 3) 1 (([0, 1, 3] : List Int).map iC)) (hd : ARd W (.slice (some ⟨d, 0, none⟩) 2 2) 1 (([0, 2] : List Int).map iC)) (he : ARd W (.slice (some ⟨e, 0, none⟩) 2 2) 1 (([0, 3] : List Int).map iC)) :
    RoRd (W.alloc (.cells #[.slice (some ⟨a, 0, none⟩) 2 2, .slice (some ⟨b, 0, none⟩) 2 2, .slice (some ⟨c, 0, none⟩) 3 3, .slice (some ⟨d, 0, none⟩) 2 2, .slice (some ⟨e, 0, none⟩) 2 2] 74)) (.slice (some ⟨W.heap.size, 0, none⟩) 5 5) (fun i => [.slice (some ⟨a, 0, none⟩) 2 2, .slice (some ⟨b, 0, none⟩) 2 2, .slice (some ⟨c, 0, none⟩) 3 3, .slice (some ⟨d, 0, none⟩) 2 2, .slice (some ⟨e, 0, none⟩) 2 2].getD i undef) brX := by
  have hz := (Below.refl W.heap.size W).alloc (Nat.le_refl _) (.cells #[.slice (some ⟨a, 0, none⟩) 2 2, .slice (some ⟨b, 0, none⟩) 2 2, .slice (some ⟨c, 0, none⟩) 3 3, .slice (some ⟨d, 0, none⟩) 2 2, .slice (some ⟨e, 0, none⟩) 2 2] 74)
  refine ⟨?_, ?_⟩
  · exact ARd.of_blk (blk_at rfl) (fun r h => by
      obtain ⟨i, hi, rfl⟩ := List.getElem_of_mem h
      rw [List.getElem_mapIdx]; rfl) rfl _ _ rfl
  · intro i hi
    match i, hi with
    | 0, _ => exact ha.later hz
    | 1, _ => exact hb.later hz
    | 2, _ => exact hc.later hz
    | 3, _ => exact hd.later hz
    | 4, _ => exact he.later hz
set_option maxRecDepth 100000 in
set_option maxHeartbeats 60000000 in
theorem shown32_any (w : World) (t : Tabs w) : Calls Tryz.prog 8 #[] w fun e w' => e = .returned (.bool true) ∧ Below w.heap.size w w' := by
  have HT := Lib.hid t
  clear t
  go_enter Tryz.func8, Tryz.ntmps8
  go_wp2_with fail
  refine (example_any _).mono ?_
  rintro e w1 ⟨rfl, hx1, hb1⟩
  have k1 := Blk.new w1 27 #[.slice (some ⟨w.heap.size + 3, 0, none⟩) 1 1, .slice (some ⟨w.heap.size + 4, 0, none⟩) 2 2, .slice (some ⟨w.heap.size + 8, 0, none⟩) 3 3, .slice (some ⟨w.heap.size + 9, 0, none⟩) 1 1]
  have hal : Below w1.heap.size w1 (w1.alloc (.cells #[.slice (some ⟨w.heap.size + 3, 0, none⟩) 1 1, .slice (some ⟨w.heap.size + 4, 0, none⟩) 2 2, .slice (some ⟨w.heap.size + 8, 0, none⟩) 3 3, .slice (some ⟨w.heap.size + 9, 0, none⟩) 1 1] 27)) := (Below.refl _ _).alloc (Nat.le_refl _) _
  have HX := Lib.hid (hx1.below hal)
  have HK := Lib.hid k1
  have HB := Lib.hid (below_step hb1 hal)
  clear k1 hal hx1 hb1
  go_upto_region 2 with fail
  obtain ⟨Wb, hWb⟩ : ∃ Wb, (w1.alloc (.cells #[.slice (some ⟨w.heap.size + 3, 0, none⟩) 1 1, .slice (some ⟨w.heap.size + 4, 0, none⟩) 2 2, .slice (some ⟨w.heap.size + 8, 0, none⟩) 3 3, .slice (some ⟨w.heap.size + 9, 0, none⟩) 1 1] 27)) = Wb := ⟨_, rfl⟩
  rw [hWb] at HX HK HB ⊢
  clear hWb
  go_cut [2, 3] from 12 (fun x2 x3 wx => ∃ B2, x2 = .pointer (some ⟨B2, 0, none⟩) ∧ x3 = .int .i64 0 ∧ RowKit.Hid (BoxRo Wb wx B2 paX))
  case first =>
    have hbd : Below Wb.heap.size Wb Wb.drew := (Below.refl _ _).drew
    have hbo : Below Wb.heap.size Wb (Wb.drew.alloc zRoll) := hbd.alloc (Nat.le_refl _) _
    have hko : Blk (Wb.drew.alloc zRoll) Wb.heap.size 36 #[.int .i64 0, .slice none 0 0] := Blk.new Wb.drew _ _
    obtain ⟨c0, c1, c2, c3⟩ := HK.out.four
    have a0 := cell_alloc c0
    have a1 := cell_alloc c1
    have a2 := cell_alloc c2
    have a3 := cell_alloc c3
    have hds : Wb.drew.heap.size = Wb.heap.size := rfl
    have hdo : (Wb.drew.alloc zRoll).heap.size = Wb.heap.size + 1 := by simp
    refine wp_plain ?_
    go_region_with (first
      | (go_at_call 27; refine (events_any Wb.drew).mono ?_; rintro e w2 ⟨rfl, he2, hb2⟩; rw [hds] at he2; have q2 : Below Wb.heap.size Wb w2 := below_step hbd hb2; obtain ⟨d0, d1, d2, d3⟩ := (HK.out.below q2).four; have g0 := cell_alloc d0; have g1 := cell_alloc d1; have g2 := cell_alloc d2; have g3 := cell_alloc d3)
      | (go_at_call 27; refine (events_any (Wb.drew.alloc zRoll)).mono ?_; rintro e w2 ⟨rfl, he2, hb2⟩; rw [hdo] at he2; have q2 : Below Wb.heap.size Wb w2 := below_step hbo hb2; have hko2 := hko.below hb2; have hge2 : Wb.heap.size ≤ Wb.heap.size := Nat.le_refl _; obtain ⟨d0, d1, d2, d3⟩ := (HK.out.below q2).four)
      | (go_at_call 28; refine (scaleX_any (w2.alloc zRoll)).mono ?_; rintro e w3 ⟨rfl, hs3, hb3⟩; rw [World.size_alloc] at hs3; have hz2 := (Below.refl w2.heap.size w2).alloc (Nat.le_refl _) zRoll; have q3 : Below Wb.heap.size Wb w3 := below_step (below_step q2 hz2) hb3; have he3 := (he2.later hz2).later hb3; have hko3 := (Blk.new w2 36 #[.int .i64 0, .slice none 0 0]).below hb3; have hge3 := q2.size; obtain ⟨f0, f1, f2, f3⟩ := (HK.out.below q3).four)
      | (go_at_call 28; refine (scaleX_any w2).mono ?_; rintro e w3 ⟨rfl, hs3, hb3⟩; have q3 : Below Wb.heap.size Wb w3 := below_step q2 hb3; have he3 := he2.later hb3; have hko3 := hko2.below hb3; have hge3 := hge2; obtain ⟨f0, f1, f2, f3⟩ := (HK.out.below q3).four)
      | (go_at_call 28; refine (scaleX_any w2).mono ?_; rintro e w3 ⟨rfl, hs3, hb3⟩; have q3 : Below Wb.heap.size Wb w3 := below_step q2 hb3; have he3 := he2.later hb3; obtain ⟨f0, f1, f2, f3⟩ := (HK.out.below q3).four; have m0 := cell_alloc f0; have m1 := cell_alloc f1; have m2 := cell_alloc f2; have m3 := cell_alloc f3)
      | (go_at_call 9; have hz3 := (Below.refl w3.heap.size w3).alloc (Nat.le_refl _) zRoll; refine (make_x (w3.alloc zRoll) (HT.out.below (below_step HB.out (below_step q3 hz3))) w.heap.size (HX.out.below (below_step q3 hz3)) _ _ (he3.later hz3) (hs3.later hz3)).mono ?_; rintro e w4 ⟨v4, r4, rfl, hr4, hb4, hs4⟩; obtain ⟨a4, n4, rfl⟩ := hr4.form; have q4 : Below Wb.heap.size Wb w4 := below_step (below_step q3 hz3) hb4; have hko4 := (Blk.new w3 36 #[.int .i64 0, .slice none 0 0]).below hb4; have hge4 := q3.size; have hlt4 : w3.heap.size < (w3.alloc zRoll).heap.size := (by simp); obtain ⟨s0, s1, s2, s3⟩ := hko4.two)
      | (go_at_call 9; refine (make_x w3 (HT.out.below (below_step HB.out q3)) w.heap.size (HX.out.below q3) _ _ he3 hs3).mono ?_; rintro e w4 ⟨v4, r4, rfl, hr4, hb4, hs4⟩; obtain ⟨a4, n4, rfl⟩ := hr4.form; have q4 : Below Wb.heap.size Wb w4 := below_step q3 hb4; have hko4 := hko3.below hb4; have hge4 := hge3; have hlt4 := hko3.lt; obtain ⟨s0, s1, s2, s3⟩ := hko4.two)
      | (go_at_call 9; refine (make_x w3 (HT.out.below (below_step HB.out q3)) w.heap.size (HX.out.below q3) _ _ he3 hs3).mono ?_; rintro e w4 ⟨v4, r4, rfl, hr4, hb4, hs4⟩; obtain ⟨a4, n4, rfl⟩ := hr4.form; have q4 : Below Wb.heap.size Wb w4 := below_step q3 hb4))
    all_goals (go_wp2_with fail; go_meet; first | exact ⟨_, rfl, rfl, Lib.hid (box_late q4 hr4)⟩ | exact ⟨_, rfl, rfl, Lib.hid (box_early q4 hs4 hko4 hge4 hlt4)⟩)
  case rest =>
    obtain ⟨B2, rfl, rfl, HR⟩ := hcut
    have HBc := Lib.hid (show Below Wb.heap.size Wb wc by obtain ⟨_, _, _, _, h⟩ := HR.out; exact h)
    have HXc := Lib.hid (HX.out.below HBc.out)
    have HKc := Lib.hid (HK.out.below HBc.out)
    have HWc := Lib.hid (below_step HB.out HBc.out)
    clear HX HK HB
    rename World => Wc
    go_upto_region 3 with fail
    go_cut [4, 5] from 12 (fun x4 x5 wx => ∃ a c, x4 = .slice a 4 c ∧ x5 = .int .i64 0 ∧ RowKit.Hid (ARd wx (.slice a 4 c) 5 (wantX.map evC)) ∧ RowKit.Hid (Below Wc.heap.size Wc wx))
    case first =>
      have hbd : Below Wc.heap.size Wc Wc.drew := (Below.refl _ _).drew
      obtain ⟨c0, c1, c2, c3⟩ := HKc.out.four
      refine wp_plain ?_
      go_region_with (first
        | (go_at_call 29; refine (paper_any Wc.drew).mono ?_; rintro e w2 ⟨rfl, hp2, hb2⟩; have q2 : Below Wc.heap.size Wc w2 := below_step hbd hb2; obtain ⟨d0, d1, d2, d3⟩ := (HKc.out.below q2).four)
        | (go_at_call 28; refine (scaleX_any w2).mono ?_; rintro e w3 ⟨rfl, hs3, hb3⟩; have q3 : Below Wc.heap.size Wc w3 := below_step q2 hb3; have hp3 := hp2.later hb3; obtain ⟨f0, f1, f2, f3⟩ := (HKc.out.below q3).four)
        | (go_at_call 15; refine (read_x w3 (HT.out.below (below_step HWc.out q3)) w.heap.size (HXc.out.below q3) _ _ hp3 _ hs3).mono ?_; rintro e w4 ⟨a4, n4, rfl, hr4, hb4⟩; have q4 : Below Wc.heap.size Wc w4 := below_step q3 hb4))
      all_goals (go_wp2_with fail; go_meet; exact ⟨_, _, rfl, rfl, Lib.hid hr4, Lib.hid q4⟩)
    case rest =>
      obtain ⟨a4, n4, rfl, rfl, HE4, HB4⟩ := hcut
      have HR4 := Lib.hid (HR.out.below HB4.out)
      have HW4 := Lib.hid (below_step HWc.out HB4.out)
      clear HR HXc HKc
      go_wp2_with fail
      refine (paper_any _).mono ?_
      rintro e w5 ⟨rfl, hp5, hb5⟩
      go_wp2_with fail
      refine (bridge_x w5 _ _ hp5).mono ?_
      rintro e w6 ⟨a6, n6, g6, rfl, hr6, hb6⟩
      have hb46 := below_step hb5 hb6
      have hz6 := (Below.refl w6.heap.size w6).alloc (Nat.le_refl _) (.cells #[.int .i64 4, .slice a6 5 n6] 36)
      have hb47 := below_step hb46 hz6
      have HR7 := Lib.hid (HR4.out.below hb47)
      have HE7 := Lib.hid (HE4.out.later hb47)
      have HW7 := Lib.hid (below_step HW4.out hb47)
      have HK7 := Lib.hid (Blk.new w6 36 #[.int .i64 4, .slice a6 5 n6])
      have HG7 := Lib.hid (hr6.later hz6)
      clear hp5 hb5 hr6 hb6 hb46 hz6 hb47 HR4 HE4
      go_wp2_with fail
      obtain ⟨w7, hw7⟩ : ∃ w7, w6.alloc (.cells #[.int .i64 4, .slice a6 5 n6] 36) = w7 := ⟨_, rfl⟩
      rw [hw7] at HR7 HE7 HW7 HK7 HG7 ⊢
      clear hw7
      refine (paper_any _).mono ?_
      rintro e w8 ⟨rfl, hp8, hb8⟩
      go_wp2_with fail
      refine (weak_x w8 _ _ hp8).mono ?_
      rintro e w9 ⟨a9, n9, rfl, hr9, hb9⟩
      have hb79 := below_step hb8 hb9
      have hz9 := (Below.refl w9.heap.size w9).alloc (Nat.le_refl _) (.cells #[.int .i64 0, .int .i64 2, .int .i64 0, .int .i64 0, .int .i64 1, .int .i64 10, .int .i64 1, .int .i64 0, .int .i64 40, .int .i64 1, .int .i64 30, .int .i64 1, .int .i64 0, .int .i64 40, .int .i64 0, .int .i64 50, .int .i64 2, .int .i64 0, .int .i64 0, .int .i64 0] 68)
      have hb7 := below_step hb79 hz9
      have HR10 := Lib.hid (HR7.out.below hb7)
      have HE10 := Lib.hid (HE7.out.later hb7)
      have HW10 := Lib.hid (below_step HW7.out hb7)
      have HK10 := Lib.hid (HK7.out.below hb7)
      have HG10 := Lib.hid (HG7.out.later hb7)
      have HI10 := Lib.hid (hr9.later hz9)
      have HQ10 := Lib.hid (show ARd (w9.alloc (.cells #[.int .i64 0, .int .i64 2, .int .i64 0, .int .i64 0, .int .i64 1, .int .i64 10, .int .i64 1, .int .i64 0, .int .i64 40, .int .i64 1, .int .i64 30, .int .i64 1, .int .i64 0, .int .i64 40, .int .i64 0, .int .i64 50, .int .i64 2, .int .i64 0, .int .i64 0, .int .i64 0] 68)) (.slice (some ⟨w9.heap.size, 0, none⟩) 4 4) 5 (wantX.map evC) from ARd.of_blk (blk_at rfl) (fun r h => by obtain ⟨e, _, rfl⟩ := List.mem_map.1 h; rfl) rfl _ _ rfl)
      clear hp8 hb8 hr9 hb9 hb79 hz9 hb7 HR7 HE7 HW7 HK7 HG7
      go_upto_region 7 with fail
      obtain ⟨W, hW⟩ : ∃ W, w9.alloc (.cells #[.int .i64 0, .int .i64 2, .int .i64 0, .int .i64 0, .int .i64 1, .int .i64 10, .int .i64 1, .int .i64 0, .int .i64 40, .int .i64 1, .int .i64 30, .int .i64 1, .int .i64 0, .int .i64 40, .int .i64 0, .int .i64 50, .int .i64 2, .int .i64 0, .int .i64 0, .int .i64 0] 68) = W := ⟨_, rfl⟩
      rw [hW] at HR10 HE10 HW10 HK10 HG10 HI10 HQ10 ⊢
      clear hW
      obtain ⟨v2, g2, k2, r2, _⟩ := HR10.out
      obtain ⟨a2, n2, rfl⟩ := r2.form
      have K2 := Lib.hid k2
      have R2 := Lib.hid r2
      have hbd : Below W.heap.size W W.drew := (Below.refl _ _).drew
      have c0 : W.cell? ⟨B2, 0, none⟩ = some (.int .i64 4) := k2.cell 0
      have c1 : W.cell? ⟨B2, 1, none⟩ = some (.slice a2 5 n2) := k2.cell 1
      have d0 : W.cell? ⟨w6.heap.size, 0, none⟩ = some (.int .i64 4) := HK10.out.cell 0
      have d1 : W.cell? ⟨w6.heap.size, 1, none⟩ = some (.slice a6 5 n6) := HK10.out.cell 1
      clear k2 r2
      have hk1 : ∀ l : List Int, ∀ r ∈ l.map iC, r.length = 1 := fun l r h => by obtain ⟨e, _, rfl⟩ := List.mem_map.1 h; rfl
      obtain ⟨v2, g2, k2, r2, _⟩ := HR10.out
      obtain ⟨a2, n2, rfl⟩ := r2.form
      have KB2 := Lib.hid k2
      have RB2 := Lib.hid r2
      clear k2 r2
      have hmxx : Tryz.prog.follows .mixedOrders = true := by kernel_rfl
      refine wp_plain (wp_region_flow (fun x => { tmps := #[(x 0), .pointer (some ⟨w1.heap.size, 0, none⟩), .pointer (some ⟨B2, 0, none⟩), .int .i64 0, .slice a4 4 n4, .int .i64 0, .pointer (some ⟨w6.heap.size, 0, none⟩), .int .i64 0, .slice a9 3 n9, .int .i64 0, .slice (some ⟨w9.heap.size, 0, none⟩) 4 4, .agg #[.slice (some ⟨w.heap.size + 3, 0, none⟩) 1 1, .slice (some ⟨w.heap.size + 4, 0, none⟩) 2 2, .slice (some ⟨w.heap.size + 8, 0, none⟩) 3 3, .slice (some ⟨w.heap.size + 9, 0, none⟩) 1 1], u12, u13, u14, u15, u16, u17, u18, u19, u20, u21, u22, u23, u24, u25, u26, .tuple #[.agg #[.int .i64 4, .slice a6 5 n6], .int .i64 0], .agg #[.int .i64 4, .slice (some ⟨wc.heap.size + 6, 0, none⟩) 5 5], .tuple #[.agg #[.int .i64 4, .slice a6 5 n6], .int .i64 0], .agg #[.int .i64 4, .slice a6 5 n6], .int .i64 0, .tuple #[.slice a9 3 n9, .int .i64 0], .agg #[.int .i64 4, .slice (some ⟨w7.heap.size + 6, 0, none⟩) 5 5], .tuple #[.slice a9 3 n9, .int .i64 0], .slice a9 3 n9, .int .i64 0, .agg #[.int .i64 0, .int .i64 2, .int .i64 0, .int .i64 0, .int .i64 1], .agg #[.int .i64 10, .int .i64 1, .int .i64 0, .int .i64 40, .int .i64 1], .agg #[.int .i64 30, .int .i64 1, .int .i64 0, .int .i64 40, .int .i64 0], .agg #[.int .i64 50, .int .i64 2, .int .i64 0, .int .i64 0, .int .i64 0], .slice (some ⟨w9.heap.size, 0, none⟩) 4 4, (x 42), (x 43), (x 44), (x 45), (x 46), (x 47), (x 48), (x 49), (x 50), (x 51), (x 52), (x 53), (x 54), (x 55), (x 56), (x 57), (x 58), (x 59), (x 60), (x 61), (x 62), (x 63), (x 64), (x 65), (x 66), (x 67), (x 68), (x 69), (x 70), (x 71), (x 72), (x 73), (x 74), (x 75), (x 76), (x 77), (x 78), (x 79), (x 80), (x 81)], defers := [] }) (fun i v z => match i with
        | 0 => v = .int .i64 0
        | 1 => v = .bool true
        | 2 => v = .bool true
        | 3 => v = .int .i64 0
        | 4 => v = .bool true
        | 5 => v = .bool true
        | 6 => v = .bool true
        | 7 => v = .int .i64 0
        | 8 => v = .bool true
        | 9 => v = .bool true
        | 10 => v = .bool true
        | 11 => v = .int .i64 0
        | 12 => v = .bool true
        | 13 => v = .bool true
        | 14 => v = .bool true
        | 15 => v = .agg #[.int .i64 4, .slice a2 5 n2]
        | 16 => ∃ b, v = .agg #[.int .i64 4, .slice (some ⟨b + 6, 0, none⟩) 5 5] ∧ RoRd z (.slice (some ⟨b + 6, 0, none⟩) 5 5) (paG b) paX
        | 17 => v = .bool true
        | 18 => v = .bool true
        | 19 => v = .bool true
        | 20 => v = .slice a4 4 n4
        | 21 => v = .slice (some ⟨w9.heap.size, 0, none⟩) 4 4
        | 22 => v = .bool true
        | 23 => v = .bool true
        | 24 => v = .bool true
        | 25 => v = .agg #[.int .i64 4, .slice a6 5 n6]
        | 26 => ∃ b, v = .slice (some ⟨b, 0, none⟩) 2 2 ∧ ARd z (.slice (some ⟨b, 0, none⟩) 2 2) 1 (([0, 3] : List Int).map iC)
        | 27 => ∃ b, v = .slice (some ⟨b, 0, none⟩) 2 2 ∧ ARd z (.slice (some ⟨b, 0, none⟩) 2 2) 1 (([0, 1] : List Int).map iC)
        | 28 => ∃ b, v = .slice (some ⟨b, 0, none⟩) 3 3 ∧ ARd z (.slice (some ⟨b, 0, none⟩) 3 3) 1 (([0, 1, 3] : List Int).map iC)
        | 29 => ∃ b, v = .slice (some ⟨b, 0, none⟩) 2 2 ∧ ARd z (.slice (some ⟨b, 0, none⟩) 2 2) 1 (([0, 2] : List Int).map iC)
        | 30 => ∃ b, v = .slice (some ⟨b, 0, none⟩) 2 2 ∧ ARd z (.slice (some ⟨b, 0, none⟩) 2 2) 1 (([0, 3] : List Int).map iC)
        | 31 => ∃ b, v = .slice (some ⟨b, 0, none⟩) 5 5 ∧ ∃ g, RoRd z (.slice (some ⟨b, 0, none⟩) 5 5) g brX
        | 32 => ∃ b, v = .agg #[.int .i64 4, .slice (some ⟨b, 0, none⟩) 5 5] ∧ ∃ g, RoRd z (.slice (some ⟨b, 0, none⟩) 5 5) g brX
        | 33 => v = .bool true
        | 34 => v = .bool true
        | 35 => v = .bool true
        | 36 => v = .slice a9 3 n9
        | 37 => ∃ b, v = .slice (some ⟨b, 0, none⟩) 3 3 ∧ ARd z (.slice (some ⟨b, 0, none⟩) 3 3) 1 (([1, 2, 3] : List Int).map iC)
        | 38 => v = .bool true
        | 39 => v = .bool true
        | 40 => v = .bool true
        | _ => True) (fun n => (#[.bool false, .pointer (some ⟨w1.heap.size, 0, none⟩), .pointer (some ⟨B2, 0, none⟩), .int .i64 0, .slice a4 4 n4, .int .i64 0, .pointer (some ⟨w6.heap.size, 0, none⟩), .int .i64 0, .slice a9 3 n9, .int .i64 0, .slice (some ⟨w9.heap.size, 0, none⟩) 4 4, .agg #[.slice (some ⟨w.heap.size + 3, 0, none⟩) 1 1, .slice (some ⟨w.heap.size + 4, 0, none⟩) 2 2, .slice (some ⟨w.heap.size + 8, 0, none⟩) 3 3, .slice (some ⟨w.heap.size + 9, 0, none⟩) 1 1], u12, u13, u14, u15, u16, u17, u18, u19, u20, u21, u22, u23, u24, u25, u26, .tuple #[.agg #[.int .i64 4, .slice a6 5 n6], .int .i64 0], .agg #[.int .i64 4, .slice (some ⟨wc.heap.size + 6, 0, none⟩) 5 5], .tuple #[.agg #[.int .i64 4, .slice a6 5 n6], .int .i64 0], .agg #[.int .i64 4, .slice a6 5 n6], .int .i64 0, .tuple #[.slice a9 3 n9, .int .i64 0], .agg #[.int .i64 4, .slice (some ⟨w7.heap.size + 6, 0, none⟩) 5 5], .tuple #[.slice a9 3 n9, .int .i64 0], .slice a9 3 n9, .int .i64 0, .agg #[.int .i64 0, .int .i64 2, .int .i64 0, .int .i64 0, .int .i64 1], .agg #[.int .i64 10, .int .i64 1, .int .i64 0, .int .i64 40, .int .i64 1], .agg #[.int .i64 30, .int .i64 1, .int .i64 0, .int .i64 40, .int .i64 0], .agg #[.int .i64 50, .int .i64 2, .int .i64 0, .int .i64 0, .int .i64 0], .slice (some ⟨w9.heap.size, 0, none⟩) 4 4, u42, u43, u44, u45, u46, u47, u48, u49, u50, u51, u52, u53, u54, u55, u56, u57, u58, u59, u60, u61, u62, u63, u64, u65, u66, u67, u68, u69, u70, u71, u72, u73, u74, u75, u76, u77, u78, u79, u80, u81] : Array Value).getD n undef) rfl hmxx (by kernel_rfl) (by kernel_rfl) ?mono ?put ?step ?done)
      case mono =>
        intro i v z z' h hb
        match i, h with
        | 0, h => exact h
        | 1, h => exact h
        | 2, h => exact h
        | 3, h => exact h
        | 4, h => exact h
        | 5, h => exact h
        | 6, h => exact h
        | 7, h => exact h
        | 8, h => exact h
        | 9, h => exact h
        | 10, h => exact h
        | 11, h => exact h
        | 12, h => exact h
        | 13, h => exact h
        | 14, h => exact h
        | 15, h => exact h
        | 16, h => obtain ⟨b, e, hr⟩ := h; exact ⟨b, e, hr.later hb⟩
        | 17, h => exact h
        | 18, h => exact h
        | 19, h => exact h
        | 20, h => exact h
        | 21, h => exact h
        | 22, h => exact h
        | 23, h => exact h
        | 24, h => exact h
        | 25, h => exact h
        | 26, h => obtain ⟨b, e, hr⟩ := h; exact ⟨b, e, hr.later hb⟩
        | 27, h => obtain ⟨b, e, hr⟩ := h; exact ⟨b, e, hr.later hb⟩
        | 28, h => obtain ⟨b, e, hr⟩ := h; exact ⟨b, e, hr.later hb⟩
        | 29, h => obtain ⟨b, e, hr⟩ := h; exact ⟨b, e, hr.later hb⟩
        | 30, h => obtain ⟨b, e, hr⟩ := h; exact ⟨b, e, hr.later hb⟩
        | 31, h => obtain ⟨b, e, g, hr⟩ := h; exact ⟨b, e, g, hr.later hb⟩
        | 32, h => obtain ⟨b, e, g, hr⟩ := h; exact ⟨b, e, g, hr.later hb⟩
        | 33, h => exact h
        | 34, h => exact h
        | 35, h => exact h
        | 36, h => exact h
        | 37, h => obtain ⟨b, e, hr⟩ := h; exact ⟨b, e, hr.later hb⟩
        | 38, h => exact h
        | 39, h => exact h
        | 40, h => exact h
        | _ + 41, _ => trivial
      case put =>
        intro i o d ho hd x v
        match i, ho with
        | 0, ho => obtain rfl := Option.some.inj (show some _ = some o from ho); obtain rfl := Option.some.inj (show some _ = some d from hd); rfl
        | 1, ho => obtain rfl := Option.some.inj (show some _ = some o from ho); obtain rfl := Option.some.inj (show some _ = some d from hd); rfl
        | 2, ho => obtain rfl := Option.some.inj (show some _ = some o from ho); obtain rfl := Option.some.inj (show some _ = some d from hd); rfl
        | 3, ho => obtain rfl := Option.some.inj (show some _ = some o from ho); obtain rfl := Option.some.inj (show some _ = some d from hd); rfl
        | 4, ho => obtain rfl := Option.some.inj (show some _ = some o from ho); obtain rfl := Option.some.inj (show some _ = some d from hd); rfl
        | 5, ho => obtain rfl := Option.some.inj (show some _ = some o from ho); obtain rfl := Option.some.inj (show some _ = some d from hd); rfl
        | 6, ho => obtain rfl := Option.some.inj (show some _ = some o from ho); obtain rfl := Option.some.inj (show some _ = some d from hd); rfl
        | 7, ho => obtain rfl := Option.some.inj (show some _ = some o from ho); obtain rfl := Option.some.inj (show some _ = some d from hd); rfl
        | 8, ho => obtain rfl := Option.some.inj (show some _ = some o from ho); obtain rfl := Option.some.inj (show some _ = some d from hd); rfl
        | 9, ho => obtain rfl := Option.some.inj (show some _ = some o from ho); obtain rfl := Option.some.inj (show some _ = some d from hd); rfl
        | 10, ho => obtain rfl := Option.some.inj (show some _ = some o from ho); obtain rfl := Option.some.inj (show some _ = some d from hd); rfl
        | 11, ho => obtain rfl := Option.some.inj (show some _ = some o from ho); obtain rfl := Option.some.inj (show some _ = some d from hd); rfl
        | 12, ho => obtain rfl := Option.some.inj (show some _ = some o from ho); obtain rfl := Option.some.inj (show some _ = some d from hd); rfl
        | 13, ho => obtain rfl := Option.some.inj (show some _ = some o from ho); obtain rfl := Option.some.inj (show some _ = some d from hd); rfl
        | 14, ho => obtain rfl := Option.some.inj (show some _ = some o from ho); obtain rfl := Option.some.inj (show some _ = some d from hd); rfl
        | 15, ho => obtain rfl := Option.some.inj (show some _ = some o from ho); obtain rfl := Option.some.inj (show some _ = some d from hd); rfl
        | 16, ho => obtain rfl := Option.some.inj (show some _ = some o from ho); obtain rfl := Option.some.inj (show some _ = some d from hd); rfl
        | 17, ho => obtain rfl := Option.some.inj (show some _ = some o from ho); obtain rfl := Option.some.inj (show some _ = some d from hd); rfl
        | 18, ho => obtain rfl := Option.some.inj (show some _ = some o from ho); obtain rfl := Option.some.inj (show some _ = some d from hd); rfl
        | 19, ho => obtain rfl := Option.some.inj (show some _ = some o from ho); obtain rfl := Option.some.inj (show some _ = some d from hd); rfl
        | 20, ho => obtain rfl := Option.some.inj (show some _ = some o from ho); obtain rfl := Option.some.inj (show some _ = some d from hd); rfl
        | 21, ho => obtain rfl := Option.some.inj (show some _ = some o from ho); obtain rfl := Option.some.inj (show some _ = some d from hd); rfl
        | 22, ho => obtain rfl := Option.some.inj (show some _ = some o from ho); obtain rfl := Option.some.inj (show some _ = some d from hd); rfl
        | 23, ho => obtain rfl := Option.some.inj (show some _ = some o from ho); obtain rfl := Option.some.inj (show some _ = some d from hd); rfl
        | 24, ho => obtain rfl := Option.some.inj (show some _ = some o from ho); obtain rfl := Option.some.inj (show some _ = some d from hd); rfl
        | 25, ho => obtain rfl := Option.some.inj (show some _ = some o from ho); obtain rfl := Option.some.inj (show some _ = some d from hd); rfl
        | 26, ho => obtain rfl := Option.some.inj (show some _ = some o from ho); obtain rfl := Option.some.inj (show some _ = some d from hd); rfl
        | 27, ho => obtain rfl := Option.some.inj (show some _ = some o from ho); obtain rfl := Option.some.inj (show some _ = some d from hd); rfl
        | 28, ho => obtain rfl := Option.some.inj (show some _ = some o from ho); obtain rfl := Option.some.inj (show some _ = some d from hd); rfl
        | 29, ho => obtain rfl := Option.some.inj (show some _ = some o from ho); obtain rfl := Option.some.inj (show some _ = some d from hd); rfl
        | 30, ho => obtain rfl := Option.some.inj (show some _ = some o from ho); obtain rfl := Option.some.inj (show some _ = some d from hd); rfl
        | 31, ho => obtain rfl := Option.some.inj (show some _ = some o from ho); obtain rfl := Option.some.inj (show some _ = some d from hd); rfl
        | 32, ho => obtain rfl := Option.some.inj (show some _ = some o from ho); obtain rfl := Option.some.inj (show some _ = some d from hd); rfl
        | 33, ho => obtain rfl := Option.some.inj (show some _ = some o from ho); obtain rfl := Option.some.inj (show some _ = some d from hd); rfl
        | 34, ho => obtain rfl := Option.some.inj (show some _ = some o from ho); obtain rfl := Option.some.inj (show some _ = some d from hd); rfl
        | 35, ho => obtain rfl := Option.some.inj (show some _ = some o from ho); obtain rfl := Option.some.inj (show some _ = some d from hd); rfl
        | 36, ho => obtain rfl := Option.some.inj (show some _ = some o from ho); obtain rfl := Option.some.inj (show some _ = some d from hd); rfl
        | 37, ho => obtain rfl := Option.some.inj (show some _ = some o from ho); obtain rfl := Option.some.inj (show some _ = some d from hd); rfl
        | 38, ho => obtain rfl := Option.some.inj (show some _ = some o from ho); obtain rfl := Option.some.inj (show some _ = some d from hd); rfl
        | 39, ho => obtain rfl := Option.some.inj (show some _ = some o from ho); obtain rfl := Option.some.inj (show some _ = some d from hd); rfl
        | 40, ho => obtain rfl := Option.some.inj (show some _ = some o from ho); obtain rfl := Option.some.inj (show some _ = some d from hd); rfl
        | n + 41, ho => exact absurd (Array.getElem?_eq_some_iff.1 ho).1 (by simp)
      case step =>
        intro i o ho x z hz hdep K hK
        match i, ho with
        | 0, ho =>
          obtain rfl := Option.some.inj (show some _ = some o from ho)
          clear hdep ho
          dsimp only at hK ⊢
          refine wpOp_step rfl (fun K2 hK2 => ?_)
          go_simp
          exact hK2 _ _ (hK _ _ (Below.refl _ _) rfl)
        | 1, ho =>
          obtain rfl := Option.some.inj (show some _ = some o from ho)
          have q0 : x 42 = .int .i64 0 := hdep 0 (by kernel_rfl) _ _ rfl rfl
          clear hdep ho
          dsimp only at hK ⊢
          simp only [q0] at hK ⊢
          refine wpOp_step rfl (fun K2 hK2 => ?_)
          go_simp
          exact hK2 _ _ (hK _ _ (Below.refl _ _) rfl)
        | 2, ho =>
          obtain rfl := Option.some.inj (show some _ = some o from ho)
          have q1 : x 43 = .bool true := hdep 1 (by kernel_rfl) _ _ rfl rfl
          clear hdep ho
          dsimp only at hK ⊢
          simp only [q1] at hK ⊢
          refine wpOp_step rfl (fun K2 hK2 => ?_)
          go_simp
          exact hK2 _ _ (hK _ _ (Below.refl _ _) rfl)
        | 3, ho =>
          obtain rfl := Option.some.inj (show some _ = some o from ho)
          have q2 : x 44 = .bool true := hdep 2 (by kernel_rfl) _ _ rfl rfl
          clear hdep ho
          dsimp only at hK ⊢
          simp only [q2] at hK ⊢
          refine wpOp_step rfl (fun K2 hK2 => ?_)
          go_simp
          exact hK2 _ _ (hK _ _ (Below.refl _ _) rfl)
        | 4, ho =>
          obtain rfl := Option.some.inj (show some _ = some o from ho)
          have q3 : x 45 = .int .i64 0 := hdep 3 (by kernel_rfl) _ _ rfl rfl
          have q2 : x 44 = .bool true := hdep 2 (by kernel_rfl) _ _ rfl rfl
          clear hdep ho
          dsimp only at hK ⊢
          simp only [q3, q2] at hK ⊢
          refine wpOp_step rfl (fun K2 hK2 => ?_)
          go_simp
          exact hK2 _ _ (hK _ _ (Below.refl _ _) rfl)
        | 5, ho =>
          obtain rfl := Option.some.inj (show some _ = some o from ho)
          have q2 : x 44 = .bool true := hdep 2 (by kernel_rfl) _ _ rfl rfl
          have q4 : x 46 = .bool true := hdep 4 (by kernel_rfl) _ _ rfl rfl
          clear hdep ho
          dsimp only at hK ⊢
          simp only [q2, q4] at hK ⊢
          refine wpOp_step rfl (fun K2 hK2 => ?_)
          go_simp
          exact hK2 _ _ (hK _ _ (Below.refl _ _) rfl)
        | 6, ho =>
          obtain rfl := Option.some.inj (show some _ = some o from ho)
          have q5 : x 47 = .bool true := hdep 5 (by kernel_rfl) _ _ rfl rfl
          clear hdep ho
          dsimp only at hK ⊢
          simp only [q5] at hK ⊢
          refine wpOp_step rfl (fun K2 hK2 => ?_)
          go_simp
          exact hK2 _ _ (hK _ _ (Below.refl _ _) rfl)
        | 7, ho =>
          obtain rfl := Option.some.inj (show some _ = some o from ho)
          have q6 : x 48 = .bool true := hdep 6 (by kernel_rfl) _ _ rfl rfl
          clear hdep ho
          dsimp only at hK ⊢
          simp only [q6] at hK ⊢
          refine wpOp_step rfl (fun K2 hK2 => ?_)
          go_simp
          exact hK2 _ _ (hK _ _ (Below.refl _ _) rfl)
        | 8, ho =>
          obtain rfl := Option.some.inj (show some _ = some o from ho)
          have q7 : x 49 = .int .i64 0 := hdep 7 (by kernel_rfl) _ _ rfl rfl
          have q6 : x 48 = .bool true := hdep 6 (by kernel_rfl) _ _ rfl rfl
          clear hdep ho
          dsimp only at hK ⊢
          simp only [q7, q6] at hK ⊢
          refine wpOp_step rfl (fun K2 hK2 => ?_)
          go_simp
          exact hK2 _ _ (hK _ _ (Below.refl _ _) rfl)
        | 9, ho =>
          obtain rfl := Option.some.inj (show some _ = some o from ho)
          have q6 : x 48 = .bool true := hdep 6 (by kernel_rfl) _ _ rfl rfl
          have q8 : x 50 = .bool true := hdep 8 (by kernel_rfl) _ _ rfl rfl
          clear hdep ho
          dsimp only at hK ⊢
          simp only [q6, q8] at hK ⊢
          refine wpOp_step rfl (fun K2 hK2 => ?_)
          go_simp
          exact hK2 _ _ (hK _ _ (Below.refl _ _) rfl)
        | 10, ho =>
          obtain rfl := Option.some.inj (show some _ = some o from ho)
          have q9 : x 51 = .bool true := hdep 9 (by kernel_rfl) _ _ rfl rfl
          clear hdep ho
          dsimp only at hK ⊢
          simp only [q9] at hK ⊢
          refine wpOp_step rfl (fun K2 hK2 => ?_)
          go_simp
          exact hK2 _ _ (hK _ _ (Below.refl _ _) rfl)
        | 11, ho =>
          obtain rfl := Option.some.inj (show some _ = some o from ho)
          have q10 : x 52 = .bool true := hdep 10 (by kernel_rfl) _ _ rfl rfl
          clear hdep ho
          dsimp only at hK ⊢
          simp only [q10] at hK ⊢
          refine wpOp_step rfl (fun K2 hK2 => ?_)
          go_simp
          exact hK2 _ _ (hK _ _ (Below.refl _ _) rfl)
        | 12, ho =>
          obtain rfl := Option.some.inj (show some _ = some o from ho)
          have q11 : x 53 = .int .i64 0 := hdep 11 (by kernel_rfl) _ _ rfl rfl
          have q10 : x 52 = .bool true := hdep 10 (by kernel_rfl) _ _ rfl rfl
          clear hdep ho
          dsimp only at hK ⊢
          simp only [q11, q10] at hK ⊢
          refine wpOp_step rfl (fun K2 hK2 => ?_)
          go_simp
          exact hK2 _ _ (hK _ _ (Below.refl _ _) rfl)
        | 13, ho =>
          obtain rfl := Option.some.inj (show some _ = some o from ho)
          have q10 : x 52 = .bool true := hdep 10 (by kernel_rfl) _ _ rfl rfl
          have q12 : x 54 = .bool true := hdep 12 (by kernel_rfl) _ _ rfl rfl
          clear hdep ho
          dsimp only at hK ⊢
          simp only [q10, q12] at hK ⊢
          refine wpOp_step rfl (fun K2 hK2 => ?_)
          go_simp
          exact hK2 _ _ (hK _ _ (Below.refl _ _) rfl)
        | 14, ho =>
          obtain rfl := Option.some.inj (show some _ = some o from ho)
          have q13 : x 55 = .bool true := hdep 13 (by kernel_rfl) _ _ rfl rfl
          clear hdep ho
          dsimp only at hK ⊢
          simp only [q13] at hK ⊢
          refine wpOp_step rfl (fun K2 hK2 => ?_)
          go_simp
          exact hK2 _ _ (hK _ _ (Below.refl _ _) rfl)
        | 15, ho =>
          obtain rfl := Option.some.inj (show some _ = some o from ho)
          have q14 : x 56 = .bool true := hdep 14 (by kernel_rfl) _ _ rfl rfl
          clear hdep ho
          dsimp only at hK ⊢
          simp only [q14] at hK ⊢
          have c0 : z.cell? ⟨B2, 0, none⟩ = some (.int .i64 4) := (KB2.out.below hz).cell 0
          have c1 : z.cell? ⟨B2, 1, none⟩ = some (.slice a2 5 n2) := (KB2.out.below hz).cell 1
          refine wpOp_step rfl (fun K2 hK2 => ?_)
          go_simp
          exact hK2 _ _ (hK _ _ (Below.refl _ _) rfl)
        | 16, ho =>
          obtain rfl := Option.some.inj (show some _ = some o from ho)
          have q14 : x 56 = .bool true := hdep 14 (by kernel_rfl) _ _ rfl rfl
          clear hdep ho
          dsimp only at hK ⊢
          simp only [q14] at hK ⊢
          refine wpOp_step rfl (fun K2 hK2 => ?_)
          go_simp
          refine (paper_any _).mono ?_
          rintro e z1 ⟨rfl, hp, hb⟩
          exact hK2 _ _ (hK _ _ hb ⟨_, rfl, hp⟩)
        | 17, ho =>
          obtain rfl := Option.some.inj (show some _ = some o from ho)
          have q15 : x 57 = .agg #[.int .i64 4, .slice a2 5 n2] := hdep 15 (by kernel_rfl) _ _ rfl rfl
          have h16 : ∃ b, x 58 = .agg #[.int .i64 4, .slice (some ⟨b + 6, 0, none⟩) 5 5] ∧ RoRd z (.slice (some ⟨b + 6, 0, none⟩) 5 5) (paG b) paX := hdep 16 (by kernel_rfl) _ _ rfl rfl
          obtain ⟨b16, q16, r16⟩ := h16
          have q14 : x 56 = .bool true := hdep 14 (by kernel_rfl) _ _ rfl rfl
          clear hdep ho
          dsimp only at hK ⊢
          simp only [q15, q16, q14] at hK ⊢
          refine wpOp_step rfl (fun K2 hK2 => ?_)
          go_simp
          refine (same_rolls paX (by decide) (by decide) _ _ _ _ z (RB2.out.later hz) r16).mono ?_
          rintro e z1 ⟨rfl, hb⟩
          exact hK2 _ _ (hK _ _ hb rfl)
        | 18, ho =>
          obtain rfl := Option.some.inj (show some _ = some o from ho)
          have q14 : x 56 = .bool true := hdep 14 (by kernel_rfl) _ _ rfl rfl
          have q17 : x 59 = .bool true := hdep 17 (by kernel_rfl) _ _ rfl rfl
          clear hdep ho
          dsimp only at hK ⊢
          simp only [q14, q17] at hK ⊢
          refine wpOp_step rfl (fun K2 hK2 => ?_)
          go_simp
          exact hK2 _ _ (hK _ _ (Below.refl _ _) rfl)
        | 19, ho =>
          obtain rfl := Option.some.inj (show some _ = some o from ho)
          have q18 : x 60 = .bool true := hdep 18 (by kernel_rfl) _ _ rfl rfl
          clear hdep ho
          dsimp only at hK ⊢
          simp only [q18] at hK ⊢
          refine wpOp_step rfl (fun K2 hK2 => ?_)
          go_simp
          exact hK2 _ _ (hK _ _ (Below.refl _ _) rfl)
        | 20, ho =>
          obtain rfl := Option.some.inj (show some _ = some o from ho)
          have q19 : x 61 = .bool true := hdep 19 (by kernel_rfl) _ _ rfl rfl
          clear hdep ho
          dsimp only at hK ⊢
          simp only [q19] at hK ⊢
          refine wpOp_step rfl (fun K2 hK2 => ?_)
          go_simp
          exact hK2 _ _ (hK _ _ (Below.refl _ _) rfl)
        | 21, ho =>
          obtain rfl := Option.some.inj (show some _ = some o from ho)
          have q19 : x 61 = .bool true := hdep 19 (by kernel_rfl) _ _ rfl rfl
          clear hdep ho
          dsimp only at hK ⊢
          simp only [q19] at hK ⊢
          refine wpOp_step rfl (fun K2 hK2 => ?_)
          go_simp
          exact hK2 _ _ (hK _ _ (Below.refl _ _) rfl)
        | 22, ho =>
          obtain rfl := Option.some.inj (show some _ = some o from ho)
          have q20 : x 62 = .slice a4 4 n4 := hdep 20 (by kernel_rfl) _ _ rfl rfl
          have q21 : x 63 = .slice (some ⟨w9.heap.size, 0, none⟩) 4 4 := hdep 21 (by kernel_rfl) _ _ rfl rfl
          have q19 : x 61 = .bool true := hdep 19 (by kernel_rfl) _ _ rfl rfl
          clear hdep ho
          dsimp only at hK ⊢
          simp only [q20, q21, q19] at hK ⊢
          refine wpOp_step rfl (fun K2 hK2 => ?_)
          go_simp
          refine (same_events wantX _ _ z (HE10.out.later hz) (HQ10.out.later hz) (by decide)).mono ?_
          rintro e z1 ⟨rfl, n3, rfl⟩
          exact hK2 _ _ (hK _ _ (below_drewN (Below.refl _ _) n3) rfl)
        | 23, ho =>
          obtain rfl := Option.some.inj (show some _ = some o from ho)
          have q19 : x 61 = .bool true := hdep 19 (by kernel_rfl) _ _ rfl rfl
          have q22 : x 64 = .bool true := hdep 22 (by kernel_rfl) _ _ rfl rfl
          clear hdep ho
          dsimp only at hK ⊢
          simp only [q19, q22] at hK ⊢
          refine wpOp_step rfl (fun K2 hK2 => ?_)
          go_simp
          exact hK2 _ _ (hK _ _ (Below.refl _ _) rfl)
        | 24, ho =>
          obtain rfl := Option.some.inj (show some _ = some o from ho)
          have q23 : x 65 = .bool true := hdep 23 (by kernel_rfl) _ _ rfl rfl
          clear hdep ho
          dsimp only at hK ⊢
          simp only [q23] at hK ⊢
          refine wpOp_step rfl (fun K2 hK2 => ?_)
          go_simp
          exact hK2 _ _ (hK _ _ (Below.refl _ _) rfl)
        | 25, ho =>
          obtain rfl := Option.some.inj (show some _ = some o from ho)
          have q24 : x 66 = .bool true := hdep 24 (by kernel_rfl) _ _ rfl rfl
          clear hdep ho
          dsimp only at hK ⊢
          simp only [q24] at hK ⊢
          have c0 : z.cell? ⟨w6.heap.size, 0, none⟩ = some (.int .i64 4) := (HK10.out.below hz).cell 0
          have c1 : z.cell? ⟨w6.heap.size, 1, none⟩ = some (.slice a6 5 n6) := (HK10.out.below hz).cell 1
          refine wpOp_step rfl (fun K2 hK2 => ?_)
          go_simp
          exact hK2 _ _ (hK _ _ (Below.refl _ _) rfl)
        | 26, ho =>
          obtain rfl := Option.some.inj (show some _ = some o from ho)
          have q24 : x 66 = .bool true := hdep 24 (by kernel_rfl) _ _ rfl rfl
          clear hdep ho
          dsimp only at hK ⊢
          simp only [q24] at hK ⊢
          refine wpOp_step rfl (fun K2 hK2 => ?_)
          go_simp
          exact hK2 _ _ (hK _ _ ((Below.refl _ _).alloc (Nat.le_refl _) _) ⟨_, rfl, ARd.of_blk (blk_at rfl) (hk1 [0, 3]) rfl _ _ rfl⟩)
        | 27, ho =>
          obtain rfl := Option.some.inj (show some _ = some o from ho)
          have q24 : x 66 = .bool true := hdep 24 (by kernel_rfl) _ _ rfl rfl
          clear hdep ho
          dsimp only at hK ⊢
          simp only [q24] at hK ⊢
          refine wpOp_step rfl (fun K2 hK2 => ?_)
          go_simp
          exact hK2 _ _ (hK _ _ ((Below.refl _ _).alloc (Nat.le_refl _) _) ⟨_, rfl, ARd.of_blk (blk_at rfl) (hk1 [0, 1]) rfl _ _ rfl⟩)
        | 28, ho =>
          obtain rfl := Option.some.inj (show some _ = some o from ho)
          have q24 : x 66 = .bool true := hdep 24 (by kernel_rfl) _ _ rfl rfl
          clear hdep ho
          dsimp only at hK ⊢
          simp only [q24] at hK ⊢
          refine wpOp_step rfl (fun K2 hK2 => ?_)
          go_simp
          exact hK2 _ _ (hK _ _ ((Below.refl _ _).alloc (Nat.le_refl _) _) ⟨_, rfl, ARd.of_blk (blk_at rfl) (hk1 [0, 1, 3]) rfl _ _ rfl⟩)
        | 29, ho =>
          obtain rfl := Option.some.inj (show some _ = some o from ho)
          have q24 : x 66 = .bool true := hdep 24 (by kernel_rfl) _ _ rfl rfl
          clear hdep ho
          dsimp only at hK ⊢
          simp only [q24] at hK ⊢
          refine wpOp_step rfl (fun K2 hK2 => ?_)
          go_simp
          exact hK2 _ _ (hK _ _ ((Below.refl _ _).alloc (Nat.le_refl _) _) ⟨_, rfl, ARd.of_blk (blk_at rfl) (hk1 [0, 2]) rfl _ _ rfl⟩)
        | 30, ho =>
          obtain rfl := Option.some.inj (show some _ = some o from ho)
          have q24 : x 66 = .bool true := hdep 24 (by kernel_rfl) _ _ rfl rfl
          clear hdep ho
          dsimp only at hK ⊢
          simp only [q24] at hK ⊢
          refine wpOp_step rfl (fun K2 hK2 => ?_)
          go_simp
          exact hK2 _ _ (hK _ _ ((Below.refl _ _).alloc (Nat.le_refl _) _) ⟨_, rfl, ARd.of_blk (blk_at rfl) (hk1 [0, 3]) rfl _ _ rfl⟩)
        | 31, ho =>
          obtain rfl := Option.some.inj (show some _ = some o from ho)
          have h26 : ∃ b, x 68 = .slice (some ⟨b, 0, none⟩) 2 2 ∧ ARd z (.slice (some ⟨b, 0, none⟩) 2 2) 1 (([0, 3] : List Int).map iC) := hdep 26 (by kernel_rfl) _ _ rfl rfl
          obtain ⟨b26, q26, r26⟩ := h26
          have h27 : ∃ b, x 69 = .slice (some ⟨b, 0, none⟩) 2 2 ∧ ARd z (.slice (some ⟨b, 0, none⟩) 2 2) 1 (([0, 1] : List Int).map iC) := hdep 27 (by kernel_rfl) _ _ rfl rfl
          obtain ⟨b27, q27, r27⟩ := h27
          have h28 : ∃ b, x 70 = .slice (some ⟨b, 0, none⟩) 3 3 ∧ ARd z (.slice (some ⟨b, 0, none⟩) 3 3) 1 (([0, 1, 3] : List Int).map iC) := hdep 28 (by kernel_rfl) _ _ rfl rfl
          obtain ⟨b28, q28, r28⟩ := h28
          have h29 : ∃ b, x 71 = .slice (some ⟨b, 0, none⟩) 2 2 ∧ ARd z (.slice (some ⟨b, 0, none⟩) 2 2) 1 (([0, 2] : List Int).map iC) := hdep 29 (by kernel_rfl) _ _ rfl rfl
          obtain ⟨b29, q29, r29⟩ := h29
          have h30 : ∃ b, x 72 = .slice (some ⟨b, 0, none⟩) 2 2 ∧ ARd z (.slice (some ⟨b, 0, none⟩) 2 2) 1 (([0, 3] : List Int).map iC) := hdep 30 (by kernel_rfl) _ _ rfl rfl
          obtain ⟨b30, q30, r30⟩ := h30
          have q24 : x 66 = .bool true := hdep 24 (by kernel_rfl) _ _ rfl rfl
          clear hdep ho
          dsimp only at hK ⊢
          simp only [q26, q27, q28, q29, q30, q24] at hK ⊢
          refine wpOp_step rfl (fun K2 hK2 => ?_)
          go_simp
          exact hK2 _ _ (hK _ _ ((Below.refl _ _).alloc (Nat.le_refl _) _) ⟨_, rfl, _, br_of r26 r27 r28 r29 r30⟩)
        | 32, ho =>
          obtain rfl := Option.some.inj (show some _ = some o from ho)
          have h31 : ∃ b, x 73 = .slice (some ⟨b, 0, none⟩) 5 5 ∧ ∃ g, RoRd z (.slice (some ⟨b, 0, none⟩) 5 5) g brX := hdep 31 (by kernel_rfl) _ _ rfl rfl
          obtain ⟨b31, q31, g31, r31⟩ := h31
          have q24 : x 66 = .bool true := hdep 24 (by kernel_rfl) _ _ rfl rfl
          clear hdep ho
          dsimp only at hK ⊢
          simp only [q31, q24] at hK ⊢
          refine wpOp_step rfl (fun K2 hK2 => ?_)
          go_simp
          exact hK2 _ _ (hK _ _ (Below.refl _ _) ⟨_, rfl, _, r31⟩)
        | 33, ho =>
          obtain rfl := Option.some.inj (show some _ = some o from ho)
          have q25 : x 67 = .agg #[.int .i64 4, .slice a6 5 n6] := hdep 25 (by kernel_rfl) _ _ rfl rfl
          have h32 : ∃ b, x 74 = .agg #[.int .i64 4, .slice (some ⟨b, 0, none⟩) 5 5] ∧ ∃ g, RoRd z (.slice (some ⟨b, 0, none⟩) 5 5) g brX := hdep 32 (by kernel_rfl) _ _ rfl rfl
          obtain ⟨b32, q32, g32, r32⟩ := h32
          have q24 : x 66 = .bool true := hdep 24 (by kernel_rfl) _ _ rfl rfl
          clear hdep ho
          dsimp only at hK ⊢
          simp only [q25, q32, q24] at hK ⊢
          refine wpOp_step rfl (fun K2 hK2 => ?_)
          go_simp
          refine (same_rolls brX (by decide) (by decide) _ _ _ _ z (HG10.out.later hz) r32).mono ?_
          rintro e z1 ⟨rfl, hb⟩
          exact hK2 _ _ (hK _ _ hb rfl)
        | 34, ho =>
          obtain rfl := Option.some.inj (show some _ = some o from ho)
          have q24 : x 66 = .bool true := hdep 24 (by kernel_rfl) _ _ rfl rfl
          have q33 : x 75 = .bool true := hdep 33 (by kernel_rfl) _ _ rfl rfl
          clear hdep ho
          dsimp only at hK ⊢
          simp only [q24, q33] at hK ⊢
          refine wpOp_step rfl (fun K2 hK2 => ?_)
          go_simp
          exact hK2 _ _ (hK _ _ (Below.refl _ _) rfl)
        | 35, ho =>
          obtain rfl := Option.some.inj (show some _ = some o from ho)
          have q34 : x 76 = .bool true := hdep 34 (by kernel_rfl) _ _ rfl rfl
          clear hdep ho
          dsimp only at hK ⊢
          simp only [q34] at hK ⊢
          refine wpOp_step rfl (fun K2 hK2 => ?_)
          go_simp
          exact hK2 _ _ (hK _ _ (Below.refl _ _) rfl)
        | 36, ho =>
          obtain rfl := Option.some.inj (show some _ = some o from ho)
          have q35 : x 77 = .bool true := hdep 35 (by kernel_rfl) _ _ rfl rfl
          clear hdep ho
          dsimp only at hK ⊢
          simp only [q35] at hK ⊢
          refine wpOp_step rfl (fun K2 hK2 => ?_)
          go_simp
          exact hK2 _ _ (hK _ _ (Below.refl _ _) rfl)
        | 37, ho =>
          obtain rfl := Option.some.inj (show some _ = some o from ho)
          have q35 : x 77 = .bool true := hdep 35 (by kernel_rfl) _ _ rfl rfl
          clear hdep ho
          dsimp only at hK ⊢
          simp only [q35] at hK ⊢
          refine wpOp_step rfl (fun K2 hK2 => ?_)
          go_simp
          exact hK2 _ _ (hK _ _ ((Below.refl _ _).alloc (Nat.le_refl _) _) ⟨_, rfl, ARd.of_blk (blk_at rfl) (hk1 [1, 2, 3]) rfl _ _ rfl⟩)
        | 38, ho =>
          obtain rfl := Option.some.inj (show some _ = some o from ho)
          have q36 : x 78 = .slice a9 3 n9 := hdep 36 (by kernel_rfl) _ _ rfl rfl
          have h37 : ∃ b, x 79 = .slice (some ⟨b, 0, none⟩) 3 3 ∧ ARd z (.slice (some ⟨b, 0, none⟩) 3 3) 1 (([1, 2, 3] : List Int).map iC) := hdep 37 (by kernel_rfl) _ _ rfl rfl
          obtain ⟨b37, q37, r37⟩ := h37
          have q35 : x 77 = .bool true := hdep 35 (by kernel_rfl) _ _ rfl rfl
          clear hdep ho
          dsimp only at hK ⊢
          simp only [q36, q37, q35] at hK ⊢
          refine wpOp_step rfl (fun K2 hK2 => ?_)
          go_simp
          refine (same_ints [1, 2, 3] _ _ z (HI10.out.later hz) r37 (by decide)).mono ?_
          rintro e z1 ⟨rfl, n3, rfl⟩
          exact hK2 _ _ (hK _ _ (below_drewN (Below.refl _ _) n3) rfl)
        | 39, ho =>
          obtain rfl := Option.some.inj (show some _ = some o from ho)
          have q35 : x 77 = .bool true := hdep 35 (by kernel_rfl) _ _ rfl rfl
          have q38 : x 80 = .bool true := hdep 38 (by kernel_rfl) _ _ rfl rfl
          clear hdep ho
          dsimp only at hK ⊢
          simp only [q35, q38] at hK ⊢
          refine wpOp_step rfl (fun K2 hK2 => ?_)
          go_simp
          exact hK2 _ _ (hK _ _ (Below.refl _ _) rfl)
        | 40, ho =>
          obtain rfl := Option.some.inj (show some _ = some o from ho)
          have q39 : x 81 = .bool true := hdep 39 (by kernel_rfl) _ _ rfl rfl
          clear hdep ho
          dsimp only at hK ⊢
          simp only [q39] at hK ⊢
          refine wpOp_step rfl (fun K2 hK2 => ?_)
          go_simp
          exact hK2 _ _ (hK _ _ (Below.refl _ _) rfl)
        | n + 41, ho => exact absurd (Array.getElem?_eq_some_iff.1 ho).1 (by simp)
      case done =>
        intro x z hz hres
        have q40 : x 0 = .bool true := hres 40 _ _ rfl rfl
        have HZ := Lib.hid (below_step HW10.out hz)
        clear hres hz
        dsimp only
        simp only [q40]
        go_wp2
        go_ret
        exact ⟨rfl, HZ.out⟩
end Go.Proofs.YtppccacfdpkkgaaGreatDoor
