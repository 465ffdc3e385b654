/-
  CONTRACTS: the reference's Punch.
-/
import Derived.Test.YtppccacfdpkkgaaGreatDoorK37
namespace Go.Proofs.YtppccacfdpkkgaaGreatDoor
open Go.RowKit
set_option maxRecDepth 100000 in
set_option maxHeartbeats 6400000 in
theorem rpunch_good (R : Ro) (rok : RoOk R) (rv : Value) (g : Nat → Value) (k a b : Nat) (on : Bool) (w : World) (hr : RoRd w rv g R)
    (he : rollErr R true = 0) (h1 : 1 ≤ k) (h2 : (k : Int) < R.tracks) (h3 : a ≤ b) (h4 : b ≤ R.rows.length) :
    Calls Tryz.prog 22 #[.agg #[.int .i64 R.tracks, rv], .int .i64 k, .int .i64 a, .int .i64 b, .bool on] w (RoEnds (punchP R k a b on) w) := by
  have hb0 : Below w.heap.size w ((w.alloc (.cells #[.int .i64 R.tracks, rv] 36)).alloc (.cells #[.int .i64 0, .slice none 0 0] 36)) := (((Below.refl w.heap.size w).alloc (Nat.le_refl _) _).alloc (by simp) _)
  have k1 := (Blk.new w 36 #[.int .i64 R.tracks, rv]).alloc (.cells #[.int .i64 0, .slice none 0 0] 36)
  have k2 := Blk.new (w.alloc (.cells #[.int .i64 R.tracks, rv] 36)) 36 #[.int .i64 0, .slice none 0 0]
  rw [World.size_alloc] at k2
  have HR := Lib.hid hr
  have HO := Lib.hid rok
  have HG := Lib.hid (rollGood he)
  have HRE := Lib.hid he
  have HB0 := Lib.hid hb0
  have HX0 := Lib.hid k1
  have HY0 := Lib.hid k2
  have HPG := Lib.hid (punchP_good (on := on) he h1 h2 h3 h4)
  obtain ⟨av, cv, rfl⟩ := hr.form
  have hn2 := (rollGood he).len
  have ht2 := (rollGood he).lo
  have ht3 := (rollGood he).hi
  have hk1 : (1 : Int) ≤ (k : Int) := by omega
  have ha1 : (0 : Int) ≤ (a : Int) := by omega
  have hab : (a : Int) ≤ (b : Int) := by omega
  have hbn : (b : Int) ≤ (R.rows.length : Int) := by omega
  clear hr rok hb0 k1 k2 he
  go_enter Tryz.func22, Tryz.ntmps22
  go_wp2_with fail
  generalize ((w.alloc (.cells #[.int .i64 R.tracks, .slice av R.rows.length cv] 36)).alloc (.cells #[.int .i64 0, .slice none 0 0] 36)) = W0 at *
  refine (rcheck_roll R HO.out _ g _ (HR.out.later HB0.out)).mono ?_
  rintro e W1 ⟨rfl, hb1⟩
  rw [HRE.out]
  have HB1 := Lib.hid (below_step HB0.out hb1)
  have HX1 := Lib.hid (HX0.out.below hb1)
  have HY1 := Lib.hid (HY0.out.below hb1)
  have x0 := HX1.out.cell 0
  have x1 := HX1.out.cell 1
  clear hb1
  go_wp2_with fail
  refine (holes_any R HO.out hn2 _ g (k : Int) W1 (HR.out.later HB1.out)).mono ?_
  rintro e W2 ⟨G, rfl, hE, hG, hb2⟩
  rw [hoPn_start R k a on] at hE
  have HE := Lib.hid hE
  have HW := Lib.hid hb2
  clear hE hb2 x0 x1
  go_wp2
  rename (_ ∧ ¬ _) ∧ ¬ _ => p2
  clear p2
  have hb20 : b ≤ 20000 := by omega
  have H3 := Lib.hid h3
  have H4 := Lib.hid h4
  clear hab hbn ha1 hk1 h3 h4
  go_loopw [14] (fun y wr => ∃ (i : Nat), a ≤ i ∧ i ≤ b ∧ y = .int .i64 i ∧ RowKit.Hid (EnB wr 4 1 bC G R.rows.length (hoPn R k a i on)) ∧ RowKit.Hid (Below W1.heap.size W1 wr)) (fun y _ => b - (intOf y).toNat)
  case atStart => exact ⟨a, Nat.le_refl _, H3.out, rfl, HE, HW⟩
  obtain ⟨i, hai, hib, rfl, hE, hW⟩ := hrel
  by_cases hlt : i < b
  · have hi2 : (i : Int) < (b : Int) := by omega
    have hin : i < R.rows.length := by have := H4.out; omega
    have hin2 : (i : Int) < (R.rows.length : Int) := by omega
    have hil : i < (hoPn R k a i on).length := by rw [hoPn_len]; exact hin
    have hcf := hE.out.cell bC_len hil (j := 0) (u := .bool (hoPn R k a i on)[i]) rfl
    rw [Nat.mul_one, Nat.add_zero] at hcf
    obtain ⟨hc, hf⟩ := hcf
    have HE2 : RowKit.Hid (EnB (wr.setCell ⟨G, i, none⟩ (.bool on)) 4 1 bC G R.rows.length (hoPn R k a (i + 1) on)) := by
      have := hE.out.setk bC_len hil (j := 0) (by omega) (v := .bool on) (y := on) rfl
      rw [Nat.mul_one, Nat.add_zero, hoPn_next hai] at this
      exact Lib.hid this
    have HW2 := Lib.hid (hW.out.setCell (p := ⟨G, i, none⟩) hG (.bool on))
    go_wp2
    go_roundw
    case rel => exact ⟨i + 1, by omega, by omega, by go_num, HE2, HW2⟩
    case measure => simp [intOf]; omega
  · have hi2 : ¬ ((i : Int) < (b : Int)) := by omega
    have HEb : RowKit.Hid (EnB wr 4 1 bC G R.rows.length (hoPn R k a b on)) := by have := hE; rwa [show i = b by omega] at this
    have HBW := Lib.hid (below_step HB1.out hW.out)
    have HXk := Lib.hid (HX1.out.below hW.out)
    have HYk := Lib.hid (HY1.out.below hW.out)
    have x0 := HXk.out.cell 0
    have x1 := HXk.out.cell 1
    have hlow : w.heap.size + 1 < wr.heap.size := HYk.out.lt
    clear hlt hE
    go_wp2_with fail
    refine (with_any R HO.out hn2 (by omega) (by omega) _ g k (by omega) G R.rows.length (hoPn R k a b on) (hoPn_len _ _ _ _ _) wr (HR.out.later HBW.out) HEb.out).mono ?_
    rintro e W7 ⟨rv7, rg, rfl, hrd, hb7, hrk⟩
    obtain ⟨ra, rc, rfl⟩ := hrd.form
    obtain ⟨rn, hrn⟩ : ∃ rn, (wiRo R k (hoPn R k a b on)).rows.length = rn := ⟨_, rfl⟩
    have htt : (wiRo R k (hoPn R k a b on)).tracks = R.tracks := rfl
    have HZ7 := Lib.hid (HYk.out.below hb7)
    have HW7 := Lib.hid (below_step HBW.out hb7)
    have z0 := HZ7.out.cell 0
    have z1 := HZ7.out.cell 1
    have g0 := HZ7.out.frozen 0
    have g1 := HZ7.out.frozen 1
    rw [hrn] at hrd hrk ⊢
    rw [htt]
    have hg8 := (set_grown W7 (w.heap.size + 1) 0 (.int .i64 R.tracks)).trans (set_grown _ (w.heap.size + 1) 1 (.slice ra rn rc))
    have HRK := Lib.hid (hrk _ (sameFrom_grown hlow hg8))
    have HZ8 := Lib.hid ((HZ7.out.set 0 (.int .i64 R.tracks)).set 1 (.slice ra rn rc))
    have HW8 := Lib.hid ((HW7.out.setCell (p := ⟨w.heap.size + 1, 0, none⟩) (by simp only; omega) (.int .i64 R.tracks)).setCell (p := ⟨w.heap.size + 1, 1, none⟩) (by simp only; omega) (.slice ra rn rc))
    clear hb7 hrd hrk hg8 x0 x1 hrn htt
    go_wp2
    have c0 := HZ8.out.cell 0
    have c1 := HZ8.out.cell 1
    refine bodyPost_ret (v := .tuple #[.agg #[.int .i64 R.tracks, .slice ra rn rc], .int .i64 0]) (by simp [results, Tryz.results22, go_sem, c0, c1]) rfl ?_
    rw [HPG.out]
    exact ⟨_, rg, rfl, HRK.out, HW8.out⟩
set_option maxRecDepth 100000 in
set_option maxHeartbeats 3200000 in
theorem rpunch_bad (R : Ro) (rok : RoOk R) (rv : Value) (g : Nat → Value) (track a b : Int) (on : Bool) (w : World) (hr : RoRd w rv g R)
    (hne : rollErr R true ≠ 0 ∨ (track < 1 ∨ R.tracks ≤ track) ∨ (a < 0 ∨ b < a ∨ (R.rows.length : Int) < b)) :
    Calls Tryz.prog 22 #[.agg #[.int .i64 R.tracks, rv], .int .i64 track, .int .i64 a, .int .i64 b, .bool on] w (RoEnds (punchP R track a b on) w) := by
  have hb0 : Below w.heap.size w ((w.alloc (.cells #[.int .i64 R.tracks, rv] 36)).alloc (.cells #[.int .i64 0, .slice none 0 0] 36)) := (((Below.refl w.heap.size w).alloc (Nat.le_refl _) _).alloc (by simp) _)
  have k1 := (Blk.new w 36 #[.int .i64 R.tracks, rv]).alloc (.cells #[.int .i64 0, .slice none 0 0] 36)
  have k2 := Blk.new (w.alloc (.cells #[.int .i64 R.tracks, rv] 36)) 36 #[.int .i64 0, .slice none 0 0]
  rw [World.size_alloc] at k2
  have HR := Lib.hid hr
  have HO := Lib.hid rok
  have HNE := Lib.hid hne
  have HB0 := Lib.hid hb0
  have HX0 := Lib.hid k1
  have HY0 := Lib.hid k2
  obtain ⟨av, cv, rfl⟩ := hr.form
  have hrl := rok.len
  clear hr rok hb0 k1 k2 hne
  go_enter Tryz.func22, Tryz.ntmps22
  go_wp2_with fail
  generalize ((w.alloc (.cells #[.int .i64 R.tracks, .slice av R.rows.length cv] 36)).alloc (.cells #[.int .i64 0, .slice none 0 0] 36)) = W0 at *
  refine (rcheck_roll R HO.out _ g _ (HR.out.later HB0.out)).mono ?_
  rintro e W1 ⟨rfl, hb1⟩
  have HB1 := Lib.hid (below_step HB0.out hb1)
  have HX1 := Lib.hid (HX0.out.below hb1)
  have HY1 := Lib.hid (HY0.out.below hb1)
  have x0 := HX1.out.cell 0
  have x1 := HX1.out.cell 1
  have z0 := HY1.out.cell 0
  have z1 := HY1.out.cell 1
  have g0 := HY1.out.frozen 0
  have g1 := HY1.out.frozen 1
  have HZ := Lib.hid ((HY1.out.set 0 (.int .i64 0)).set 1 (.slice none 0 0))
  have HB5 := Lib.hid ((HB1.out.setCell (p := ⟨w.heap.size + 1, 0, none⟩) (by simp only; omega) (.int .i64 0)).setCell (p := ⟨w.heap.size + 1, 1, none⟩) (by simp only; omega) (.slice none 0 0))
  clear hb1 HB0 HX0 HY0
  by_cases he : rollErr R true = 0
  rotate_left
  · have hne := he
    have HQ := Lib.hid (punchP_roll (track := track) (a := a) (b := b) (on := on) hne)
    obtain ⟨er, her⟩ : ∃ er, rollErr R true = er := ⟨_, rfl⟩
    rw [her] at hne HQ he ⊢
    have he2 : (er == 0) = false := by rw [beq_eq_false_iff_ne]; exact hne
    clear her
    go_wp2
    have c0 := HZ.out.cell 0
    have c1 := HZ.out.cell 1
    exact bodyPost_ret (v := .tuple #[.agg #[.int .i64 0, .slice none 0 0], .int .i64 er]) (by simp [results, Tryz.results22, go_sem, c0, c1]) rfl (roEnds_bad HQ.out HB5.out)
  · have HRE := Lib.hid he
    have hne2 := HNE.out.resolve_left (fun h => h he)
    rw [he]
    clear he
    by_cases htr : track < 1 ∨ R.tracks ≤ track
    · have HQ := Lib.hid (punchP_track (a := a) (b := b) (on := on) HRE.out htr)
      have htr2 : 1 ≤ track → ¬ track < R.tracks := by omega
      clear htr hne2
      go_wp2_with fail
      all_goals first
        | (exfalso; omega)
        | (have c0 := HZ.out.cell 0; have c1 := HZ.out.cell 1; exact bodyPost_ret (v := .tuple #[.agg #[.int .i64 0, .slice none 0 0], .int .i64 2]) (by simp [results, Tryz.results22, go_sem, c0, c1]) rfl (roEnds_bad HQ.out HB5.out))
    · have hsn := hne2.resolve_left htr
      have HQ := Lib.hid (punchP_range (on := on) HRE.out htr hsn)
      have ht1 : 1 ≤ track := by omega
      have ht2 : track < R.tracks := by omega
      have hs2 : 0 ≤ a → a ≤ b → ¬ b ≤ (R.rows.length : Int) := by omega
      clear htr hne2 hsn
      go_wp2_with fail
      all_goals first
        | (exfalso; omega)
        | (have c0 := HZ.out.cell 0; have c1 := HZ.out.cell 1; exact bodyPost_ret (v := .tuple #[.agg #[.int .i64 0, .slice none 0 0], .int .i64 7]) (by simp [results, Tryz.results22, go_sem, c0, c1]) rfl (roEnds_bad HQ.out HB5.out))
theorem rpunch_any (R : Ro) (rok : RoOk R) (rv : Value) (g : Nat → Value) (track a b : Int) (on : Bool) (w : World) (hr : RoRd w rv g R) :
    Calls Tryz.prog 22 #[.agg #[.int .i64 R.tracks, rv], .int .i64 track, .int .i64 a, .int .i64 b, .bool on] w (RoEnds (punchP R track a b on) w) := by
  by_cases h1 : rollErr R true = 0
  · by_cases h2 : track < 1 ∨ R.tracks ≤ track
    · exact rpunch_bad R rok rv g track a b on w hr (.inr (.inl h2))
    · by_cases h3 : a < 0 ∨ b < a ∨ (R.rows.length : Int) < b
      · exact rpunch_bad R rok rv g track a b on w hr (.inr (.inr h3))
      · obtain ⟨k, rfl⟩ := Int.eq_ofNat_of_zero_le (show 0 ≤ track by omega)
        obtain ⟨a, rfl⟩ := Int.eq_ofNat_of_zero_le (show 0 ≤ a by omega)
        obtain ⟨b, rfl⟩ := Int.eq_ofNat_of_zero_le (show 0 ≤ b by omega)
        exact rpunch_good R rok rv g k a b on w hr h1 (by omega) (by omega) (by omega) (by omega)
  · exact rpunch_bad R rok rv g track a b on w hr (.inl h1)
end Go.Proofs.YtppccacfdpkkgaaGreatDoor
