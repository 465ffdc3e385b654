/-
  THE LAW RollsEdit: the walk.
-/
import Derived.Test.YtppccacfdpkkgaaGreatDoorL3
import Derived.Test.YtppccacfdpkkgaaGreatDoorK38
import Derived.Test.YtppccacfdpkkgaaGreatDoorK45
import Derived.Test.YtppccacfdpkkgaaGreatDoorOpenE
namespace Go.Proofs.YtppccacfdpkkgaaGreatDoor
open Go.RowKit
/-- A roll that the reference compares. -/
def ShortE (R : Ro) : Prop := R.rows.length ≤ 1000000 ∧ ∀ l ∈ R.rows, l.length ≤ 1000000
theorem shortE_none : ShortE ⟨0, []⟩ := ⟨Nat.zero_le _, fun l hl => by cases hl⟩
theorem told_shortE (f : Nat → Bool) : ∀ n, (told f n).length ≤ n
  | 0 => Nat.le_refl _
  | n + 1 => by
    have := told_shortE f n
    rw [told, List.length_append]
    split
    · rw [List.length_singleton]; omega
    · rw [List.length_nil]; omega
theorem punchP_short {R : Ro} (ok : RoOk R) (t a b : Int) (on : Bool) : ShortE (punchP R t a b on).1 := by
  unfold punchP
  by_cases h : rollErr R true = 0
  · rw [if_pos h]
    split
    · exact shortE_none
    · split
      · exact shortE_none
      · refine ⟨by have := ok.len; simp [wiRo]; omega, fun l hl => ?_⟩
        obtain ⟨i, _, rfl⟩ := List.mem_map.1 (show l ∈ (List.range R.rows.length).map _ from hl)
        have h1 := told_shortE (withF (R.rows.getD i []) t.toNat ((hoPn R t.toNat a.toNat b.toNat on).getD i false)) R.tracks.toNat
        have h2 := (rollGood h).hi
        unfold wiRow
        omega
  · rw [if_neg h]; exact shortE_none
theorem spliceP_short {R M : Ro} (ok : RoOk R) (ok2 : RoOk M) (k : Int) : ShortE (spliceP R M k).1 := by
  unfold spliceP
  by_cases h : rollErr R true = 0
  · rw [if_pos h]
    by_cases h2 : rollErr M true = 0
    · rw [if_pos h2]
      split
      · exact shortE_none
      · split
        · exact shortE_none
        · split
          · exact shortE_none
          · have l1 := (rollGood h).len
            have l2 := (rollGood h2).len
            refine ⟨by simp; omega, fun l hl => ?_⟩
            have hl2 : l ∈ R.rows ∨ l ∈ M.rows := by
              simp only [List.mem_append] at hl
              rcases hl with hl | hl | hl
              · exact .inl (List.mem_of_mem_take hl)
              · exact .inr hl
              · exact .inl (List.mem_of_mem_drop hl)
            rcases hl2 with hl2 | hl2
            · have := ok.row l1 l hl2; omega
            · have := ok2.row l2 l hl2; omega
    · rw [if_neg h2]; exact shortE_none
  · rw [if_neg h]; exact shortE_none
set_option maxRecDepth 100000 in
set_option maxHeartbeats 12800000 in
theorem rollsEdit_walk (R : Ro) (v : Value) (f : Nat → Value) (hB : RoB R) (hcap : ∀ a k c, v = .slice a k c → k ≤ c) (tk fr en ix : Int) (on : Bool) (M : Ro) (mv : Value) (g : Nat → Value) (hB2 : RoB M) (w : World) (t : Tabs w) (hr : RoRd w v f R) (hm : RoRd w mv g M) :
    Calls Tryz.prog 6 #[.agg #[.int .i64 R.tracks, v], .agg #[.int .i64 tk, .int .i64 fr, .int .i64 en, .int .i64 ix, .bool on, .int .i64 M.tracks, mv]] w fun e w' => e = .returned (.bool true) ∧ Below w.heap.size w w' := by
  have hn := hB.n
  have hn2 := hB2.n
  obtain ⟨av, cv, rfl⟩ := hr.form
  obtain ⟨bv, dv, rfl⟩ := hm.form
  have hb0 : Below w.heap.size w ((w.alloc (.cells #[.int .i64 R.tracks, .slice av R.rows.length cv] 36)).alloc (.cells #[.int .i64 tk, .int .i64 fr, .int .i64 en, .int .i64 ix, .bool on, .int .i64 M.tracks, .slice bv M.rows.length dv] 62)) := ((Below.refl _ _).alloc (Nat.le_refl _) _).alloc (by simp) _
  have k1 := (Blk.new w 36 #[.int .i64 R.tracks, .slice av R.rows.length cv]).alloc (.cells #[.int .i64 tk, .int .i64 fr, .int .i64 en, .int .i64 ix, .bool on, .int .i64 M.tracks, .slice bv M.rows.length dv] 62)
  have k2 := Blk.new (w.alloc (.cells #[.int .i64 R.tracks, .slice av R.rows.length cv] 36)) 62 #[.int .i64 tk, .int .i64 fr, .int .i64 en, .int .i64 ix, .bool on, .int .i64 M.tracks, .slice bv M.rows.length dv]
  rw [World.size_alloc] at k2
  have HR := Lib.hid hr
  have HM := Lib.hid hm
  have HT := Lib.hid t
  have HB0 := Lib.hid hb0
  have HX0 := Lib.hid k1
  have HY0 := Lib.hid k2
  have HL := Lib.hid hB.l
  have HL2 := Lib.hid hB2.l
  have HCAP := Lib.hid hcap
  clear hr hm t hb0 hB hB2 k1 k2 hcap
  go_enter Tryz.func6, Tryz.ntmps6
  go_upto_region 1 with fail
  generalize ((w.alloc (.cells #[.int .i64 R.tracks, .slice av R.rows.length cv] 36)).alloc (.cells #[.int .i64 tk, .int .i64 fr, .int .i64 en, .int .i64 ix, .bool on, .int .i64 M.tracks, .slice bv M.rows.length dv] 62)) = W0 at *
  have x0 := HX0.out.cell 0
  have x1 := HX0.out.cell 1
  go_cut [19] from 13 (fun x19 wx => ∃ bb : Bool, x19 = .bool bb ∧ RowKit.Hid (bb = false → RoOk R ∧ RoOk M) ∧ RowKit.Hid (Below W0.heap.size W0 wx))
  case first =>
    go_wp2_with fail
    refine (far_roll R _ f hn HL.out _ (HR.out.later HB0.out)).mono ?_
    rintro e w1 ⟨b, rfl, hok, hb1⟩
    have HB1 := Lib.hid hb1
    cases b with
    | true =>
      clear hb1 hok
      go_wp2
      go_meet
      exact ⟨true, rfl, Lib.hid (fun h => by cases h), HB1⟩
    | false =>
      have OK := Lib.hid (hok rfl)
      have y5 := (HY0.out.below hb1).cell 5
      have y6 := (HY0.out.below hb1).cell 6
      clear hb1 hok
      go_wp2_with fail
      refine (far_roll M _ g hn2 HL2.out _ (HM.out.later (below_step HB0.out HB1.out))).mono ?_
      rintro e w2 ⟨b, rfl, hok, hb2⟩
      have HB2 := Lib.hid (below_step HB1.out hb2)
      cases b with
      | true =>
        clear hb2 hok
        go_wp2
        go_meet
        exact ⟨true, rfl, Lib.hid (fun h => by cases h), HB2⟩
      | false =>
        have OK2 := Lib.hid (hok rfl)
        clear hb2 hok
        go_wp2
        go_meet
        exact ⟨false, rfl, Lib.hid (fun _ => ⟨OK.out, OK2.out⟩), HB2⟩
  case rest =>
    obtain ⟨bb, rfl, HOK, HBW⟩ := hcut
    rename World => w1
    have HB1 := Lib.hid (below_step HB0.out HBW.out)
    have HX1 := Lib.hid (HX0.out.below HBW.out)
    have HY1 := Lib.hid (HY0.out.below HBW.out)
    clear x0 x1
    cases bb with
    | true =>
      go_wp2_with fail
      refine (shown32_any _ (HT.out.below HB1.out)).mono ?_
      rintro e w9 ⟨rfl, hb9⟩
      have HB9 := Lib.hid (below_step HB1.out hb9)
      clear hb9
      go_wp2
      go_ret
      exact ⟨rfl, HB9.out⟩
    | false =>
      have OK := Lib.hid (HOK.out rfl).1
      have OK2 := Lib.hid (HOK.out rfl).2
      clear HOK HBW HB0 HX0 HY0
      obtain ⟨P, er, hp⟩ : ∃ P er, punchP R tk fr en on = (P, er) := ⟨_, _, rfl⟩
      obtain ⟨Z, er2, hz⟩ : ∃ Z er2, spliceP R M ix = (Z, er2) := ⟨_, _, rfl⟩
      have HP := Lib.hid hp
      have HZ := Lib.hid hz
      obtain ⟨hp1, hp2⟩ : ShortE P := by have := punchP_short OK.out tk fr en on; rw [hp] at this; exact this
      obtain ⟨hq1, hq2⟩ : ShortE Z := by have := spliceP_short OK.out OK2.out ix; rw [hz] at this; exact this
      have HP2 := Lib.hid hp2
      have HQ2 := Lib.hid hq2
      clear hp hz hp2 hq2
      have x0 := HX1.out.cell 0
      have x1 := HX1.out.cell 1
      have y0 := HY1.out.cell 0
      have y1 := HY1.out.cell 1
      have y2 := HY1.out.cell 2
      have y3 := HY1.out.cell 3
      have y4 := HY1.out.cell 4
      have y5 := HY1.out.cell 5
      have y6 := HY1.out.cell 6
      go_wp2_with fail
      refine (punch_any R OK.out _ f tk fr en on w1 (HR.out.later HB1.out)).mono ?_
      rw [HP.out]
      rintro e w2 ⟨v2, g2, rfl, ho2, hb2⟩
      obtain ⟨a2, c2, rfl⟩ := ho2.form
      have hz2 : Below w2.heap.size w2 (w2.alloc (.cells #[.int .i64 P.tracks, .slice a2 P.rows.length c2] 36)) := (Below.refl _ _).alloc (Nat.le_refl _) _
      have hs2 := below_step hb2 hz2
      have HB2 := Lib.hid (below_step HB1.out hs2)
      have HX2 := Lib.hid (HX1.out.below hs2)
      have HY2 := Lib.hid (HY1.out.below hs2)
      have HA2_2 := Lib.hid (ho2.later hz2)
      have HK2_2 := Lib.hid (Blk.new w2 36 #[.int .i64 P.tracks, .slice a2 P.rows.length c2])
      clear ho2 hb2 hz2 hs2 x0 x1 y0 y1 y2 y3 y4 y5 y6 HX1 HY1
      have x0 := HX2.out.cell 0
      have x1 := HX2.out.cell 1
      have y0 := HY2.out.cell 0
      have y1 := HY2.out.cell 1
      have y2 := HY2.out.cell 2
      have y3 := HY2.out.cell 3
      have y4 := HY2.out.cell 4
      have y5 := HY2.out.cell 5
      have y6 := HY2.out.cell 6
      go_wp2_with fail
      obtain ⟨W2, hW2⟩ : ∃ W2, w2.alloc (.cells #[.int .i64 P.tracks, .slice a2 P.rows.length c2] 36) = W2 := ⟨_, rfl⟩
      rw [hW2] at HB2 HX2 HY2 HA2_2 HK2_2 x0 x1 y0 y1 y2 y3 y4 y5 y6 ⊢
      clear hW2
      refine (rpunch_any R OK.out _ f tk fr en on W2 (HR.out.later HB2.out)).mono ?_
      rw [HP.out]
      rintro e w3 ⟨v3, g3, rfl, ho3, hb3⟩
      obtain ⟨a3, c3, rfl⟩ := ho3.form
      have hz3 : Below w3.heap.size w3 (w3.alloc (.cells #[.int .i64 P.tracks, .slice a3 P.rows.length c3] 36)) := (Below.refl _ _).alloc (Nat.le_refl _) _
      have hs3 := below_step hb3 hz3
      have HB3 := Lib.hid (below_step HB2.out hs3)
      have HX3 := Lib.hid (HX2.out.below hs3)
      have HY3 := Lib.hid (HY2.out.below hs3)
      have HA3_2 := Lib.hid (HA2_2.out.later hs3)
      have HK3_2 := Lib.hid (HK2_2.out.below hs3)
      have HA3_3 := Lib.hid (ho3.later hz3)
      have HK3_3 := Lib.hid (Blk.new w3 36 #[.int .i64 P.tracks, .slice a3 P.rows.length c3])
      clear ho3 hb3 hz3 hs3 x0 x1 y0 y1 y2 y3 y4 y5 y6 HX2 HY2 HA2_2 HK2_2
      have x0 := HX3.out.cell 0
      have x1 := HX3.out.cell 1
      have y0 := HY3.out.cell 0
      have y1 := HY3.out.cell 1
      have y2 := HY3.out.cell 2
      have y3 := HY3.out.cell 3
      have y4 := HY3.out.cell 4
      have y5 := HY3.out.cell 5
      have y6 := HY3.out.cell 6
      go_wp2_with fail
      obtain ⟨W3, hW3⟩ : ∃ W3, w3.alloc (.cells #[.int .i64 P.tracks, .slice a3 P.rows.length c3] 36) = W3 := ⟨_, rfl⟩
      rw [hW3] at HB3 HX3 HY3 HA3_3 HK3_3 HA3_2 HK3_2 x0 x1 y0 y1 y2 y3 y4 y5 y6 ⊢
      clear hW3
      refine (splice_any R M OK.out OK2.out _ _ f g ix W3 (HR.out.later HB3.out) (HM.out.later HB3.out)).mono ?_
      rw [HZ.out]
      rintro e w4 ⟨v4, g4, rfl, ho4, hb4⟩
      obtain ⟨a4, c4, rfl⟩ := ho4.form
      have hz4 : Below w4.heap.size w4 (w4.alloc (.cells #[.int .i64 Z.tracks, .slice a4 Z.rows.length c4] 36)) := (Below.refl _ _).alloc (Nat.le_refl _) _
      have hs4 := below_step hb4 hz4
      have HB4 := Lib.hid (below_step HB3.out hs4)
      have HX4 := Lib.hid (HX3.out.below hs4)
      have HY4 := Lib.hid (HY3.out.below hs4)
      have HA4_2 := Lib.hid (HA3_2.out.later hs4)
      have HK4_2 := Lib.hid (HK3_2.out.below hs4)
      have HA4_3 := Lib.hid (HA3_3.out.later hs4)
      have HK4_3 := Lib.hid (HK3_3.out.below hs4)
      have HA4_4 := Lib.hid (ho4.later hz4)
      have HK4_4 := Lib.hid (Blk.new w4 36 #[.int .i64 Z.tracks, .slice a4 Z.rows.length c4])
      clear ho4 hb4 hz4 hs4 x0 x1 y0 y1 y2 y3 y4 y5 y6 HX3 HY3 HA3_2 HK3_2 HA3_3 HK3_3
      have x0 := HX4.out.cell 0
      have x1 := HX4.out.cell 1
      have y0 := HY4.out.cell 0
      have y1 := HY4.out.cell 1
      have y2 := HY4.out.cell 2
      have y3 := HY4.out.cell 3
      have y4 := HY4.out.cell 4
      have y5 := HY4.out.cell 5
      have y6 := HY4.out.cell 6
      go_wp2_with fail
      obtain ⟨W4, hW4⟩ : ∃ W4, w4.alloc (.cells #[.int .i64 Z.tracks, .slice a4 Z.rows.length c4] 36) = W4 := ⟨_, rfl⟩
      rw [hW4] at HB4 HX4 HY4 HA4_4 HK4_4 HA4_2 HA4_3 HK4_2 HK4_3 x0 x1 y0 y1 y2 y3 y4 y5 y6 ⊢
      clear hW4
      refine (rsplice_any R M OK.out OK2.out _ _ f g ix W4 (HR.out.later HB4.out) (HM.out.later HB4.out) HCAP.out).mono ?_
      rw [HZ.out]
      rintro e w5 ⟨v5, g5, rfl, ho5, hb5⟩
      obtain ⟨a5, c5, rfl⟩ := ho5.form
      have hz5 : Below w5.heap.size w5 (w5.alloc (.cells #[.int .i64 Z.tracks, .slice a5 Z.rows.length c5] 36)) := (Below.refl _ _).alloc (Nat.le_refl _) _
      have hs5 := below_step hb5 hz5
      have HB5 := Lib.hid (below_step HB4.out hs5)
      have HX5 := Lib.hid (HX4.out.below hs5)
      have HY5 := Lib.hid (HY4.out.below hs5)
      have HA5_2 := Lib.hid (HA4_2.out.later hs5)
      have HK5_2 := Lib.hid (HK4_2.out.below hs5)
      have HA5_3 := Lib.hid (HA4_3.out.later hs5)
      have HK5_3 := Lib.hid (HK4_3.out.below hs5)
      have HA5_4 := Lib.hid (HA4_4.out.later hs5)
      have HK5_4 := Lib.hid (HK4_4.out.below hs5)
      have HA5_5 := Lib.hid (ho5.later hz5)
      have HK5_5 := Lib.hid (Blk.new w5 36 #[.int .i64 Z.tracks, .slice a5 Z.rows.length c5])
      clear ho5 hb5 hz5 hs5 x0 x1 y0 y1 y2 y3 y4 y5 y6 HX4 HY4 HA4_2 HK4_2 HA4_3 HK4_3 HA4_4 HK4_4
      have p0 := HK5_2.out.cell 0
      have p1 := HK5_2.out.cell 1
      have p2 := HK5_3.out.cell 0
      have p3 := HK5_3.out.cell 1
      go_wp2_with fail
      obtain ⟨W5, hW5⟩ : ∃ W5, w5.alloc (.cells #[.int .i64 Z.tracks, .slice a5 Z.rows.length c5] 36) = W5 := ⟨_, rfl⟩
      rw [hW5] at HB5 HA5_2 HA5_3 HA5_4 HA5_5 HK5_2 HK5_3 HK5_4 HK5_5 ⊢
      clear hW5 p0 p1 p2 p3 HX5 HY5
      refine (same_rolls P hp1 HP2.out _ _ _ _ W5 HA5_2.out HA5_3.out).mono ?_
      rintro e w6 ⟨rfl, hb6⟩
      have HB6 := Lib.hid (below_step HB5.out hb6)
      have HE6 := Lib.hid (HA5_4.out.later hb6)
      have HF6 := Lib.hid (HA5_5.out.later hb6)
      have q0 := (HK5_4.out.below hb6).cell 0
      have q1 := (HK5_4.out.below hb6).cell 1
      have q2 := (HK5_5.out.below hb6).cell 0
      have q3 := (HK5_5.out.below hb6).cell 1
      clear hb6
      go_wp2_with fail
      refine (same_rolls Z hq1 HQ2.out _ _ _ _ w6 HE6.out HF6.out).mono ?_
      rintro e w7 ⟨rfl, hb7⟩
      have HB7 := Lib.hid (below_step HB6.out hb7)
      clear hb7 q0 q1 q2 q3
      go_wp2_with fail
      refine (shown32_any _ (HT.out.below HB7.out)).mono ?_
      rintro e w8 ⟨rfl, hb8⟩
      have HB8 := Lib.hid (below_step HB7.out hb8)
      clear hb8
      go_wp2
      go_ret
      exact ⟨rfl, HB8.out⟩
end Go.Proofs.YtppccacfdpkkgaaGreatDoor
