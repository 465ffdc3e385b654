/-
  THE LAW RollsScan: the walk.
-/
import Derived.Test.YtppccacfdpkkgaaDoorL3
import Derived.Test.YtppccacfdpkkgaaDoorK31
import Derived.Test.YtppccacfdpkkgaaDoorOpenR
namespace Go.Proofs.YtppccacfdpkkgaaDoor
open Go.RowKit
def Short (P : Ro) : Prop := P.rows.length ≤ 1000000 ∧ ∀ l ∈ P.rows, l.length ≤ 1000000
theorem short_nil : Short ⟨0, []⟩ := ⟨Nat.zero_le _, fun l hl => by cases hl⟩
theorem scanP_short {R : Ro} (ok : RoOk R) (sh : List Int) (sk : Int) : Short (scanP R sh sk).1 := by
  by_cases h : rollErr R true = 0
  · by_cases h2 : sk < 0 ∨ 10 < sk
    · rw [scanP_skew h h2]; exact short_nil
    · by_cases h3 : sh.length = R.rows.length
      · by_cases h4 : (∃ n ∈ sh, n < -sk ∨ sk < n) ∨ 128 < R.tracks + 2 * sk
        · rw [scanP_range h h2 h3 h4]; exact short_nil
        · rw [scanP_good h h2 h3 h4]
          have hl := (rollGood h).len
          refine ⟨by simp only [scRo, List.length_map, List.length_range]; omega, fun l hm => ?_⟩
          obtain ⟨i, hi, rfl⟩ := List.mem_map.1 (show l ∈ (List.range R.rows.length).map fun i => (R.rows.getD i []).map (· + (sk + sh.getD i 0)) from hm)
          rw [List.mem_range] at hi
          rw [List.length_map, getD_at hi]
          exact Nat.le_trans (ok.row hl _ (List.getElem_mem hi)) (by omega)
      · rw [scanP_len h h2 h3]; exact short_nil
  · rw [scanP_roll h]; exact short_nil
theorem strP_short (R : Ro) (sk : Int) : Short (strP R sk).1 := by
  by_cases h : sk < 0 ∨ 10 < sk ∨ R.tracks < 2 + 2 * sk ∨ 128 < R.tracks
  · rw [strP_range h]; exact short_nil
  · by_cases h2 : rollErr R false = 0
    · rw [strP_good h h2]
      have hl := (rollGood h2).len
      refine ⟨by simp only [strRo, List.length_map, List.length_range]; omega, fun l hm => ?_⟩
      obtain ⟨i, _, rfl⟩ := List.mem_map.1 (show l ∈ (List.range R.rows.length).map (strRow R sk) from hm)
      unfold strRow
      exact Nat.le_trans (told_len _ _) (by omega)
    · rw [strP_roll h h2]; exact short_nil
set_option maxRecDepth 100000 in
set_option maxHeartbeats 12800000 in
theorem rollsScan_walk (R : Ro) (v : Value) (f : Nat → Value) (hB : RoB R) (sh : List Int) (sv : Value) (_hSL : sh.length ≤ maxLen) (_hSI : ∀ k ∈ sh, i64 k) (sk : Int) (w : World) (t : Tabs w) (hd : Deb w) (hr : RoRd w v f R) (hsv : ARd w sv 1 (sh.map iC)) :
    Calls Tryd.prog 7 #[.agg #[.int .i64 R.tracks, v], sv, .int .i64 sk] w fun e w' => e = .returned (.bool true) ∧ Below w.heap.size w w' := by
  have hn := hB.n
  obtain ⟨av, cv, rfl⟩ := hr.form
  obtain ⟨sa, sc, rfl⟩ := hsv.intForm
  have hb0 : Below w.heap.size w (w.alloc (.cells #[.int .i64 R.tracks, .slice av R.rows.length cv] 24)) := (Below.refl _ _).alloc (Nat.le_refl _) _
  have HR := Lib.hid hr
  have HT := Lib.hid t
  have HD := Lib.hid hd
  have HSV := Lib.hid hsv
  have HB0 := Lib.hid hb0
  have HK0 := Lib.hid (Blk.new w 24 #[.int .i64 R.tracks, .slice av R.rows.length cv])
  have HL := Lib.hid hB.l
  clear hr t hb0 hB hd hsv
  go_enter Tryd.func7, Tryd.ntmps7
  go_upto_region 1 with fail
  go_cut [26] from 15 (fun x26 wx => ∃ bb : Bool, x26 = .bool bb ∧ RowKit.Hid (bb = false → RoOk R) ∧ RowKit.Hid (Below w.heap.size w wx) ∧ RowKit.Hid (Blk wx w.heap.size 24 #[.int .i64 R.tracks, .slice av R.rows.length cv]))
  case first =>
    go_wp2_with fail
    refine (far_roll R _ f hn HL.out _ (HR.out.later HB0.out)).mono ?_
    rintro e w1 ⟨b, rfl, hok, hb1⟩
    have HB1 := Lib.hid (below_step HB0.out hb1)
    have HK1 := Lib.hid (HK0.out.below hb1)
    cases b with
    | true =>
      clear hb1 hok
      go_wp2
      go_meet
      exact ⟨true, rfl, Lib.hid (fun h => by cases h), HB1, HK1⟩
    | false =>
      have OK := Lib.hid (hok rfl)
      clear hb1 hok
      by_cases h4 : (400 : Int) < (sh.length : Int)
      · by_cases h5 : (sh.length : Int) ≤ 20000
        · go_wp2
          go_meet
          exact ⟨true, rfl, Lib.hid (fun h => by cases h), HB1, HK1⟩
        · have h6 : (20000 : Int) < (sh.length : Int) := by omega
          go_wp2
          go_meet
          exact ⟨false, by first | rfl | exact congrArg Value.bool (decide_eq_false (by omega)), Lib.hid (fun _ => OK.out), HB1, HK1⟩
      · go_wp2
        go_meet
        exact ⟨false, rfl, Lib.hid (fun _ => OK.out), HB1, HK1⟩
  case rest =>
    obtain ⟨bb, rfl, HOK, HB1, HK1⟩ := hcut
    rename World => w1
    cases bb with
    | true =>
      go_wp2_with fail
      refine (shown32_any _ (HT.out.below HB1.out)).mono ?_
      rintro e w9 ⟨rfl, hb9⟩
      have HB9 := Lib.hid (below_step HB1.out hb9)
      clear hb9
      go_wp2
      go_ret
      exact ⟨rfl, HB9.out⟩
    | false =>
      have OK := Lib.hid (HOK.out rfl)
      clear HOK
      obtain ⟨P, er, hp⟩ : ∃ P er, scanP R sh sk = (P, er) := ⟨_, _, rfl⟩
      obtain ⟨Z, er2, hz⟩ : ∃ Z er2, strP R sk = (Z, er2) := ⟨_, _, rfl⟩
      have HP := Lib.hid hp
      have HZ := Lib.hid hz
      obtain ⟨hp1, hp2⟩ : Short P := by have := scanP_short OK.out sh sk; rw [hp] at this; exact this
      obtain ⟨hq1, hq2⟩ : Short Z := by have := strP_short R sk; rw [hz] at this; exact this
      have HP2 := Lib.hid hp2
      have HQ2 := Lib.hid hq2
      have x0 := HK1.out.cell 0
      have x1 := HK1.out.cell 1
      clear hp hz hp2 hq2
      go_wp2_with fail
      refine (scan_any R OK.out _ f sh _ sk w1 (HR.out.later HB1.out) (HSV.out.later HB1.out)).mono ?_
      rw [HP.out]
      rintro e w2 ⟨v2, g2, rfl, ho2, hb2⟩
      obtain ⟨a2, c2, rfl⟩ := ho2.form
      have hz2 : Below w2.heap.size w2 (w2.alloc (.cells #[.int .i64 P.tracks, .slice a2 P.rows.length c2] 24)) := (Below.refl _ _).alloc (Nat.le_refl _) _
      have HB2 := Lib.hid (below_step (below_step HB1.out hb2) hz2)
      have HK2 := Lib.hid ((HK1.out.below hb2).below hz2)
      have HA2 := Lib.hid (ho2.later hz2)
      have HPA := Lib.hid (Blk.new w2 24 #[.int .i64 P.tracks, .slice a2 P.rows.length c2])
      have y0 := HK2.out.cell 0
      have y1 := HK2.out.cell 1
      clear ho2 hb2 hz2 x0 x1
      go_wp2_with fail
      obtain ⟨W2, hW2⟩ : ∃ W2, w2.alloc (.cells #[.int .i64 P.tracks, .slice a2 P.rows.length c2] 24) = W2 := ⟨_, rfl⟩
      rw [hW2] at HB2 HK2 HA2 HPA y0 y1 ⊢
      clear hW2
      refine (rscan_any R OK.out _ f sh _ sk W2 (HR.out.later HB2.out) (HSV.out.later HB2.out)).mono ?_
      rw [HP.out]
      rintro e w3 ⟨v3, g3, rfl, ho3, hb3⟩
      obtain ⟨a3, c3, rfl⟩ := ho3.form
      have hz3 : Below w3.heap.size w3 (w3.alloc (.cells #[.int .i64 P.tracks, .slice a3 P.rows.length c3] 24)) := (Below.refl _ _).alloc (Nat.le_refl _) _
      have hs3 := below_step hb3 hz3
      have HB3 := Lib.hid (below_step HB2.out hs3)
      have HK3 := Lib.hid (HK2.out.below hs3)
      have HA3 := Lib.hid (HA2.out.later hs3)
      have HPA3 := Lib.hid (HPA.out.below hs3)
      have HC3 := Lib.hid (ho3.later hz3)
      have HPC := Lib.hid (Blk.new w3 24 #[.int .i64 P.tracks, .slice a3 P.rows.length c3])
      have x0 := HK3.out.cell 0
      have x1 := HK3.out.cell 1
      clear ho3 hb3 hz3 hs3 y0 y1 HK2 HA2 HPA
      go_wp2_with fail
      obtain ⟨W3, hW3⟩ : ∃ W3, w3.alloc (.cells #[.int .i64 P.tracks, .slice a3 P.rows.length c3] 24) = W3 := ⟨_, rfl⟩
      rw [hW3] at HB3 HK3 HA3 HPA3 HC3 HPC x0 x1 ⊢
      clear hW3
      refine (str_any R OK.out _ f sk W3 (HD.out.below HB3.out) (HR.out.later HB3.out)).mono ?_
      rw [HZ.out]
      rintro e w4 ⟨v4, g4, rfl, ho4, hb4⟩
      obtain ⟨a4, c4, rfl⟩ := ho4.form
      have hz4 : Below w4.heap.size w4 (w4.alloc (.cells #[.int .i64 Z.tracks, .slice a4 Z.rows.length c4] 24)) := (Below.refl _ _).alloc (Nat.le_refl _) _
      have hs4 := below_step hb4 hz4
      have HB4 := Lib.hid (below_step HB3.out hs4)
      have HK4 := Lib.hid (HK3.out.below hs4)
      have HA4 := Lib.hid (HA3.out.later hs4)
      have HPA4 := Lib.hid (HPA3.out.below hs4)
      have HC4 := Lib.hid (HC3.out.later hs4)
      have HPC4 := Lib.hid (HPC.out.below hs4)
      have HE4 := Lib.hid (ho4.later hz4)
      have HPE := Lib.hid (Blk.new w4 24 #[.int .i64 Z.tracks, .slice a4 Z.rows.length c4])
      have y0 := HK4.out.cell 0
      have y1 := HK4.out.cell 1
      clear ho4 hb4 hz4 hs4 x0 x1 HK3 HA3 HPA3 HC3 HPC
      go_wp2_with fail
      obtain ⟨W4, hW4⟩ : ∃ W4, w4.alloc (.cells #[.int .i64 Z.tracks, .slice a4 Z.rows.length c4] 24) = W4 := ⟨_, rfl⟩
      rw [hW4] at HB4 HK4 HA4 HPA4 HC4 HPC4 HE4 HPE y0 y1 ⊢
      clear hW4
      refine (rstr_any R OK.out _ f sk W4 (HR.out.later HB4.out)).mono ?_
      rw [HZ.out]
      rintro e w5 ⟨v5, g5, rfl, ho5, hb5⟩
      obtain ⟨a5, c5, rfl⟩ := ho5.form
      have hz5 : Below w5.heap.size w5 (w5.alloc (.cells #[.int .i64 Z.tracks, .slice a5 Z.rows.length c5] 24)) := (Below.refl _ _).alloc (Nat.le_refl _) _
      have hs5 := below_step hb5 hz5
      have HB5 := Lib.hid (below_step HB4.out hs5)
      have HA5 := Lib.hid (HA4.out.later hs5)
      have HPA5 := Lib.hid (HPA4.out.below hs5)
      have HC5 := Lib.hid (HC4.out.later hs5)
      have HPC5 := Lib.hid (HPC4.out.below hs5)
      have HE5 := Lib.hid (HE4.out.later hs5)
      have HPE5 := Lib.hid (HPE.out.below hs5)
      have HF5 := Lib.hid (ho5.later hz5)
      have HPF := Lib.hid (Blk.new w5 24 #[.int .i64 Z.tracks, .slice a5 Z.rows.length c5])
      clear ho5 hb5 hz5 hs5 y0 y1 HK4 HA4 HPA4 HC4 HPC4 HE4 HPE
      have p0 := HPA5.out.cell 0
      have p1 := HPA5.out.cell 1
      have p2 := HPC5.out.cell 0
      have p3 := HPC5.out.cell 1
      go_wp2_with fail
      obtain ⟨W5, hW5⟩ : ∃ W5, w5.alloc (.cells #[.int .i64 Z.tracks, .slice a5 Z.rows.length c5] 24) = W5 := ⟨_, rfl⟩
      rw [hW5] at HB5 HA5 HPA5 HC5 HPC5 HE5 HPE5 HF5 HPF ⊢
      clear hW5 p0 p1 p2 p3
      refine (same_rolls P hp1 HP2.out _ _ _ _ W5 HA5.out HC5.out).mono ?_
      rintro e w6 ⟨rfl, hb6⟩
      have HB6 := Lib.hid (below_step HB5.out hb6)
      have HE6 := Lib.hid (HE5.out.later hb6)
      have HF6 := Lib.hid (HF5.out.later hb6)
      have q0 := (HPE5.out.below hb6).cell 0
      have q1 := (HPE5.out.below hb6).cell 1
      have q2 := (HPF.out.below hb6).cell 0
      have q3 := (HPF.out.below hb6).cell 1
      clear hb6
      go_wp2_with fail
      refine (same_rolls Z hq1 HQ2.out _ _ _ _ w6 HE6.out HF6.out).mono ?_
      rintro e w7 ⟨rfl, hb7⟩
      have HB7 := Lib.hid (below_step HB6.out hb7)
      clear hb7 q0 q1 q2 q3
      go_wp2_with fail
      refine (shown32_any _ (HT.out.below HB7.out)).mono ?_
      rintro e w8 ⟨rfl, hb8⟩
      have HB8 := Lib.hid (below_step HB7.out hb8)
      clear hb8
      go_wp2
      go_ret
      exact ⟨rfl, HB8.out⟩
end Go.Proofs.YtppccacfdpkkgaaDoor
