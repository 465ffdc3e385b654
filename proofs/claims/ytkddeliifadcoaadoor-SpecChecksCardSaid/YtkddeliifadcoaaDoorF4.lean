/-
  THE LAW SpecChecks: the walk.
-/
import Derived.Test.YtkddeliifadcoaaDoorF1
import Derived.Test.YtkddeliifadcoaaDoorF3
namespace Go.Proofs.YtkddeliifadcoaaDoor
open Go.RowKit
theorem pipesOf_len (S : Sp) (stop key : Int) : (pipesOfP S stop key).1.length ≤ 100000 := by
  by_cases hz : (checkP S).2 = 0
  · have g := spGood hz
    have hl := allFrom_len g.r 0
    have := g.rs
    by_cases hs : 0 ≤ stop ∧ stop < S.ss.length
    · obtain ⟨i, rfl⟩ := Int.eq_ofNat_of_zero_le hs.1
      have hi : i < S.ss.length := by omega
      obtain ⟨d1, d2, d3, d4⟩ := g.s _ (List.getElem_mem hi)
      obtain ⟨j, hj⟩ := Int.eq_ofNat_of_zero_le d1
      rw [pipesOf_key hz hi hj (by omega)]
      split
      · have := List.length_filter_le (playsB S.ss[i] key) (allFrom 0 S.rs)
        show (List.filter _ _).length ≤ _
        omega
      · exact Nat.zero_le _
    · rw [pipesOf_stop hz hs]; exact Nat.zero_le _
  · rw [pipesOf_bad hz]; exact Nat.zero_le _
set_option maxRecDepth 100000 in
set_option maxHeartbeats 6400000 in
theorem specChecks_walk (v1 v2 v3 v4 : Value) (S : Sp) (stop key : Int) (w : World) (t : Tabs w) (f : Nat → Value) (hsp : SpRd w v1 v2 v3 v4 f S) :
    Calls Tryd.prog 3 #[.agg #[v1, v2, v3, v4], .int .i64 stop, .int .i64 key] w fun e w' => e = .returned (.bool true) ∧ Below w.heap.size w w' := by
  have hb0 : Below w.heap.size w (w.alloc (.cells #[v1, v2, v3, v4] 27)) := (Below.refl _ w).alloc (Nat.le_refl _) _
  have k0 : Blk (w.alloc (.cells #[v1, v2, v3, v4] 27)) w.heap.size 27 #[v1, v2, v3, v4] := Blk.new w _ _
  have HSP := Lib.hid hsp
  have HT := Lib.hid t
  have HB0 := Lib.hid hb0
  have HK0 := Lib.hid k0
  obtain ⟨fl, er, hck⟩ : ∃ (fl : Int × Int × Int) (er : Int), ckV (checkP S) = .tuple #[.agg #[.int .i64 fl.1, .int .i64 fl.2.1, .int .i64 fl.2.2], .int .i64 er] := ⟨_, _, rfl⟩
  have q1 := eqFt_same fl.1 fl.2.1 fl.2.2
  have HCK := Lib.hid hck
  clear hsp t hck k0
  go_enter Tryd.func3, Tryd.ntmps3
  go_wp2_with fail
  refine (far_any v1 v2 v3 v4 S _ f (HSP.out.later hb0)).mono ?_
  rintro e w1 ⟨b, rfl, hok, hb1⟩
  have HB1 := Lib.hid (below_step HB0.out hb1)
  have HK1 := Lib.hid (HK0.out.below hb1)
  have HOK := Lib.hid hok
  clear hb1 hok hb0
  cases b with
  | true =>
    go_wp2_with fail
    refine (shown_any w1 (HT.out.below HB1.out)).mono ?_
    rintro e w2 ⟨rfl, hb2⟩
    have HB2 := Lib.hid (below_step HB1.out hb2)
    clear hb2
    go_wp2
    go_ret
    exact ⟨rfl, HB2.out⟩
  | false =>
    have OK := Lib.hid (HOK.out rfl)
    clear HOK
    obtain ⟨s0, s1, s2, s3⟩ := HK1.out.four
    go_wp2_with fail
    refine (check_any v1 v2 v3 v4 S OK.out w1 (HT.out.below HB1.out) f (HSP.out.later HB1.out)).mono ?_
    rw [HCK.out]
    rintro e w2 ⟨rfl, hb2⟩
    have HB2 := Lib.hid (below_step HB1.out hb2)
    have hA : Below w2.heap.size w2 (w2.alloc (.cells #[.int .i64 fl.1, .int .i64 fl.2.1, .int .i64 fl.2.2] 31)) := (Below.refl _ _).alloc (Nat.le_refl _) _
    have HK2 := Lib.hid ((HK1.out.below hb2).below hA)
    have HB2' := Lib.hid (below_step HB2.out hA)
    have KA := Lib.hid (Blk.new w2 31 #[.int .i64 fl.1, .int .i64 fl.2.1, .int .i64 fl.2.2])
    clear hb2 hA s0 s1 s2 s3 HK1
    obtain ⟨s0, s1, s2, s3⟩ := HK2.out.four
    go_wp2_with fail
    refine (rcheck_any v1 v2 v3 v4 S OK.out _ f (HSP.out.later HB2'.out)).mono ?_
    rw [HCK.out]
    rintro e w3 ⟨rfl, hb3⟩
    have HB3 := Lib.hid (below_step HB2'.out hb3)
    have hA : Below w3.heap.size w3 (w3.alloc (.cells #[.int .i64 fl.1, .int .i64 fl.2.1, .int .i64 fl.2.2] 31)) := (Below.refl _ _).alloc (Nat.le_refl _) _
    have HK3 := Lib.hid ((HK2.out.below hb3).below hA)
    have KA3 := Lib.hid ((KA.out.below hb3).below hA)
    have HB3' := Lib.hid (below_step HB3.out hA)
    have KB := Lib.hid (Blk.new w3 31 #[.int .i64 fl.1, .int .i64 fl.2.1, .int .i64 fl.2.2])
    clear hb3 hA s0 s1 s2 s3 HK2 KA
    obtain ⟨s0, s1, s2, s3⟩ := HK3.out.four
    go_wp2_with fail
    refine (pipes_any v1 v2 v3 v4 S OK.out _ (HT.out.below HB3'.out) f (HSP.out.later HB3'.out)).mono ?_
    rintro e w4 ⟨rfl, hb4⟩
    have HB4 := Lib.hid (below_step HB3'.out hb4)
    have HK4 := Lib.hid (HK3.out.below hb4)
    have KA4 := Lib.hid (KA3.out.below hb4)
    have KB4 := Lib.hid (KB.out.below hb4)
    clear hb4 s0 s1 s2 s3 HK3 KA3 KB
    obtain ⟨s0, s1, s2, s3⟩ := HK4.out.four
    go_wp2_with fail
    refine (rpipes_any v1 v2 v3 v4 S OK.out _ f (HSP.out.later HB4.out)).mono ?_
    rintro e w5 ⟨rfl, hb5⟩
    have HB5 := Lib.hid (below_step HB4.out hb5)
    have HK5 := Lib.hid (HK4.out.below hb5)
    have KA5 := Lib.hid (KA4.out.below hb5)
    have KB5 := Lib.hid (KB4.out.below hb5)
    clear hb5 s0 s1 s2 s3 HK4 KA4 KB4
    obtain ⟨s0, s1, s2, s3⟩ := HK5.out.four
    go_wp2_with fail
    refine (pipesOf_any v1 v2 v3 v4 S OK.out stop key _ (HT.out.below HB5.out) f (HSP.out.later HB5.out)).mono ?_
    rintro e w6 ⟨u, rfl, hr6, hb6⟩
    have HB6 := Lib.hid (below_step HB5.out hb6)
    have HK6 := Lib.hid (HK5.out.below hb6)
    have KA6 := Lib.hid (KA5.out.below hb6)
    have KB6 := Lib.hid (KB5.out.below hb6)
    have HR6 := Lib.hid (ARd.of_pps hr6)
    clear hb6 s0 s1 s2 s3 HK5 KA5 KB5 hr6
    obtain ⟨s0, s1, s2, s3⟩ := HK6.out.four
    go_wp2_with fail
    refine (rpipesOf_any v1 v2 v3 v4 S OK.out stop key _ f (HSP.out.later HB6.out)).mono ?_
    rintro e w7 ⟨u', rfl, hr7, hb7⟩
    have HB7 := Lib.hid (below_step HB6.out hb7)
    have HR7 := Lib.hid (HR6.out.later hb7)
    obtain ⟨a0, a1, a2, _, _, _⟩ := (KA6.out.below hb7).three
    obtain ⟨b0, b1, b2, _, _, _⟩ := (KB6.out.below hb7).three
    have hlen : (pipesOfP S stop key).1.length ≤ 100000 := pipesOf_len S stop key
    have SP := Lib.hid (same_pipes _ u u' w7 HR7.out (ARd.of_pps hr7) hlen)
    clear hb7 s0 s1 s2 s3 HK6 KA6 KB6 hr7 hlen HR6
    obtain ⟨pn, pe, hpp⟩ : ∃ pn pe : Int, pipesP S = (pn, pe) := ⟨_, _, rfl⟩
    have e1 : ((pipesP S).1 == (pipesP S).1) = true := by simp
    go_wp2_with fail
    refine (SP.out).mono ?_
    rintro e w8 ⟨rfl, hb8⟩
    have HB8 := Lib.hid (below_step HB7.out hb8)
    clear hb8
    go_wp2_with fail
    refine (shown_any w8 (HT.out.below HB8.out)).mono ?_
    rintro e w9 ⟨rfl, hb9⟩
    have HB9 := Lib.hid (below_step HB8.out hb9)
    clear hb9
    go_wp2
    go_ret
    exact ⟨rfl, HB9.out⟩
end Go.Proofs.YtkddeliifadcoaaDoor
