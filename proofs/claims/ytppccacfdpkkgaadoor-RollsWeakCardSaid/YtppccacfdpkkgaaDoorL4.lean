/-
  THE LAW RollsWeak: the walk.
-/
import Derived.Test.YtppccacfdpkkgaaDoorL3
import Derived.Test.YtppccacfdpkkgaaDoorK6
import Derived.Test.YtppccacfdpkkgaaDoorOpenR
namespace Go.Proofs.YtppccacfdpkkgaaDoor
open Go.RowKit
theorem weakP_len {R : Ro} (ok : RoOk R) (most : Int) : (weakP R most).1.length ≤ 1000000 := by
  by_cases h : rollErr R true = 0
  · by_cases hm : most < 1 ∨ 128 < most
    · rw [weakP_range h hm]; exact Nat.zero_le _
    · rw [weakP_good h hm]
      have h1 := weakL_len R.rows R.tracks.toNat most R.rows.length
      have h2 := ok.len
      simp only
      omega
  · rw [weakP_bad h]; exact Nat.zero_le _
set_option maxRecDepth 100000 in
set_option maxHeartbeats 12800000 in
theorem rollsWeak_walk (R : Ro) (v : Value) (f : Nat → Value) (hB : RoB R) (most : Int) (w : World) (t : Tabs w) (hr : RoRd w v f R) :
    Calls Tryd.prog 4 #[.agg #[.int .i64 R.tracks, v], .int .i64 most] w fun e w' => e = .returned (.bool true) ∧ Below w.heap.size w w' := by
  have hn := hB.n
  have hll := hB.l
  obtain ⟨av, cv, rfl⟩ := hr.form
  have hb0 : Below w.heap.size w (w.alloc (.cells #[.int .i64 R.tracks, .slice av R.rows.length cv] 24)) := (Below.refl _ _).alloc (Nat.le_refl _) _
  have HR := Lib.hid hr
  have HT := Lib.hid t
  have HB0 := Lib.hid hb0
  have HK0 := Lib.hid (Blk.new w 24 #[.int .i64 R.tracks, .slice av R.rows.length cv])
  have HL := Lib.hid hll
  clear hr t hb0 hll
  go_enter Tryd.func4, Tryd.ntmps4
  go_wp2_with fail
  refine (far_roll R _ f hn HL.out _ (HR.out.later HB0.out)).mono ?_
  rintro e w1 ⟨b, rfl, hok, hb1⟩
  have HB1 := Lib.hid (below_step HB0.out hb1)
  have HK1 := Lib.hid (HK0.out.below hb1)
  have HOK := Lib.hid hok
  clear hb1 hok
  cases b with
  | true =>
    go_wp2_with fail
    refine (shown32_any w1 (HT.out.below HB1.out)).mono ?_
    rintro e w2 ⟨rfl, hb2⟩
    have HB2 := Lib.hid (below_step HB1.out hb2)
    clear hb2
    go_wp2
    go_ret
    exact ⟨rfl, HB2.out⟩
  | false =>
    have OK := Lib.hid (HOK.out rfl)
    clear HOK
    obtain ⟨l, er, hwk⟩ : ∃ l er, weakP R most = (l, er) := ⟨_, _, rfl⟩
    have HWK := Lib.hid hwk
    have x0 := HK1.out.cell 0
    have x1 := HK1.out.cell 1
    clear hwk
    go_wp2_with fail
    refine (weak_any R OK.out _ f most w1 (HR.out.later HB1.out)).mono ?_
    rw [HWK.out]
    rintro e w2 ⟨v2, rfl, ho2, hb2⟩
    obtain ⟨a2, c2, rfl⟩ := own_form ho2
    have HB2 := Lib.hid (below_step HB1.out hb2)
    have HK2 := Lib.hid (HK1.out.below hb2)
    have HI2 := Lib.hid (ARd.of_ints ho2)
    clear ho2 hb2 x0 x1
    have x0 := HK2.out.cell 0
    have x1 := HK2.out.cell 1
    go_wp2_with fail
    refine (rweak_any R OK.out _ f most w2 (HR.out.later HB2.out)).mono ?_
    rw [HWK.out]
    rintro e w3 ⟨v3, rfl, ho3, hb3⟩
    obtain ⟨a3, c3, rfl⟩ := own_form ho3
    have HB3 := Lib.hid (below_step HB2.out hb3)
    have HK3 := Lib.hid (HK2.out.below hb3)
    have HI3 := Lib.hid (HI2.out.later hb3)
    have HJ3 := Lib.hid (ARd.of_ints ho3)
    have HLL := Lib.hid (show l.length ≤ 1000000 by have := weakP_len OK.out most; rw [HWK.out] at this; exact this)
    clear ho3 hb3 x0 x1
    go_upto_region 5 with fail
    have hmxx : Tryd.prog.follows .mixedOrders = true := by kernel_rfl
    refine wp_plain (wp_region_flow (fun x => { tmps := #[.agg #[.int .i64 R.tracks, .slice av R.rows.length cv], .int .i64 most, .pointer (some ⟨w.heap.size, 0, none⟩), undef, (x 4), .slice a2 l.length c2, .int .i64 er, .slice a3 l.length c3, .int .i64 er, .agg #[.int .i64 R.tracks, .slice av R.rows.length cv], .bool false, undef, .tuple #[.slice a2 l.length c2, .int .i64 er], .agg #[.int .i64 R.tracks, .slice av R.rows.length cv], .int .i64 most, .tuple #[.slice a2 l.length c2, .int .i64 er], .slice a2 l.length c2, .int .i64 er, .tuple #[.slice a3 l.length c3, .int .i64 er], .agg #[.int .i64 R.tracks, .slice av R.rows.length cv], .int .i64 most, .tuple #[.slice a3 l.length c3, .int .i64 er], .slice a3 l.length c3, .int .i64 er, (x 24), (x 25), (x 26), (x 27), (x 28), (x 29), (x 30), (x 31), (x 32), (x 33), (x 34), (x 35), (x 36), (x 37), (x 38), (x 39), (x 40), (x 41)], defers := [] }) (fun i v z => match i with
      | 0 => v = .agg #[.int .i64 R.tracks, .slice av R.rows.length cv]
      | 1 => v = .int .i64 (rollErr R true)
      | 2 => v = .agg #[.int .i64 R.tracks, .slice av R.rows.length cv]
      | 3 => v = .int .i64 (rollErr R true)
      | 4 => v = .bool true
      | 5 => v = .bool true
      | 6 => v = .slice a2 l.length c2
      | 7 => v = .slice a3 l.length c3
      | 8 => v = .bool true
      | 9 => v = .bool true
      | 10 => v = .bool true
      | 11 => v = .int .i64 er
      | 12 => v = .int .i64 er
      | 13 => v = .bool true
      | 14 => v = .bool true
      | 15 => v = .bool true
      | 16 => v = .bool true
      | 17 => v = .bool true
      | 18 => v = .bool true
      | _ => True) (fun n => (#[.agg #[.int .i64 R.tracks, .slice av R.rows.length cv], .int .i64 most, .pointer (some ⟨w.heap.size, 0, none⟩), undef, .bool false, .slice a2 l.length c2, .int .i64 er, .slice a3 l.length c3, .int .i64 er, .agg #[.int .i64 R.tracks, .slice av R.rows.length cv], .bool false, undef, .tuple #[.slice a2 l.length c2, .int .i64 er], .agg #[.int .i64 R.tracks, .slice av R.rows.length cv], .int .i64 most, .tuple #[.slice a2 l.length c2, .int .i64 er], .slice a2 l.length c2, .int .i64 er, .tuple #[.slice a3 l.length c3, .int .i64 er], .agg #[.int .i64 R.tracks, .slice av R.rows.length cv], .int .i64 most, .tuple #[.slice a3 l.length c3, .int .i64 er], .slice a3 l.length c3, .int .i64 er, undef, undef, undef, undef, undef, undef, undef, undef, undef, undef, undef, undef, undef, undef, undef, undef, undef, undef] : Array Value).getD n undef) rfl hmxx (by kernel_rfl) (by kernel_rfl) ?mono ?put ?step ?done)
    case mono =>
      intro i v z z' h hb
      match i, h with
      | 0, h => exact h
      | 1, h => exact h
      | 2, h => exact h
      | 3, h => exact h
      | 4, h => exact h
      | 5, h => exact h
      | 6, h => exact h
      | 7, h => exact h
      | 8, h => exact h
      | 9, h => exact h
      | 10, h => exact h
      | 11, h => exact h
      | 12, h => exact h
      | 13, h => exact h
      | 14, h => exact h
      | 15, h => exact h
      | 16, h => exact h
      | 17, h => exact h
      | 18, h => exact h
      | _ + 19, _ => trivial
    case put =>
      intro i o d ho hd x v
      match i, ho with
      | 0, ho => obtain rfl := Option.some.inj (show some _ = some o from ho); obtain rfl := Option.some.inj (show some _ = some d from hd); rfl
      | 1, ho => obtain rfl := Option.some.inj (show some _ = some o from ho); obtain rfl := Option.some.inj (show some _ = some d from hd); rfl
      | 2, ho => obtain rfl := Option.some.inj (show some _ = some o from ho); obtain rfl := Option.some.inj (show some _ = some d from hd); rfl
      | 3, ho => obtain rfl := Option.some.inj (show some _ = some o from ho); obtain rfl := Option.some.inj (show some _ = some d from hd); rfl
      | 4, ho => obtain rfl := Option.some.inj (show some _ = some o from ho); obtain rfl := Option.some.inj (show some _ = some d from hd); rfl
      | 5, ho => obtain rfl := Option.some.inj (show some _ = some o from ho); obtain rfl := Option.some.inj (show some _ = some d from hd); rfl
      | 6, ho => obtain rfl := Option.some.inj (show some _ = some o from ho); obtain rfl := Option.some.inj (show some _ = some d from hd); rfl
      | 7, ho => obtain rfl := Option.some.inj (show some _ = some o from ho); obtain rfl := Option.some.inj (show some _ = some d from hd); rfl
      | 8, ho => obtain rfl := Option.some.inj (show some _ = some o from ho); obtain rfl := Option.some.inj (show some _ = some d from hd); rfl
      | 9, ho => obtain rfl := Option.some.inj (show some _ = some o from ho); obtain rfl := Option.some.inj (show some _ = some d from hd); rfl
      | 10, ho => obtain rfl := Option.some.inj (show some _ = some o from ho); obtain rfl := Option.some.inj (show some _ = some d from hd); rfl
      | 11, ho => obtain rfl := Option.some.inj (show some _ = some o from ho); obtain rfl := Option.some.inj (show some _ = some d from hd); rfl
      | 12, ho => obtain rfl := Option.some.inj (show some _ = some o from ho); obtain rfl := Option.some.inj (show some _ = some d from hd); rfl
      | 13, ho => obtain rfl := Option.some.inj (show some _ = some o from ho); obtain rfl := Option.some.inj (show some _ = some d from hd); rfl
      | 14, ho => obtain rfl := Option.some.inj (show some _ = some o from ho); obtain rfl := Option.some.inj (show some _ = some d from hd); rfl
      | 15, ho => obtain rfl := Option.some.inj (show some _ = some o from ho); obtain rfl := Option.some.inj (show some _ = some d from hd); rfl
      | 16, ho => obtain rfl := Option.some.inj (show some _ = some o from ho); obtain rfl := Option.some.inj (show some _ = some d from hd); rfl
      | 17, ho => obtain rfl := Option.some.inj (show some _ = some o from ho); obtain rfl := Option.some.inj (show some _ = some d from hd); rfl
      | 18, ho => obtain rfl := Option.some.inj (show some _ = some o from ho); obtain rfl := Option.some.inj (show some _ = some d from hd); rfl
      | n + 19, ho => exact absurd (Array.getElem?_eq_some_iff.1 ho).1 (by simp)
    case step =>
      intro i o ho x z hz hdep K hK
      match i, ho with
      | 0, ho =>
        obtain rfl := Option.some.inj (show some _ = some o from ho)
        clear hdep ho
        dsimp only at hK ⊢
        have y0 : z.cell? ⟨w.heap.size, 0, none⟩ = some (.int .i64 R.tracks) := (HK3.out.below hz).cell 0
        have y1 : z.cell? ⟨w.heap.size, 1, none⟩ = some (.slice av R.rows.length cv) := (HK3.out.below hz).cell 1
        refine wpOp_step rfl (fun K2 hK2 => ?_)
        go_simp
        exact hK2 _ _ (hK _ _ (Below.refl _ _) rfl)
      | 1, ho =>
        obtain rfl := Option.some.inj (show some _ = some o from ho)
        have q0 : x 24 = .agg #[.int .i64 R.tracks, .slice av R.rows.length cv] := hdep 0 (by kernel_rfl) _ _ rfl rfl
        clear hdep ho
        dsimp only at hK ⊢
        simp only [q0] at hK ⊢
        refine wpOp_step rfl (fun K2 hK2 => ?_)
        go_simp
        refine (check_roll R OK.out _ f z (HR.out.later (below_step HB3.out hz))).mono ?_
        rintro e z1 ⟨rfl, hb⟩
        exact hK2 _ _ (hK _ _ hb rfl)
      | 2, ho =>
        obtain rfl := Option.some.inj (show some _ = some o from ho)
        clear hdep ho
        dsimp only at hK ⊢
        have y0 : z.cell? ⟨w.heap.size, 0, none⟩ = some (.int .i64 R.tracks) := (HK3.out.below hz).cell 0
        have y1 : z.cell? ⟨w.heap.size, 1, none⟩ = some (.slice av R.rows.length cv) := (HK3.out.below hz).cell 1
        refine wpOp_step rfl (fun K2 hK2 => ?_)
        go_simp
        exact hK2 _ _ (hK _ _ (Below.refl _ _) rfl)
      | 3, ho =>
        obtain rfl := Option.some.inj (show some _ = some o from ho)
        have q2 : x 26 = .agg #[.int .i64 R.tracks, .slice av R.rows.length cv] := hdep 2 (by kernel_rfl) _ _ rfl rfl
        clear hdep ho
        dsimp only at hK ⊢
        simp only [q2] at hK ⊢
        refine wpOp_step rfl (fun K2 hK2 => ?_)
        go_simp
        refine (rcheck_roll R OK.out _ f z (HR.out.later (below_step HB3.out hz))).mono ?_
        rintro e z1 ⟨rfl, hb⟩
        exact hK2 _ _ (hK _ _ hb rfl)
      | 4, ho =>
        obtain rfl := Option.some.inj (show some _ = some o from ho)
        have q1 : x 25 = .int .i64 (rollErr R true) := hdep 1 (by kernel_rfl) _ _ rfl rfl
        have q3 : x 27 = .int .i64 (rollErr R true) := hdep 3 (by kernel_rfl) _ _ rfl rfl
        clear hdep ho
        dsimp only at hK ⊢
        simp only [q1, q3] at hK ⊢
        refine wpOp_step rfl (fun K2 hK2 => ?_)
        go_simp
        exact hK2 _ _ (hK _ _ (Below.refl _ _) rfl)
      | 5, ho =>
        obtain rfl := Option.some.inj (show some _ = some o from ho)
        have q4 : x 28 = .bool true := hdep 4 (by kernel_rfl) _ _ rfl rfl
        clear hdep ho
        dsimp only at hK ⊢
        simp only [q4] at hK ⊢
        refine wpOp_step rfl (fun K2 hK2 => ?_)
        go_simp
        exact hK2 _ _ (hK _ _ (Below.refl _ _) rfl)
      | 6, ho =>
        obtain rfl := Option.some.inj (show some _ = some o from ho)
        have q5 : x 29 = .bool true := hdep 5 (by kernel_rfl) _ _ rfl rfl
        clear hdep ho
        dsimp only at hK ⊢
        simp only [q5] at hK ⊢
        refine wpOp_step rfl (fun K2 hK2 => ?_)
        go_simp
        exact hK2 _ _ (hK _ _ (Below.refl _ _) rfl)
      | 7, ho =>
        obtain rfl := Option.some.inj (show some _ = some o from ho)
        have q5 : x 29 = .bool true := hdep 5 (by kernel_rfl) _ _ rfl rfl
        clear hdep ho
        dsimp only at hK ⊢
        simp only [q5] at hK ⊢
        refine wpOp_step rfl (fun K2 hK2 => ?_)
        go_simp
        exact hK2 _ _ (hK _ _ (Below.refl _ _) rfl)
      | 8, ho =>
        obtain rfl := Option.some.inj (show some _ = some o from ho)
        have q6 : x 30 = .slice a2 l.length c2 := hdep 6 (by kernel_rfl) _ _ rfl rfl
        have q7 : x 31 = .slice a3 l.length c3 := hdep 7 (by kernel_rfl) _ _ rfl rfl
        have q5 : x 29 = .bool true := hdep 5 (by kernel_rfl) _ _ rfl rfl
        clear hdep ho
        dsimp only at hK ⊢
        simp only [q6, q7, q5] at hK ⊢
        refine wpOp_step rfl (fun K2 hK2 => ?_)
        go_simp
        refine (same_ints l _ _ z (HI3.out.later hz) (HJ3.out.later hz) HLL.out).mono ?_
        rintro e z1 ⟨rfl, n3, rfl⟩
        exact hK2 _ _ (hK _ _ (below_drewN (Below.refl _ _) n3) rfl)
      | 9, ho =>
        obtain rfl := Option.some.inj (show some _ = some o from ho)
        have q5 : x 29 = .bool true := hdep 5 (by kernel_rfl) _ _ rfl rfl
        have q8 : x 32 = .bool true := hdep 8 (by kernel_rfl) _ _ rfl rfl
        clear hdep ho
        dsimp only at hK ⊢
        simp only [q5, q8] at hK ⊢
        refine wpOp_step rfl (fun K2 hK2 => ?_)
        go_simp
        exact hK2 _ _ (hK _ _ (Below.refl _ _) rfl)
      | 10, ho =>
        obtain rfl := Option.some.inj (show some _ = some o from ho)
        have q9 : x 33 = .bool true := hdep 9 (by kernel_rfl) _ _ rfl rfl
        clear hdep ho
        dsimp only at hK ⊢
        simp only [q9] at hK ⊢
        refine wpOp_step rfl (fun K2 hK2 => ?_)
        go_simp
        exact hK2 _ _ (hK _ _ (Below.refl _ _) rfl)
      | 11, ho =>
        obtain rfl := Option.some.inj (show some _ = some o from ho)
        have q10 : x 34 = .bool true := hdep 10 (by kernel_rfl) _ _ rfl rfl
        clear hdep ho
        dsimp only at hK ⊢
        simp only [q10] at hK ⊢
        refine wpOp_step rfl (fun K2 hK2 => ?_)
        go_simp
        exact hK2 _ _ (hK _ _ (Below.refl _ _) rfl)
      | 12, ho =>
        obtain rfl := Option.some.inj (show some _ = some o from ho)
        have q10 : x 34 = .bool true := hdep 10 (by kernel_rfl) _ _ rfl rfl
        clear hdep ho
        dsimp only at hK ⊢
        simp only [q10] at hK ⊢
        refine wpOp_step rfl (fun K2 hK2 => ?_)
        go_simp
        exact hK2 _ _ (hK _ _ (Below.refl _ _) rfl)
      | 13, ho =>
        obtain rfl := Option.some.inj (show some _ = some o from ho)
        have q11 : x 35 = .int .i64 er := hdep 11 (by kernel_rfl) _ _ rfl rfl
        have q12 : x 36 = .int .i64 er := hdep 12 (by kernel_rfl) _ _ rfl rfl
        have q10 : x 34 = .bool true := hdep 10 (by kernel_rfl) _ _ rfl rfl
        clear hdep ho
        dsimp only at hK ⊢
        simp only [q11, q12, q10] at hK ⊢
        refine wpOp_step rfl (fun K2 hK2 => ?_)
        go_simp
        exact hK2 _ _ (hK _ _ (Below.refl _ _) rfl)
      | 14, ho =>
        obtain rfl := Option.some.inj (show some _ = some o from ho)
        have q10 : x 34 = .bool true := hdep 10 (by kernel_rfl) _ _ rfl rfl
        have q13 : x 37 = .bool true := hdep 13 (by kernel_rfl) _ _ rfl rfl
        clear hdep ho
        dsimp only at hK ⊢
        simp only [q10, q13] at hK ⊢
        refine wpOp_step rfl (fun K2 hK2 => ?_)
        go_simp
        exact hK2 _ _ (hK _ _ (Below.refl _ _) rfl)
      | 15, ho =>
        obtain rfl := Option.some.inj (show some _ = some o from ho)
        have q14 : x 38 = .bool true := hdep 14 (by kernel_rfl) _ _ rfl rfl
        clear hdep ho
        dsimp only at hK ⊢
        simp only [q14] at hK ⊢
        refine wpOp_step rfl (fun K2 hK2 => ?_)
        go_simp
        exact hK2 _ _ (hK _ _ (Below.refl _ _) rfl)
      | 16, ho =>
        obtain rfl := Option.some.inj (show some _ = some o from ho)
        have q15 : x 39 = .bool true := hdep 15 (by kernel_rfl) _ _ rfl rfl
        clear hdep ho
        dsimp only at hK ⊢
        simp only [q15] at hK ⊢
        refine wpOp_step rfl (fun K2 hK2 => ?_)
        go_simp
        refine (shown32_any z (HT.out.below (below_step HB3.out hz))).mono ?_
        rintro e z1 ⟨rfl, hb⟩
        exact hK2 _ _ (hK _ _ hb rfl)
      | 17, ho =>
        obtain rfl := Option.some.inj (show some _ = some o from ho)
        have q15 : x 39 = .bool true := hdep 15 (by kernel_rfl) _ _ rfl rfl
        have q16 : x 40 = .bool true := hdep 16 (by kernel_rfl) _ _ rfl rfl
        clear hdep ho
        dsimp only at hK ⊢
        simp only [q15, q16] at hK ⊢
        refine wpOp_step rfl (fun K2 hK2 => ?_)
        go_simp
        exact hK2 _ _ (hK _ _ (Below.refl _ _) rfl)
      | 18, ho =>
        obtain rfl := Option.some.inj (show some _ = some o from ho)
        have q17 : x 41 = .bool true := hdep 17 (by kernel_rfl) _ _ rfl rfl
        clear hdep ho
        dsimp only at hK ⊢
        simp only [q17] at hK ⊢
        refine wpOp_step rfl (fun K2 hK2 => ?_)
        go_simp
        exact hK2 _ _ (hK _ _ (Below.refl _ _) rfl)
      | n + 19, ho => exact absurd (Array.getElem?_eq_some_iff.1 ho).1 (by simp)
    case done =>
      intro x z hz hres
      have q18 : x 4 = .bool true := hres 18 _ _ rfl rfl
      have HZ := Lib.hid (below_step HB3.out hz)
      clear hres hz
      dsimp only
      simp only [q18]
      go_wp2
      go_ret
      exact ⟨rfl, HZ.out⟩
end Go.Proofs.YtppccacfdpkkgaaDoor
