/-
  THE LAW RollsBridge: the walk.
-/
import Derived.Test.YtppccacfdpkkgaaDoorL3
import Derived.Test.YtppccacfdpkkgaaDoorK27
import Derived.Test.YtppccacfdpkkgaaDoorOpenR
namespace Go.Proofs.YtppccacfdpkkgaaDoor
open Go.RowKit
theorem bridgeP_len {R : Ro} (ok : RoOk R) (m k : Int) : (bridgeP R m k).1.rows.length ≤ 1000000 ∧ ∀ l ∈ (bridgeP R m k).1.rows, l.length ≤ 1000000 := by
  by_cases h : rollErr R true = 0
  · by_cases h2 : m < 1 ∨ 100 < m ∨ k < 1 ∨ 100 < k
    · rw [bridgeP_range h h2]; exact ⟨Nat.zero_le _, fun l hl => by cases hl⟩
    · rw [bridgeP_good h h2]
      have h1 := (rollGood h).hi
      refine ⟨by show (brRows R m.toNat k.toNat R.tracks.toNat).length ≤ _; rw [brRows_len]; have := ok.len; omega, fun l hl => ?_⟩
      obtain ⟨i, _, rfl⟩ := List.mem_map.1 (show l ∈ (List.range R.rows.length).map (brRow R m.toNat k.toNat R.tracks.toNat) from hl)
      have := told_len (brF R m.toNat k.toNat R.tracks.toNat i) R.tracks.toNat
      unfold brRow
      omega
  · rw [bridgeP_roll h]; exact ⟨Nat.zero_le _, fun l hl => by cases hl⟩
set_option maxRecDepth 100000 in
set_option maxHeartbeats 12800000 in
theorem rollsBridge_walk (R : Ro) (v : Value) (f : Nat → Value) (hB : RoB R) (mo wi : Int) (w : World) (t : Tabs w) (hr : RoRd w v f R) :
    Calls Tryd.prog 3 #[.agg #[.int .i64 R.tracks, v], .int .i64 mo, .int .i64 wi] w fun e w' => e = .returned (.bool true) ∧ Below w.heap.size w w' := by
  have hn := hB.n
  have hll := hB.l
  obtain ⟨av, cv, rfl⟩ := hr.form
  have hb0 : Below w.heap.size w (w.alloc (.cells #[.int .i64 R.tracks, .slice av R.rows.length cv] 24)) := (Below.refl _ _).alloc (Nat.le_refl _) _
  have HR := Lib.hid hr
  have HT := Lib.hid t
  have HB0 := Lib.hid hb0
  have HK0 := Lib.hid (Blk.new w 24 #[.int .i64 R.tracks, .slice av R.rows.length cv])
  have HL := Lib.hid hll
  clear hr t hb0 hll
  go_enter Tryd.func3, Tryd.ntmps3
  go_wp2_with fail
  refine (far_roll R _ f hn HL.out _ (HR.out.later HB0.out)).mono ?_
  rintro e w1 ⟨b, rfl, hok, hb1⟩
  have HB1 := Lib.hid (below_step HB0.out hb1)
  have HK1 := Lib.hid (HK0.out.below hb1)
  have HOK := Lib.hid hok
  clear hb1 hok
  cases b with
  | true =>
    go_wp2_with fail
    refine (shown32_any w1 (HT.out.below HB1.out)).mono ?_
    rintro e w2 ⟨rfl, hb2⟩
    have HB2 := Lib.hid (below_step HB1.out hb2)
    clear hb2
    go_wp2
    go_ret
    exact ⟨rfl, HB2.out⟩
  | false =>
    have OK := Lib.hid (HOK.out rfl)
    clear HOK
    obtain ⟨P, er, hbp⟩ : ∃ P er, bridgeP R mo wi = (P, er) := ⟨_, _, rfl⟩
    have HBP := Lib.hid hbp
    have x0 := HK1.out.cell 0
    have x1 := HK1.out.cell 1
    clear hbp
    go_wp2_with fail
    refine (bridge_any R OK.out _ f mo wi w1 (HR.out.later HB1.out)).mono ?_
    rw [HBP.out]
    rintro e w2 ⟨v2, g2, rfl, ho2, hb2⟩
    obtain ⟨a2, c2, rfl⟩ := ho2.form
    have hz2 : Below w2.heap.size w2 (w2.alloc (.cells #[.int .i64 P.tracks, .slice a2 P.rows.length c2] 24)) := (Below.refl _ _).alloc (Nat.le_refl _) _
    have HB2 := Lib.hid (below_step (below_step HB1.out hb2) hz2)
    have HK2 := Lib.hid ((HK1.out.below hb2).below hz2)
    have HI2 := Lib.hid (ho2.later hz2)
    have HP2 := Lib.hid (Blk.new w2 24 #[.int .i64 P.tracks, .slice a2 P.rows.length c2])
    have x0 := (HK1.out.below hb2).cell 0
    have x1 := (HK1.out.below hb2).cell 1
    have y0 := HK2.out.cell 0
    have y1 := HK2.out.cell 1
    clear ho2 hb2 hz2
    go_wp2_with fail
    obtain ⟨W2, hW2⟩ : ∃ W2, w2.alloc (.cells #[.int .i64 P.tracks, .slice a2 P.rows.length c2] 24) = W2 := ⟨_, rfl⟩
    rw [hW2] at HB2 HK2 HI2 HP2 y0 y1 ⊢
    clear hW2
    refine (rbridge_any R OK.out _ f mo wi W2 (HR.out.later HB2.out)).mono ?_
    rw [HBP.out]
    rintro e w3 ⟨v3, g3, rfl, ho3, hb3⟩
    obtain ⟨a3, c3, rfl⟩ := ho3.form
    have hz3 : Below w3.heap.size w3 (w3.alloc (.cells #[.int .i64 P.tracks, .slice a3 P.rows.length c3] 24)) := (Below.refl _ _).alloc (Nat.le_refl _) _
    have HB3 := Lib.hid (below_step (below_step HB2.out hb3) hz3)
    have HI3 := Lib.hid ((HI2.out.later hb3).later hz3)
    have HJ3 := Lib.hid (ho3.later hz3)
    have HP3 := Lib.hid ((HP2.out.below hb3).below hz3)
    have HQ3 := Lib.hid (Blk.new w3 24 #[.int .i64 P.tracks, .slice a3 P.rows.length c3])
    obtain ⟨hl1, hl2⟩ : P.rows.length ≤ 1000000 ∧ ∀ l ∈ P.rows, l.length ≤ 1000000 := by have := bridgeP_len OK.out mo wi; rw [HBP.out] at this; exact this
    have HL2 := Lib.hid hl2
    have z0 := HP3.out.cell 0
    have z1 := HP3.out.cell 1
    have u0 := HQ3.out.cell 0
    have u1 := HQ3.out.cell 1
    clear ho3 hb3 x0 x1 hl2 hz3 y0 y1
    go_wp2_with first | (go_at_call 13; refine (same_rolls P hl1 HL2.out _ _ _ _ _ HI3.out HJ3.out).mono ?_; rintro e w4 ⟨rfl, hb4⟩) | (go_at_call 10; refine (shown32_any _ (HT.out.below (below_step HB3.out hb4))).mono ?_; rintro e w5 ⟨rfl, hb5⟩)
    go_ret
    exact ⟨rfl, below_step (below_step HB3.out hb4) hb5⟩
end Go.Proofs.YtppccacfdpkkgaaDoor
