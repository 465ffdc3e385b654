/-
  CONTRACTS: deep, of no events.
-/
import Derived.Test.YtppccacfdpkkgaaGreatDoorF1c
import Derived.Test.YtppccacfdpkkgaaGreatDoorK20
namespace Go.Proofs.YtppccacfdpkkgaaGreatDoor
open Go.RowKit
def DpEnds (S : Sp) (th : List Th) (w : World) (e : Ending) (w' : World) : Prop := ∃ b, e = .returned (.bool b) ∧ (b = false → SpOk S ∧ th.length ≤ 200) ∧ Below w.heap.size w w'
set_option maxRecDepth 100000 in
set_option maxHeartbeats 6400000 in
theorem deep_any (v1 v2 v3 v4 : Value) (S : Sp) (f : Nat → Value) (rt : Int) (th : List Th) (vt : Value) (w : World) (hsp : SpRd w v1 v2 v3 v4 f S) (hth : ARd w vt 3 (th.map thC)) :
    Calls Tryz.prog 7 #[.agg #[v1, v2, v3, v4], .slice none 0 0, .agg #[.int .i64 rt, vt]] w (DpEnds S th w) := by
  obtain ⟨⟨a1, c1, rfl⟩, ⟨a2, c2, rfl⟩, ⟨a3, c3, rfl⟩, ⟨a4, c4, rfl⟩⟩ := hsp.forms
  obtain ⟨at', ct, rfl⟩ := hth.thForm
  obtain ⟨d1, hd1⟩ : ∃ d1, S.ds.length = d1 := ⟨_, rfl⟩
  obtain ⟨d2, hd2⟩ : ∃ d2, S.rs.length = d2 := ⟨_, rfl⟩
  obtain ⟨d3, hd3⟩ : ∃ d3, S.ss.length = d3 := ⟨_, rfl⟩
  obtain ⟨d4, hd4⟩ : ∃ d4, S.cs.length = d4 := ⟨_, rfl⟩
  rw [hd1, hd2, hd3, hd4] at hsp ⊢
  have hb0 : Below w.heap.size w ((w.alloc (.cells #[.slice a1 d1 c1, .slice a2 d2 c2, .slice a3 d3 c3, .slice a4 d4 c4] 27)).alloc (.cells #[.int .i64 rt, .slice at' th.length ct] 31)) := below_two w _ _
  have k2 := Blk.new (w.alloc (.cells #[.slice a1 d1 c1, .slice a2 d2 c2, .slice a3 d3 c3, .slice a4 d4 c4] 27)) 31 #[.int .i64 rt, .slice at' th.length ct]
  rw [World.size_alloc] at k2
  have HSP := Lib.hid hsp
  have HB0 := Lib.hid hb0
  have HY0 := Lib.hid k2
  clear hsp hth hb0 k2 hd1 hd2 hd3 hd4
  go_enter Tryz.func7, Tryz.ntmps7
  go_wp2_with fail
  refine (far_any _ _ _ _ S _ f (HSP.out.later HB0.out)).mono ?_
  rintro e W1 ⟨b, rfl, hok, hb1⟩
  have HB1 := Lib.hid (below_step HB0.out hb1)
  have HY1 := Lib.hid (HY0.out.below hb1)
  have y0 := HY1.out.cell 0
  have y1 := HY1.out.cell 1
  clear hb1
  cases b with
  | true =>
    clear hok
    go_wp2
    go_ret
    exact ⟨true, rfl, fun h => (by cases h), HB1.out⟩
  | false =>
    have OK := Lib.hid (hok rfl)
    clear hok
    by_cases h2 : (200 : Int) < (th.length : Int)
    · go_wp2
      go_ret
      exact ⟨true, rfl, fun h => (by cases h), HB1.out⟩
    · have h3 : th.length ≤ 200 := by omega
      have H3 := Lib.hid h3
      go_wp2
      go_loopw [7, 8] (fun x y wr => x = .int .i64 0 ∧ y = .int .i64 0 ∧ wr = W1) (fun _ _ _ => 0)
      case atStart => exact ⟨rfl, rfl, rfl⟩
      obtain ⟨rfl, rfl, hwr⟩ := hrel
      subst hwr
      by_cases b1 : rt < 1
      · go_wp2
        go_ret
        exact ⟨false, rfl, fun _ => ⟨OK.out, H3.out⟩, HB1.out⟩
      · by_cases b2 : 1000 < rt
        · go_wp2
          go_ret
          exact ⟨false, rfl, fun _ => ⟨OK.out, H3.out⟩, HB1.out⟩
        · have hnz : ¬ rt = 0 := by omega
          have hq : Int.tdiv 0 rt = 0 := Int.zero_tdiv rt
          go_wp2
          go_ret
          exact ⟨false, rfl, fun _ => ⟨OK.out, H3.out⟩, HB1.out⟩
end Go.Proofs.YtppccacfdpkkgaaGreatDoor
