/-
  THE WALK of the law WordsLines.
-/
import Derived.Test.YtoclgcneclbfiaaDoorW12
import Derived.Test.YtoclgcneclbfiaaDoorW16
namespace Go.Proofs.YtoclgcneclbfiaaDoor
open Go.RowKit
theorem map_L_inj : ∀ {a b : List ByteArray}, a.map L = b.map L → a = b
  | [], [], _ => rfl
  | [], _ :: _, h => by simp at h
  | _ :: _, [], h => by simp at h
  | x :: a, y :: b, h => by
    simp only [List.map_cons, List.cons.injEq] at h
    rw [eq_of_L h.1, map_L_inj h.2]
set_option maxRecDepth 100000 in
set_option maxHeartbeats 3200000 in
theorem wordsLines_walk (s : ByteArray) (w : World) (t : Tabs w) :
    Calls Tryd.prog 9 #[.string s] w fun e w' => e = .returned (.bool true) ∧ Below w.heap.size w w' := by
  by_cases hl : 1048676 < s.size
  · go_enter Tryd.func9, Tryd.ntmps9
    go_wp2_with fail
    refine (shown_any _ t).mono ?_
    rintro e w2 ⟨rfl, hb⟩
    go_wp2_with fail
    go_ret
    exact ⟨rfl, hb⟩
  · have hs : s.size ≤ 1048676 := by omega
    go_enter Tryd.func9, Tryd.ntmps9
    go_wp2_with fail
    refine (lines_any s _ t hs).mono ?_
    rintro e w1 ⟨v1, ps, rfl, hp, r1, hb1⟩
    have t1 := t.below hb1
    go_wp2_with fail
    refine (rlines_any s _ hs).mono ?_
    rintro e w2 ⟨v2, qs, rfl, hq, r2, hb2⟩
    obtain rfl : ps = qs := map_L_inj (hp.trans hq.symm)
    have t2 := t1.below hb2
    have hb3 := hb1.trans (hb2.mono hb1.size)
    have r3 := r1.later hb2
    have hlen : ps.length ≤ 1048676 := by
      have h1 := congrArg List.length hp
      rw [List.length_map] at h1
      have h2 : (linesR (L s)).2.length ≤ (L s).length := by
        unfold linesR
        repeat' split
        all_goals try (simp; done)
        rw [lns_count]
        exact List.count_le_length
      rw [L_length] at h2
      omega
    clear hp hq r1
    obtain ⟨a1, c1, rfl, k1⟩ := r3
    obtain ⟨a2, c2, rfl, k2⟩ := r2
    generalize (linesR (L s)).1 = code
    have K1 := Lib.hid k1
    have K2 := Lib.hid k2
    clear k1 k2
    go_wp2_with fail
    go_loopw [7] (fun i wr => ∃ k : Nat, k ≤ ps.length ∧ i = .int .i64 k ∧ Below w.heap.size w wr ∧ Below w2.heap.size w2 wr) (fun i _ => ps.length - (intOf i).toNat)
    case atStart => exact ⟨0, Nat.zero_le _, rfl, hb3, Below.refl _ _⟩
    case round =>
      obtain ⟨k, hk, rfl, hB, hB2⟩ := hrel
      by_cases hlt : k < ps.length
      · obtain ⟨b1, o1, rfl, d1⟩ := K1.out k hlt
        obtain ⟨b2, o2, rfl, d2⟩ := K2.out k hlt
        have e1 := (hB2.cell (cell_size d1)).trans d1
        have e2 := (hB2.cell (cell_size d2)).trans d2
        clear d1 d2
        go_wp2_with fail
        go_quiet (fail)
        go_wp2
        go_roundw
        case rel => exact ⟨k + 1, by omega, by go_num, below_drewN hB _, below_drewN hB2 _⟩
        case measure => simp [intOf]; omega
      · have t3 := t.below hB
        go_wp2_with fail
        refine (shown_any _ t3).mono ?_
        rintro e w4 ⟨rfl, hb4⟩
        go_wp2_with fail
        go_ret
        exact ⟨rfl, hB.trans (hb4.mono hB.size)⟩
end Go.Proofs.YtoclgcneclbfiaaDoor
