/-
  PLAIN: bridges make no difference to what is read; no slot of a bridged roll is long.
-/
import Derived.Test.YtppccacfdpkkgaaDoorK6
namespace Go.Proofs.YtppccacfdpkkgaaDoor
theorem trk_out {R : Ro} {t i : Nat} (h : R.rows.length ≤ i) : trk R t i = false := by
  unfold trk
  rw [List.getD_eq_getElem?_getD, List.getElem?_eq_none h]
  rfl
theorem trk_br {R : Ro} {m w t i : Nat} (ht1 : 1 ≤ t) (ht : (t : Int) < R.tracks) : trk (brRo R m w R.tracks.toNat) t i = cut (trk R t) R.rows.length m w i := by
  by_cases hi : i < R.rows.length
  · have h1 : (brRo R m w R.tracks.toNat).rows.getD i [] = brRow R m w R.tracks.toNat i := by
      rw [getD_at (show i < (brRo R m w R.tracks.toNat).rows.length by rw [show (brRo R m w R.tracks.toNat).rows.length = R.rows.length from brRows_len _ _ _ _]; exact hi)]
      exact brRows_at R m w R.tracks.toNat i _
    unfold trk
    rw [h1]
    have h2 : decide ((t : Int) ∈ brRow R m w R.tracks.toNat i) = brF R m w R.tracks.toNat i t := by
      rw [Bool.eq_iff_iff, decide_eq_true_iff, mem_brRow]
      exact ⟨fun h => h.2, fun h => ⟨by omega, h⟩⟩
    rw [h2]
    unfold brF gK cut
    rw [decide_eq_true (show 1 ≤ t ∧ t < R.tracks.toNat by omega), Bool.true_and]
    rfl
  · rw [trk_out (by rw [show (brRo R m w R.tracks.toNat).rows.length = R.rows.length from brRows_len _ _ _ _]; omega)]
    unfold cut
    rw [trk_out (by omega)]
    rfl
theorem slots_br {R : Ro} {m w t : Nat} {gap : Int} (hm : 0 < m) (hg : (w : Int) ≤ gap) (ht1 : 1 ≤ t) (ht : (t : Int) < R.tracks) : slotsR (brRo R m w R.tracks.toNat) t gap = slotsR R t gap := by
  unfold slotsR
  rw [show (brRo R m w R.tracks.toNat).rows.length = R.rows.length from brRows_len _ _ _ _, show trk (brRo R m w R.tracks.toNat) t = cut (trk R t) R.rows.length m w from funext fun i => trk_br ht1 ht]
  exact cut_slots hm hg
theorem runP_all {f : Nat → Bool} : ∀ {k r : Nat}, k - runP f k ≤ r → r < k → f r = true
  | 0, r, _, h => absurd h (Nat.not_lt_zero r)
  | k + 1, r, h1, h2 => by
    rw [runP_next] at h1
    cases hf : f k with
    | false => rw [hf, if_neg (by decide)] at h1; omega
    | true =>
      rw [hf, if_pos rfl] at h1
      by_cases e : r = k
      · subst e; exact hf
      · exact runP_all (k := k) (by omega) (by omega)
theorem run_short {R : Ro} {m w t i : Nat} (hw : 0 < w) (ht1 : 1 ≤ t) (ht : (t : Int) < R.tracks) (hi : i ≤ R.rows.length) : runP (trk (brRo R m w R.tracks.toNat) t) i ≤ m + w := by
  have hle := runP_le (trk (brRo R m w R.tracks.toNat) t) i
  rcases Nat.lt_or_ge (m + w) (runP (trk (brRo R m w R.tracks.toNat) t) i) with h | h
  · exfalso
    refine cut_short (f := trk R t) (n := R.rows.length) (m := m) (w := w) (a := i - (m + w + 1)) hw (by omega) fun r h1 h2 => ?_
    rw [← trk_br ht1 ht]
    exact runP_all (k := i) (by omega) (by omega)
  · exact h
theorem br_good {R : Ro} {m w k : Nat} (h : RollGood R true) : rollErr (brRo R m w k) true = 0 := by
  have hl : (brRo R m w k).rows.length = R.rows.length := brRows_len R m w k
  refine rollErr_good (by have := h.lo; have := h.hi; show ¬ (R.tracks < 2 ∨ R.tracks > 128); omega) (by rw [hl]; exact h.len) fun j hj => ?_
  have hj2 : j < R.rows.length := by rw [← hl]; exact hj
  rw [show (brRo R m w k).rows[j] = brRow R m w k j from brRows_at R m w k j _]
  show rowErr R.tracks true (brRow R m w k j) = 0
  have hin : ∀ x ∈ brRow R m w k j, 0 ≤ x ∧ x < R.tracks := fun x hx => by
    unfold brRow at hx
    obtain ⟨u, h1, rfl, _⟩ := mem_told.1 hx
    omega
  have hasc : (brRow R m w k j).Pairwise (· < ·) := told_asc
  have hz : firstErr (numErr R.tracks (brRow R m w k j)) (brRow R m w k j).length = 0 := firstErr_zero fun q hq => by
    have h1 := hin _ (List.getElem_mem hq)
    refine numErr_good hq (by omega) (by omega) fun hq0 => List.pairwise_iff_getElem.1 hasc (q - 1) q (by omega) hq (by omega)
  have h0 : (0 : Int) ∈ brRow R m w k j := by
    have hg := (rowErr_zero (h.row j hj2)).2 rfl
    have := h.lo
    refine (mem_brRow (t := 0)).2 ⟨by omega, ?_⟩
    unfold brF gK trk
    rw [getD_at hj2, decide_eq_false (show ¬ (1 ≤ 0 ∧ 0 < k) by omega), Bool.false_and, Bool.not_false, Bool.and_true]
    exact decide_eq_true hg
  unfold rowErr
  rw [if_pos hz, if_neg (fun q => q.2 h0)]
end Go.Proofs.YtppccacfdpkkgaaDoor
