/-
  CONTRACTS: the reference's index, note, has, division.
-/
import Derived.Test.YtkddeliifadcoaaDoorC1
import Derived.Deep.QuietTactic
import Derived.BigQuiet
namespace Go.Proofs.YtkddeliifadcoaaDoor
open Go.RowKit
theorem rname_is (s : ByteArray) (b : Bool) (h : nameB (L s) = b) (w : World) (hs : s.size ≤ maxLen) :
    Calls Tryd.prog 49 #[.string s] w fun e w' => e = .returned (.bool b) ∧ w = w' :=
  (rname_any s w hs).mono fun _ _ ⟨he, hw⟩ => ⟨by rw [he, h], hw⟩
theorem rindex_any (i n : Int) (w : World) : Calls Tryd.prog 39 #[.int .i64 i, .int .i64 n] w fun e w' => e = .returned (.bool (decide (0 ≤ i ∧ i < n))) ∧ w = w' := by
  by_cases h1 : 0 ≤ i
  · by_cases h2 : i < n
    · have h3 : decide (0 ≤ i ∧ i < n) = true := by simp [h1, h2]
      rw [h3]
      go_enter Tryd.func39, Tryd.ntmps39
      go_wp2
      go_ret
      exact ⟨rfl, rfl⟩
    · have h3 : decide (0 ≤ i ∧ i < n) = false := by simp [h2]
      rw [h3]
      go_enter Tryd.func39, Tryd.ntmps39
      go_wp2
      go_ret
      exact ⟨rfl, rfl⟩
  · have h3 : decide (0 ≤ i ∧ i < n) = false := by simp [h1]
    rw [h3]
    go_enter Tryd.func39, Tryd.ntmps39
    go_wp2
    go_ret
    exact ⟨rfl, rfl⟩
theorem rnote_any (n : Int) (w : World) : Calls Tryd.prog 50 #[.int .i64 n] w fun e w' => e = .returned (.bool (decide (0 ≤ n ∧ n ≤ 127))) ∧ w = w' := by
  by_cases h1 : 0 ≤ n
  · by_cases h2 : n ≤ 127
    · have h3 : decide (0 ≤ n ∧ n ≤ 127) = true := by simp [h1, h2]
      rw [h3]
      go_enter Tryd.func50, Tryd.ntmps50
      go_wp2
      go_ret
      exact ⟨rfl, rfl⟩
    · have h3 : decide (0 ≤ n ∧ n ≤ 127) = false := by simp [h2]
      rw [h3]
      go_enter Tryd.func50, Tryd.ntmps50
      go_wp2
      go_ret
      exact ⟨rfl, rfl⟩
  · have h3 : decide (0 ≤ n ∧ n ≤ 127) = false := by simp [h1]
    rw [h3]
    go_enter Tryd.func50, Tryd.ntmps50
    go_wp2
    go_ret
    exact ⟨rfl, rfl⟩
theorem rnote_is (n : Int) (b : Bool) (h : decide (0 ≤ n ∧ n ≤ 127) = b) (w : World) : Calls Tryd.prog 50 #[.int .i64 n] w fun e w' => e = .returned (.bool b) ∧ w = w' :=
  (rnote_any n w).mono fun _ _ ⟨he, hw⟩ => ⟨by rw [he, h], hw⟩
theorem rindex_is (i n : Int) (b : Bool) (h : decide (0 ≤ i ∧ i < n) = b) (w : World) : Calls Tryd.prog 39 #[.int .i64 i, .int .i64 n] w fun e w' => e = .returned (.bool b) ∧ w = w' :=
  (rindex_any i n w).mono fun _ _ ⟨he, hw⟩ => ⟨by rw [he, h], hw⟩
theorem rhas_any (nm : ByteArray) (kd nu de lo cn n : Int) (w : World) (hr : -9223372036854775808 ≤ lo + cn ∧ lo + cn ≤ 9223372036854775807) : Calls Tryd.prog 52 #[.agg #[.string nm, .int .i64 kd, .int .i64 nu, .int .i64 de, .int .i64 lo, .int .i64 cn], .int .i64 n] w fun e w' => e = .returned (.bool (decide (lo ≤ n ∧ n < lo + cn))) ∧ Below w.heap.size w w' := by
  have hb0 : Below w.heap.size w (w.alloc (.cells #[.string nm, .int .i64 kd, .int .i64 nu, .int .i64 de, .int .i64 lo, .int .i64 cn] 58)) := (Below.refl _ _).alloc (Nat.le_refl _) _
  by_cases h1 : lo ≤ n
  · by_cases h2 : n < lo + cn
    · have h3 : decide (lo ≤ n ∧ n < lo + cn) = true := by simp [h1, h2]
      rw [h3]
      go_enter Tryd.func52, Tryd.ntmps52
      go_wp2
      go_ret
      exact ⟨rfl, hb0⟩
    · have h3 : decide (lo ≤ n ∧ n < lo + cn) = false := by simp [h2]
      rw [h3]
      go_enter Tryd.func52, Tryd.ntmps52
      go_wp2
      go_ret
      exact ⟨rfl, hb0⟩
  · have h3 : decide (lo ≤ n ∧ n < lo + cn) = false := by simp [h1]
    rw [h3]
    go_enter Tryd.func52, Tryd.ntmps52
    go_wp2
    go_ret
    exact ⟨rfl, hb0⟩
theorem beq_L {s t : ByteArray} (h : L s = L t) : (s.toList == t.toList) = true := beq_iff_eq.2 (by rw [Lib.toList_data, Lib.toList_data]; exact h)
theorem bne_L {s t : ByteArray} (h : L s ≠ L t) : (s.toList == t.toList) = false := beq_eq_false_iff_ne.2 (by rw [Lib.toList_data, Lib.toList_data]; exact h)
/-- The world inside a loop over earlier names: the specification's block, the element's. -/
structure RSt (w : World) (v1 v2 v3 v4 : Value) (T : TypeId) (cs : Array Value) (W : World) : Prop where
  spec : Blk W w.heap.size 27 #[v1, v2, v3, v4]
  el : Blk W (w.heap.size + 1) T cs
  low : Below w.heap.size w W
theorem RSt.new (w : World) (v1 v2 v3 v4 : Value) (T : TypeId) (cs : Array Value) : RSt w v1 v2 v3 v4 T cs ((w.alloc (.cells #[v1, v2, v3, v4] 27)).alloc (.cells cs T)) where
  spec := (Blk.new w _ _).alloc _
  el := by
    have := Blk.new (w.alloc (.cells #[v1, v2, v3, v4] 27)) T cs
    rwa [World.size_alloc] at this
  low := ((Below.refl _ w).alloc (Nat.le_refl _) _).alloc (by simp) _
theorem RSt.below {w W W' : World} {v1 v2 v3 v4 : Value} {T : TypeId} {cs : Array Value} (h : RSt w v1 v2 v3 v4 T cs W) (hb : Below W.heap.size W W') : RSt w v1 v2 v3 v4 T cs W' := ⟨h.spec.below hb, h.el.below hb, below_step h.low hb⟩
theorem RSt.drawn {w W : World} {v1 v2 v3 v4 : Value} {T : TypeId} {cs : Array Value} (h : RSt w v1 v2 v3 v4 T cs W) (n : Nat) : RSt w v1 v2 v3 v4 T cs (W.drewN n) := h.below (below_drewN (Below.refl _ _) _)
set_option maxRecDepth 100000 in
set_option maxHeartbeats 3200000 in
theorem rdivision_any (v1 v2 v3 v4 : Value) (S : Sp) (ok : SpOk S) (i : Nat) (hi : i < S.ds.length) (f : Nat → Value) (w : World) (hsp : SpRd w v1 v2 v3 v4 f S) :
    Calls Tryd.prog 30 #[.agg #[v1, v2, v3, v4], .int .i64 i] w fun e w' => e = .returned (.int .i64 (errD S i)) ∧ Below w.heap.size w w' := by
  have hz := ok.dn _ (List.getElem_mem hi)
  have hl := ok.d
  obtain ⟨b, o, c, ev, hlt, e0, e1, e2⟩ := hsp.dAt i hi
  have HSP := Lib.hid hsp
  subst ev
  cases hnm : nameB (L S.ds[i].name) with
  | false =>
    have HE := Lib.hid (errD_form hi hnm)
    have CN := Lib.hid (fun W => rname_is S.ds[i].name false hnm W (by unfold maxLen; omega))
    clear hnm hz hl
    go_enter Tryd.func30, Tryd.ntmps30
    go_wp2_with fail
    refine (CN.out _).mono ?_
    rintro e w' ⟨rfl, rfl⟩
    go_wp2
    go_ret
    exact ⟨by rw [HE.out]; rfl, ((Below.refl _ w).alloc (Nat.le_refl _) _).alloc (by simp) _⟩
  | true =>
    have HN := Lib.hid hnm
    have CN := Lib.hid (fun W => rname_is S.ds[i].name true hnm W (by unfold maxLen; omega))
    have C1 := Lib.hid (fun W => rnote_any S.ds[i].lo W)
    have C2 := Lib.hid (fun W => rnote_any S.ds[i].hi W)
    clear hnm hz
    have hst0 := RSt.new w (.slice (some ⟨b, o, none⟩) S.ds.length c) v2 v3 v4 54 #[.string S.ds[i].name, .int .i64 S.ds[i].lo, .int .i64 S.ds[i].hi]
    have HS0 := Lib.hid hst0
    clear hst0
    go_enter Tryd.func30, Tryd.ntmps30
    go_wp2_with fail
    refine (CN.out _).mono ?_
    rintro e w' ⟨rfl, rfl⟩
    go_wp2
    go_loopw [6] (fun x wr => ∃ k : Nat, k ≤ i ∧ x = .int .i64 k ∧ RowKit.Hid (∀ j (hj : j < k) (h : j < S.ds.length), L S.ds[j].name ≠ L S.ds[i].name) ∧ RowKit.Hid (RSt w (.slice (some ⟨b, o, none⟩) S.ds.length c) v2 v3 v4 54 #[.string S.ds[i].name, .int .i64 S.ds[i].lo, .int .i64 S.ds[i].hi] wr)) (fun x _ => i - (intOf x).toNat)
    case atStart => exact ⟨0, by omega, rfl, Lib.hid (fun j hj => by omega), HS0⟩
    obtain ⟨k, hk, rfl, hE, hS⟩ := hrel
    obtain ⟨s0, s1, s2, s3⟩ := hS.out.spec.four
    have y0 := hS.out.el.cell 0
    have y1 := hS.out.el.cell 1
    have y2 := hS.out.el.cell 2
    by_cases hlt2 : k < i
    · obtain ⟨b', o', c', ev', hbl, d0, _, _⟩ := (HSP.out.later hS.out.low).dAt k (by omega)
      cases ev'
      have hk2 : ((k : Int) < i) := by omega
      by_cases hq : L S.ds[k].name = L S.ds[i].name
      · have HE := Lib.hid (errD_twice hi HN.out hlt2 hq)
        have HB := Lib.hid (beq_L hq)
        clear hq
        go_wp2_with fail
        go_quiet (fail)
        rw [HB.out]
        go_wp2
        go_ret
        exact ⟨by rw [HE.out]; rfl, (hS.out.drawn nq).low⟩
      · have hne := Lib.hid hq
        have HB := Lib.hid (bne_L hq)
        clear hq
        go_wp2_with fail
        go_quiet (fail)
        rw [HB.out]
        go_wp2
        go_roundw
        case rel => exact ⟨k + 1, by omega, by go_num, Lib.hid (fun j hj h => by rcases Nat.lt_succ_iff_lt_or_eq.1 hj with h' | h'; exact hE.out j h' h; subst h'; exact hne.out), Lib.hid (hS.out.drawn nq)⟩
        case measure => simp [intOf]; omega
    · have hke : k = i := by omega
      have HE := Lib.hid (errD_next hi HN.out (fun j hj => hE.out j (by omega) (by omega)))
      have hk2 : ¬ ((k : Int) < i) := by omega
      have HL := Lib.hid hS.out.low
      obtain ⟨lo, hlo⟩ : ∃ x, x = S.ds[i].lo := ⟨_, rfl⟩
      obtain ⟨hh, hhh⟩ : ∃ x, x = S.ds[i].hi := ⟨_, rfl⟩
      have hdv : dvE S.ds[i] = if 0 ≤ lo ∧ lo ≤ 127 ∧ lo ≤ hh ∧ hh ≤ 127 ∧ hh - lo ≤ 60 then 0 else 7 := by unfold dvE; rw [hlo, hhh]
      have HDV := Lib.hid hdv
      clear hdv
      replace y1 : wr.cell? ⟨w.heap.size + 1, 1, none⟩ = some (.int .i64 lo) := by rw [hlo]; exact y1
      replace y2 : wr.cell? ⟨w.heap.size + 1, 2, none⟩ = some (.int .i64 hh) := by rw [hhh]; exact y2
      rw [← hlo] at C1
      rw [← hhh] at C2
      clear hlo hhh
      by_cases h1 : 0 ≤ lo ∧ lo ≤ 127
      · have B1 := Lib.hid (show decide (0 ≤ lo ∧ lo ≤ 127) = true from decide_eq_true h1)
        rw [B1.out] at C1
        by_cases h2 : 0 ≤ hh ∧ hh ≤ 127
        · have B2 := Lib.hid (show decide (0 ≤ hh ∧ hh ≤ 127) = true from decide_eq_true h2)
          rw [B2.out] at C2
          obtain ⟨h1a, h1b⟩ := h1
          obtain ⟨h2a, h2b⟩ := h2
          by_cases h3 : lo ≤ hh
          · by_cases h4 : hh - lo + 1 ≤ 61
            · have HP := Lib.hid (show dvE S.ds[i] = 0 by rw [HDV.out, if_pos (by omega)])
              go_wp2_with (first | (go_at_call 50; with_reducible refine (C1.out _).mono ?_; rintro e w' ⟨rfl, rfl⟩) | (go_at_call 50; with_reducible refine (C2.out _).mono ?_; rintro e w' ⟨rfl, rfl⟩))
              go_ret
              exact ⟨by rw [HE.out, HP.out]; rfl, HL.out⟩
            · have HP := Lib.hid (show dvE S.ds[i] = 7 by rw [HDV.out, if_neg (by omega)])
              go_wp2_with (first | (go_at_call 50; with_reducible refine (C1.out _).mono ?_; rintro e w' ⟨rfl, rfl⟩) | (go_at_call 50; with_reducible refine (C2.out _).mono ?_; rintro e w' ⟨rfl, rfl⟩))
              go_ret
              exact ⟨by rw [HE.out, HP.out]; rfl, HL.out⟩
          · have HP := Lib.hid (show dvE S.ds[i] = 7 by rw [HDV.out, if_neg (by omega)])
            go_wp2_with (first | (go_at_call 50; with_reducible refine (C1.out _).mono ?_; rintro e w' ⟨rfl, rfl⟩) | (go_at_call 50; with_reducible refine (C2.out _).mono ?_; rintro e w' ⟨rfl, rfl⟩))
            go_ret
            exact ⟨by rw [HE.out, HP.out]; rfl, HL.out⟩
        · have B2 := Lib.hid (show decide (0 ≤ hh ∧ hh ≤ 127) = false from decide_eq_false h2)
          rw [B2.out] at C2
          have HP := Lib.hid (show dvE S.ds[i] = 7 by rw [HDV.out, if_neg (by omega)])
          clear h1 h2
          go_wp2_with (first | (go_at_call 50; with_reducible refine (C1.out _).mono ?_; rintro e w' ⟨rfl, rfl⟩) | (go_at_call 50; with_reducible refine (C2.out _).mono ?_; rintro e w' ⟨rfl, rfl⟩))
          go_ret
          exact ⟨by rw [HE.out, HP.out]; rfl, HL.out⟩
      · have B1 := Lib.hid (show decide (0 ≤ lo ∧ lo ≤ 127) = false from decide_eq_false h1)
        rw [B1.out] at C1
        have HP := Lib.hid (show dvE S.ds[i] = 7 by rw [HDV.out, if_neg (by omega)])
        clear h1
        go_wp2_with (first | (go_at_call 50; with_reducible refine (C1.out _).mono ?_; rintro e w' ⟨rfl, rfl⟩) | (go_at_call 50; with_reducible refine (C2.out _).mono ?_; rintro e w' ⟨rfl, rfl⟩))
        go_ret
        exact ⟨by rw [HE.out, HP.out]; rfl, HL.out⟩
end Go.Proofs.YtkddeliifadcoaaDoor
