/-
  CONTRACTS: the reference's rank.
-/
import Derived.Test.YtkddeliifadcoaaDoorD1
import Derived.Test.YtkddeliifadcoaaDoorW20
namespace Go.Proofs.YtkddeliifadcoaaDoor
open Go.RowKit
theorem rvalid_is (n d : Int) (b : Bool) (h : decide (FeetOk n d) = b) (w : World) :
    Calls Tryd.prog 51 #[.agg #[.int .i64 n, .int .i64 d]] w fun e w' => e = .returned (.bool b) ∧ Below w.heap.size w w' :=
  (rvalid_any n d w).mono fun _ _ ⟨he, hw⟩ => ⟨by rw [he, ← h]; congr 2, hw⟩
set_option maxRecDepth 100000 in
set_option maxHeartbeats 3200000 in
theorem rrank_any (v1 v2 v3 v4 : Value) (S : Sp) (ok : SpOk S) (i : Nat) (hi : i < S.rs.length) (f : Nat → Value) (w : World) (hsp : SpRd w v1 v2 v3 v4 f S) :
    Calls Tryd.prog 31 #[.agg #[v1, v2, v3, v4], .int .i64 i] w fun e w' => e = .returned (.int .i64 (errR S i)) ∧ Below w.heap.size w w' := by
  have hz := ok.rn _ (List.getElem_mem hi)
  have hl := ok.r
  obtain ⟨b, o, c, ev, hlt, e0, e1, e2, e3, e4, e5⟩ := hsp.rAt i hi
  have HSP := Lib.hid hsp
  subst ev
  cases hnm : nameB (L S.rs[i].name) with
  | false =>
    have HE := Lib.hid (errR_form hi hnm)
    have CN := Lib.hid (fun W => rname_is S.rs[i].name false hnm W (by unfold maxLen; omega))
    clear hnm hz hl
    go_enter Tryd.func31, Tryd.ntmps31
    go_wp2_with fail
    refine (CN.out _).mono ?_
    rintro e w' ⟨rfl, rfl⟩
    go_wp2
    go_ret
    exact ⟨by rw [HE.out]; rfl, ((Below.refl _ w).alloc (Nat.le_refl _) _).alloc (by simp) _⟩
  | true =>
    have HN := Lib.hid hnm
    have CN := Lib.hid (fun W => rname_is S.rs[i].name true hnm W (by unfold maxLen; omega))
    clear hnm hz
    have hst0 := RSt.new w v1 (.slice (some ⟨b, o, none⟩) S.rs.length c) v3 v4 58 #[.string S.rs[i].name, .int .i64 S.rs[i].kind, .int .i64 S.rs[i].num, .int .i64 S.rs[i].den, .int .i64 S.rs[i].low, .int .i64 S.rs[i].cnt]
    have HS0 := Lib.hid hst0
    clear hst0
    go_enter Tryd.func31, Tryd.ntmps31
    go_wp2_with fail
    refine (CN.out _).mono ?_
    rintro e w' ⟨rfl, rfl⟩
    go_wp2
    go_loopw [6] (fun x wr => ∃ k : Nat, k ≤ i ∧ x = .int .i64 k ∧ RowKit.Hid (∀ j (hj : j < k) (h : j < S.rs.length), L S.rs[j].name ≠ L S.rs[i].name) ∧ RowKit.Hid (RSt w v1 (.slice (some ⟨b, o, none⟩) S.rs.length c) v3 v4 58 #[.string S.rs[i].name, .int .i64 S.rs[i].kind, .int .i64 S.rs[i].num, .int .i64 S.rs[i].den, .int .i64 S.rs[i].low, .int .i64 S.rs[i].cnt] wr)) (fun x _ => i - (intOf x).toNat)
    case atStart => exact ⟨0, by omega, rfl, Lib.hid (fun j hj => by omega), HS0⟩
    obtain ⟨k, hk, rfl, hE, hS⟩ := hrel
    obtain ⟨s0, s1, s2, s3⟩ := hS.out.spec.four
    have y0 := hS.out.el.cell 0
    by_cases hlt2 : k < i
    · obtain ⟨b', o', c', ev', hbl, d0, _, _, _, _, _⟩ := (HSP.out.later hS.out.low).rAt k (by omega)
      cases ev'
      have hk2 : ((k : Int) < i) := by omega
      by_cases hq : L S.rs[k].name = L S.rs[i].name
      · have HE := Lib.hid (errR_twice hi HN.out hlt2 hq)
        have HB := Lib.hid (beq_L hq)
        clear hq
        go_wp2_with fail
        go_quiet (fail)
        rw [HB.out]
        go_wp2
        go_ret
        exact ⟨by rw [HE.out]; rfl, (hS.out.drawn nq).low⟩
      · have hne := Lib.hid hq
        have HB := Lib.hid (bne_L hq)
        clear hq
        go_wp2_with fail
        go_quiet (fail)
        rw [HB.out]
        go_wp2
        go_roundw
        case rel => exact ⟨k + 1, by omega, by go_num, Lib.hid (fun j hj h => by rcases Nat.lt_succ_iff_lt_or_eq.1 hj with h' | h'; exact hE.out j h' h; subst h'; exact hne.out), Lib.hid (hS.out.drawn nq)⟩
        case measure => simp [intOf]; omega
    · have hke : k = i := by omega
      have HE := Lib.hid (errR_next hi HN.out (fun j hj => hE.out j (by omega) (by omega)))
      have hk2 : ¬ ((k : Int) < i) := by omega
      have HL := Lib.hid hS.out.low
      obtain ⟨kd, hkd⟩ : ∃ x, x = S.rs[i].kind := ⟨_, rfl⟩
      obtain ⟨nu, hnu⟩ : ∃ x, x = S.rs[i].num := ⟨_, rfl⟩
      obtain ⟨de, hde⟩ : ∃ x, x = S.rs[i].den := ⟨_, rfl⟩
      obtain ⟨lo, hlo⟩ : ∃ x, x = S.rs[i].low := ⟨_, rfl⟩
      obtain ⟨cn, hcn⟩ : ∃ x, x = S.rs[i].cnt := ⟨_, rfl⟩
      have HDV := Lib.hid (show rkE S.rs[i] = if 1 ≤ kd ∧ kd ≤ 4 ∧ FeetOk nu de then (if 1 ≤ cn ∧ cn ≤ 97 ∧ 0 ≤ lo ∧ lo + cn ≤ 128 then 0 else 7) else 2 by unfold rkE; rw [hkd, hnu, hde, hlo, hcn])
      have HEL := Lib.hid hS.out.el
      have y1 : wr.cell? ⟨w.heap.size + 1, 1, none⟩ = some (.int .i64 kd) := by rw [hkd]; exact HEL.out.cell 1
      have y2 : wr.cell? ⟨w.heap.size + 1, 2, none⟩ = some (.int .i64 nu) := by rw [hnu]; exact HEL.out.cell 2
      have y3 : wr.cell? ⟨w.heap.size + 1, 3, none⟩ = some (.int .i64 de) := by rw [hde]; exact HEL.out.cell 3
      have HY := Lib.hid (show ∀ W, Below wr.heap.size wr W → W.cell? ⟨w.heap.size + 1, 4, none⟩ = some (.int .i64 lo) ∧ W.cell? ⟨w.heap.size + 1, 5, none⟩ = some (.int .i64 cn) by
        intro W hW
        have k2 := HEL.out.below hW
        rw [hlo, hcn]
        exact ⟨k2.cell 4, k2.cell 5⟩)
      clear hkd hnu hde hlo hcn
      by_cases h1 : 1 ≤ kd ∧ kd ≤ 4
      · by_cases h2 : FeetOk nu de
        · have CV := Lib.hid (fun W => rvalid_is nu de true (decide_eq_true h2) W)
          obtain ⟨h1a, h1b⟩ := h1
          have HF := Lib.hid h2
          clear h2
          by_cases h3 : 1 ≤ cn ∧ cn ≤ 97
          · obtain ⟨h3a, h3b⟩ := h3
            by_cases h4 : 0 ≤ lo ∧ lo ≤ 127
            · have C1 := Lib.hid (fun W => rnote_is lo true (decide_eq_true h4) W)
              obtain ⟨h4a, h4b⟩ := h4
              by_cases h5 : 0 ≤ lo + cn - 1 ∧ lo + cn - 1 ≤ 127
              · have C2 := Lib.hid (fun W => rnote_is (lo + cn - 1) true (decide_eq_true h5) W)
                have HP := Lib.hid (show rkE S.rs[i] = 0 by rw [HDV.out, if_pos ⟨h1a, h1b, HF.out⟩, if_pos (by omega)])
                go_wp2_with (first | (go_at_call 51; with_reducible refine (CV.out _).mono ?_; rintro e w2 ⟨rfl, hb2⟩; have HL2 := below_step HL.out hb2; obtain ⟨z4, z5⟩ := HY.out _ hb2) | (go_at_call 50; with_reducible refine (C1.out _).mono ?_; rintro e w' ⟨rfl, rfl⟩) | (go_at_call 50; with_reducible refine (C2.out _).mono ?_; rintro e w' ⟨rfl, rfl⟩))
                go_ret
                exact ⟨by rw [HE.out, HP.out]; rfl, HL2⟩
              · have C2 := Lib.hid (fun W => rnote_is (lo + cn - 1) false (decide_eq_false h5) W)
                have HP := Lib.hid (show rkE S.rs[i] = 7 by rw [HDV.out, if_pos ⟨h1a, h1b, HF.out⟩, if_neg (by omega)])
                go_wp2_with (first | (go_at_call 51; with_reducible refine (CV.out _).mono ?_; rintro e w2 ⟨rfl, hb2⟩; have HL2 := below_step HL.out hb2; obtain ⟨z4, z5⟩ := HY.out _ hb2) | (go_at_call 50; with_reducible refine (C1.out _).mono ?_; rintro e w' ⟨rfl, rfl⟩) | (go_at_call 50; with_reducible refine (C2.out _).mono ?_; rintro e w' ⟨rfl, rfl⟩))
                go_ret
                exact ⟨by rw [HE.out, HP.out]; rfl, HL2⟩
            · have C1 := Lib.hid (fun W => rnote_is lo false (decide_eq_false h4) W)
              have HP := Lib.hid (show rkE S.rs[i] = 7 by rw [HDV.out, if_pos ⟨h1a, h1b, HF.out⟩, if_neg (by omega)])
              go_wp2_with (first | (go_at_call 51; with_reducible refine (CV.out _).mono ?_; rintro e w2 ⟨rfl, hb2⟩; have HL2 := below_step HL.out hb2; obtain ⟨z4, z5⟩ := HY.out _ hb2) | (go_at_call 50; with_reducible refine (C1.out _).mono ?_; rintro e w' ⟨rfl, rfl⟩) | (go_at_call 50; with_reducible refine (C2.out _).mono ?_; rintro e w' ⟨rfl, rfl⟩))
              go_ret
              exact ⟨by rw [HE.out, HP.out]; rfl, HL2⟩
          · have h3p := Lib.hid (show rkE S.rs[i] = 7 by rw [HDV.out, if_pos ⟨h1a, h1b, HF.out⟩, if_neg (by omega)])
            have h3' : cn < 1 ∨ 1 ≤ cn ∧ 97 < cn := by omega
            clear h3
            rcases h3' with h3 | ⟨h3, h3b⟩
            · have HP := h3p
              go_wp2_with (first | (go_at_call 51; with_reducible refine (CV.out _).mono ?_; rintro e w2 ⟨rfl, hb2⟩; have HL2 := below_step HL.out hb2; obtain ⟨z4, z5⟩ := HY.out _ hb2) | (go_at_call 50; with_reducible refine (CV.out _).mono ?_; rintro e w' ⟨rfl, rfl⟩) | (go_at_call 50; with_reducible refine (C2.out _).mono ?_; rintro e w' ⟨rfl, rfl⟩))
              go_ret
              exact ⟨by rw [HE.out, HP.out]; rfl, HL2⟩
            · have HP := h3p
              go_wp2_with (first | (go_at_call 51; with_reducible refine (CV.out _).mono ?_; rintro e w2 ⟨rfl, hb2⟩; have HL2 := below_step HL.out hb2; obtain ⟨z4, z5⟩ := HY.out _ hb2) | (go_at_call 50; with_reducible refine (CV.out _).mono ?_; rintro e w' ⟨rfl, rfl⟩) | (go_at_call 50; with_reducible refine (C2.out _).mono ?_; rintro e w' ⟨rfl, rfl⟩))
              go_ret
              exact ⟨by rw [HE.out, HP.out]; rfl, HL2⟩
        · have CV := Lib.hid (fun W => rvalid_is nu de false (decide_eq_false h2) W)
          obtain ⟨h1a, h1b⟩ := h1
          have HP := Lib.hid (show rkE S.rs[i] = 2 by rw [HDV.out, if_neg (fun h => h2 h.2.2)])
          clear h2
          go_wp2_with (first | (go_at_call 51; with_reducible refine (CV.out _).mono ?_; rintro e w2 ⟨rfl, hb2⟩; have HL2 := below_step HL.out hb2; obtain ⟨z4, z5⟩ := HY.out _ hb2) | (go_at_call 50; with_reducible refine (C1.out _).mono ?_; rintro e w' ⟨rfl, rfl⟩) | (go_at_call 50; with_reducible refine (C2.out _).mono ?_; rintro e w' ⟨rfl, rfl⟩))
          go_ret
          exact ⟨by rw [HE.out, HP.out]; rfl, HL2⟩
      · have HP := Lib.hid (show rkE S.rs[i] = 2 by rw [HDV.out, if_neg (fun h => h1 ⟨h.1, h.2.1⟩)])
        have h1' : kd < 1 ∨ 1 ≤ kd ∧ 4 < kd := by omega
        clear h1
        rcases h1' with h1 | ⟨h1, h1b⟩
        · go_wp2
          go_ret
          exact ⟨by rw [HE.out, HP.out]; rfl, HL.out⟩
        · go_wp2
          go_ret
          exact ⟨by rw [HE.out, HP.out]; rfl, HL.out⟩
end Go.Proofs.YtkddeliifadcoaaDoor
