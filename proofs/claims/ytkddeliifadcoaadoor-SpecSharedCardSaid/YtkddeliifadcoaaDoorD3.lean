/-
  CONTRACTS: the reference's stop.
-/
import Derived.Test.YtkddeliifadcoaaDoorD2
namespace Go.Proofs.YtkddeliifadcoaaDoor
open Go.RowKit
set_option maxRecDepth 100000 in
set_option maxHeartbeats 3200000 in
theorem rstop_any (v1 v2 v3 v4 : Value) (S : Sp) (ok : SpOk S) (i : Nat) (hi : i < S.ss.length) (f : Nat → Value) (w : World) (hsp : SpRd w v1 v2 v3 v4 f S) :
    Calls Tryd.prog 32 #[.agg #[v1, v2, v3, v4], .int .i64 i] w fun e w' => e = .returned (.int .i64 (errS S i)) ∧ Below w.heap.size w w' := by
  have hz := ok.sn _ (List.getElem_mem hi)
  have hl := ok.s
  have hpl := ok.sp _ (List.getElem_mem hi)
  obtain ⟨a1, c1, ev1⟩ := hsp.forms.1
  obtain ⟨b, o, c, ev, hlt, e0, e1, e2, e3, e4⟩ := hsp.sAt i hi
  obtain ⟨ap, cp, efp⟩ := (hsp.p i hi).form
  rw [List.length_map] at efp
  rw [efp] at e4
  have HSP := Lib.hid hsp
  subst ev1
  subst ev
  cases hnm : nameB (L S.ss[i].name) with
  | false =>
    have HE := Lib.hid (errS_form hi hnm)
    have CN := Lib.hid (fun W => rname_is S.ss[i].name false hnm W (by unfold maxLen; omega))
    clear hnm hz hl hpl efp
    go_enter Tryd.func32, Tryd.ntmps32
    go_wp2_with fail
    refine (CN.out _).mono ?_
    rintro e w' ⟨rfl, rfl⟩
    go_wp2
    go_ret
    exact ⟨by rw [HE.out]; rfl, ((Below.refl _ w).alloc (Nat.le_refl _) _).alloc (by simp) _⟩
  | true =>
    have HN := Lib.hid hnm
    have CN := Lib.hid (fun W => rname_is S.ss[i].name true hnm W (by unfold maxLen; omega))
    have hst0 := RSt.new w (.slice a1 S.ds.length c1) v2 (.slice (some ⟨b, o, none⟩) S.ss.length c) v4 61 #[.string S.ss[i].name, .int .i64 S.ss[i].div, .int .i64 S.ss[i].num, .int .i64 S.ss[i].den, .slice ap S.ss[i].parts.length cp]
    have HS0 := Lib.hid hst0
    have HPL := Lib.hid hpl
    clear hnm hz hst0 efp hpl
    by_cases hdv : 0 ≤ S.ss[i].div ∧ S.ss[i].div < (S.ds.length : Int)
    · have CI := Lib.hid (fun W => rindex_is S.ss[i].div S.ds.length true (decide_eq_true hdv) W)
      have HDV := Lib.hid hdv
      clear hdv
      go_enter Tryd.func32, Tryd.ntmps32
      go_wp2_with fail
      refine (CN.out _).mono ?_
      rintro e w' ⟨rfl, rfl⟩
      go_wp2_with (go_at_call 39; with_reducible refine (CI.out _).mono ?_; rintro e w' ⟨rfl, rfl⟩)
      go_loopw [6] (fun x wr => ∃ k : Nat, k ≤ i ∧ x = .int .i64 k ∧ RowKit.Hid (∀ j (hj : j < k) (h : j < S.ss.length), S.ss[j].div = S.ss[i].div → L S.ss[j].name ≠ L S.ss[i].name) ∧ RowKit.Hid (RSt w (.slice a1 S.ds.length c1) v2 (.slice (some ⟨b, o, none⟩) S.ss.length c) v4 61 #[.string S.ss[i].name, .int .i64 S.ss[i].div, .int .i64 S.ss[i].num, .int .i64 S.ss[i].den, .slice ap S.ss[i].parts.length cp] wr)) (fun x _ => i - (intOf x).toNat)
      case atStart => exact ⟨0, by omega, rfl, Lib.hid (fun j hj => by omega), HS0⟩
      obtain ⟨k, hk, rfl, hE, hS⟩ := hrel
      obtain ⟨s0, s1, s2, s3⟩ := hS.out.spec.four
      have y0 := hS.out.el.cell 0
      have y1 := hS.out.el.cell 1
      by_cases hlt2 : k < i
      · obtain ⟨b', o', c', ev', hbl, d0, d1, _, _, _⟩ := (HSP.out.later hS.out.low).sAt k (by omega)
        cases ev'
        have hk2 : ((k : Int) < i) := by omega
        by_cases hqd : S.ss[k].div = S.ss[i].div
        · have HBD : (S.ss[k].div == S.ss[i].div) = true := beq_iff_eq.2 hqd
          by_cases hq : L S.ss[k].name = L S.ss[i].name
          · have HE := Lib.hid (errS_twice hi HN.out HDV.out hlt2 hq hqd)
            have HB := Lib.hid (beq_L hq)
            clear hq
            go_wp2_with fail
            go_quiet (fail)
            rw [HB.out]
            go_wp2
            go_ret
            exact ⟨by rw [HE.out]; rfl, (hS.out.drawn nq).low⟩
          · have hne := Lib.hid hq
            have HB := Lib.hid (bne_L hq)
            clear hq
            go_wp2_with fail
            go_quiet (fail)
            rw [HB.out]
            go_wp2
            go_roundw
            case rel => exact ⟨k + 1, by omega, by go_num, Lib.hid (fun j hj h => by rcases Nat.lt_succ_iff_lt_or_eq.1 hj with h' | h'; exact hE.out j h' h; subst h'; exact fun _ => hne.out), Lib.hid (hS.out.drawn nq)⟩
            case measure => simp [intOf]; omega
        · have HBD : (S.ss[k].div == S.ss[i].div) = false := beq_eq_false_iff_ne.2 hqd
          have hne := Lib.hid hqd
          clear hqd
          go_wp2_with fail
          go_quiet (fail)
          go_wp2
          go_roundw
          case rel => exact ⟨k + 1, by omega, by go_num, Lib.hid (fun j hj h => by rcases Nat.lt_succ_iff_lt_or_eq.1 hj with h' | h'; exact hE.out j h' h; subst h'; exact fun e => absurd e hne.out), Lib.hid (hS.out.drawn nq)⟩
          case measure => simp [intOf]; omega
      · have hke : k = i := by omega
        have HE := Lib.hid (errS_next hi HN.out HDV.out (fun j hj => hE.out j (by omega) (by omega)))
        have hk2 : ¬ ((k : Int) < i) := by omega
        have HL := Lib.hid hS.out.low
        have HEL := Lib.hid hS.out.el
        obtain ⟨nu, hnu⟩ : ∃ x, x = S.ss[i].num := ⟨_, rfl⟩
        obtain ⟨de, hde⟩ : ∃ x, x = S.ss[i].den := ⟨_, rfl⟩
        obtain ⟨np, hnp⟩ : ∃ x, x = S.ss[i].parts.length := ⟨_, rfl⟩
        have HSE := Lib.hid (show stE S.ss[i] = if FeetOk nu de ∧ 0 < np then (if np ≤ 12 then 0 else 3) else 2 by unfold stE; rw [hnu, hde, hnp])
        have y2 : wr.cell? ⟨w.heap.size + 1, 2, none⟩ = some (.int .i64 nu) := by rw [hnu]; exact HEL.out.cell 2
        have y3 : wr.cell? ⟨w.heap.size + 1, 3, none⟩ = some (.int .i64 de) := by rw [hde]; exact HEL.out.cell 3
        have HY := Lib.hid (show ∀ W, Below wr.heap.size wr W → W.cell? ⟨w.heap.size + 1, 4, none⟩ = some (.slice ap np cp) by
          intro W hW
          have k2 := HEL.out.below hW
          rw [hnp]
          exact k2.cell 4)
        have hnl : np ≤ 1000 := by rw [hnp]; exact HPL.out
        clear hnu hde hnp
        by_cases h1 : FeetOk nu de
        · have CV := Lib.hid (fun W => rvalid_is nu de true (decide_eq_true h1) W)
          have HF := Lib.hid h1
          clear h1
          by_cases h2 : 0 < np
          · by_cases h3 : np ≤ 12
            · have HP := Lib.hid (show stE S.ss[i] = 0 by rw [HSE.out, if_pos ⟨HF.out, h2⟩, if_pos h3])
              have h2' : ¬ ((np : Int) = 0) := by omega
              have h3' : ¬ (12 < (np : Int)) := by omega
              go_wp2_with (go_at_call 51; with_reducible refine (CV.out _).mono ?_; rintro e w2 ⟨rfl, hb2⟩; have HL2 := below_step HL.out hb2; have z4 := HY.out _ hb2)
              go_ret
              exact ⟨by rw [HE.out, HP.out]; rfl, HL2⟩
            · have HP := Lib.hid (show stE S.ss[i] = 3 by rw [HSE.out, if_pos ⟨HF.out, h2⟩, if_neg h3])
              have h2' : ¬ ((np : Int) = 0) := by omega
              have h3' : 12 < (np : Int) := by omega
              go_wp2_with (go_at_call 51; with_reducible refine (CV.out _).mono ?_; rintro e w2 ⟨rfl, hb2⟩; have HL2 := below_step HL.out hb2; have z4 := HY.out _ hb2)
              go_ret
              exact ⟨by rw [HE.out, HP.out]; rfl, HL2⟩
          · have HP := Lib.hid (show stE S.ss[i] = 2 by rw [HSE.out, if_neg (fun h => h2 h.2)])
            have h2' : (np : Int) = 0 := by omega
            go_wp2_with (go_at_call 51; with_reducible refine (CV.out _).mono ?_; rintro e w2 ⟨rfl, hb2⟩; have HL2 := below_step HL.out hb2; have z4 := HY.out _ hb2)
            go_ret
            exact ⟨by rw [HE.out, HP.out]; rfl, HL2⟩
        · have CV := Lib.hid (fun W => rvalid_is nu de false (decide_eq_false h1) W)
          have HP := Lib.hid (show stE S.ss[i] = 2 by rw [HSE.out, if_neg (fun h => h1 h.1)])
          clear h1
          go_wp2_with (go_at_call 51; with_reducible refine (CV.out _).mono ?_; rintro e w2 ⟨rfl, hb2⟩; have HL2 := below_step HL.out hb2; have z4 := HY.out _ hb2)
          go_ret
          exact ⟨by rw [HE.out, HP.out]; rfl, HL2⟩
    · have CI := Lib.hid (fun W => rindex_is S.ss[i].div S.ds.length false (decide_eq_false hdv) W)
      have HE := Lib.hid (errS_none hi HN.out hdv)
      clear hdv
      go_enter Tryd.func32, Tryd.ntmps32
      go_wp2_with fail
      refine (CN.out _).mono ?_
      rintro e w' ⟨rfl, rfl⟩
      go_wp2_with (go_at_call 39; with_reducible refine (CI.out _).mono ?_; rintro e w' ⟨rfl, rfl⟩)
      go_ret
      exact ⟨by rw [HE.out]; rfl, HS0.out.low⟩
end Go.Proofs.YtkddeliifadcoaaDoor
