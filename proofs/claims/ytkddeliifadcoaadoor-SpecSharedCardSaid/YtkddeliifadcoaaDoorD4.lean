/-
  CONTRACTS: the reference's coupler.
-/
import Derived.Test.YtkddeliifadcoaaDoorD2
namespace Go.Proofs.YtkddeliifadcoaaDoor
open Go.RowKit
set_option maxRecDepth 100000 in
set_option maxHeartbeats 6400000 in
theorem rcoupler_any (v1 v2 v3 v4 : Value) (S : Sp) (ok : SpOk S) (i : Nat) (hi : i < S.cs.length) (f : Nat → Value) (w : World) (hsp : SpRd w v1 v2 v3 v4 f S) :
    Calls Tryd.prog 34 #[.agg #[v1, v2, v3, v4], .int .i64 i] w fun e w' => e = .returned (.int .i64 (errC S i)) ∧ Below w.heap.size w w' := by
  have hz := ok.cn _ (List.getElem_mem hi)
  have hl := ok.c
  obtain ⟨a1, c1, ev1⟩ := hsp.forms.1
  obtain ⟨b, o, c, ev, hlt, e0, e1, e2, e3, e4, e5⟩ := hsp.cAt i hi
  have HSP := Lib.hid hsp
  subst ev1
  subst ev
  cases hnm : nameB (L S.cs[i].name) with
  | false =>
    have HE := Lib.hid (errC_form hi hnm)
    have CN := Lib.hid (fun W => rname_is S.cs[i].name false hnm W (by unfold maxLen; omega))
    clear hnm hz hl
    go_enter Tryd.func34, Tryd.ntmps34
    go_wp2_with fail
    refine (CN.out _).mono ?_
    rintro e w' ⟨rfl, rfl⟩
    go_wp2
    go_ret
    exact ⟨by rw [HE.out]; rfl, ((Below.refl _ w).alloc (Nat.le_refl _) _).alloc (by simp) _⟩
  | true =>
    have HN := Lib.hid hnm
    have CN := Lib.hid (fun W => rname_is S.cs[i].name true hnm W (by unfold maxLen; omega))
    have hst0 := RSt.new w (.slice a1 S.ds.length c1) v2 v3 (.slice (some ⟨b, o, none⟩) S.cs.length c) 63 #[.string S.cs[i].name, .int .i64 S.cs[i].frm, .int .i64 S.cs[i].to, .int .i64 S.cs[i].shift, .int .i64 S.cs[i].only, .bool S.cs[i].thr]
    have HS0 := Lib.hid hst0
    clear hnm hz hst0
    go_enter Tryd.func34, Tryd.ntmps34
    go_wp2_with fail
    refine (CN.out _).mono ?_
    rintro e w' ⟨rfl, rfl⟩
    go_wp2
    go_loopw [6] (fun x wr => ∃ k : Nat, k ≤ i ∧ x = .int .i64 k ∧ RowKit.Hid (∀ j (hj : j < k) (h : j < S.cs.length), L S.cs[j].name ≠ L S.cs[i].name) ∧ RowKit.Hid (RSt w (.slice a1 S.ds.length c1) v2 v3 (.slice (some ⟨b, o, none⟩) S.cs.length c) 63 #[.string S.cs[i].name, .int .i64 S.cs[i].frm, .int .i64 S.cs[i].to, .int .i64 S.cs[i].shift, .int .i64 S.cs[i].only, .bool S.cs[i].thr] wr)) (fun x _ => i - (intOf x).toNat)
    case atStart => exact ⟨0, by omega, rfl, Lib.hid (fun j hj => by omega), HS0⟩
    obtain ⟨k, hk, rfl, hE, hS⟩ := hrel
    obtain ⟨s0, s1, s2, s3⟩ := hS.out.spec.four
    have y0 := hS.out.el.cell 0
    by_cases hlt2 : k < i
    · obtain ⟨b', o', c', ev', hbl, d0, _, _, _, _, _⟩ := (HSP.out.later hS.out.low).cAt k (by omega)
      cases ev'
      have hk2 : ((k : Int) < i) := by omega
      by_cases hq : L S.cs[k].name = L S.cs[i].name
      · have HE := Lib.hid (errC_twice hi HN.out hlt2 hq)
        have HB := Lib.hid (beq_L hq)
        clear hq
        go_wp2_with fail
        go_quiet (fail)
        rw [HB.out]
        go_wp2
        go_ret
        exact ⟨by rw [HE.out]; rfl, (hS.out.drawn nq).low⟩
      · have hne := Lib.hid hq
        have HB := Lib.hid (bne_L hq)
        clear hq
        go_wp2_with fail
        go_quiet (fail)
        rw [HB.out]
        go_wp2
        go_roundw
        case rel => exact ⟨k + 1, by omega, by go_num, Lib.hid (fun j hj h => by rcases Nat.lt_succ_iff_lt_or_eq.1 hj with h' | h'; exact hE.out j h' h; subst h'; exact hne.out), Lib.hid (hS.out.drawn nq)⟩
        case measure => simp [intOf]; omega
    · have hke : k = i := by omega
      have HE := Lib.hid (errC_next hi HN.out (fun j hj => hE.out j (by omega) (by omega)))
      have hk2 : ¬ ((k : Int) < i) := by omega
      have HL := Lib.hid hS.out.low
      have HEL := Lib.hid hS.out.el
      obtain ⟨fr, hfr⟩ : ∃ x, x = S.cs[i].frm := ⟨_, rfl⟩
      obtain ⟨to, hto⟩ : ∃ x, x = S.cs[i].to := ⟨_, rfl⟩
      obtain ⟨sh, hsh⟩ : ∃ x, x = S.cs[i].shift := ⟨_, rfl⟩
      obtain ⟨on, hon⟩ : ∃ x, x = S.cs[i].only := ⟨_, rfl⟩
      obtain ⟨th, hth⟩ : ∃ x, x = S.cs[i].thr := ⟨_, rfl⟩
      have HCE := Lib.hid (show cpE S S.cs[i] = if 0 ≤ fr ∧ fr < S.ds.length ∧ 0 ≤ to ∧ to < S.ds.length then (if (sh = -12 ∨ sh = 12 ∨ sh = 0 ∧ fr ≠ to) ∧ 0 ≤ on ∧ on ≤ 2 ∧ ¬ (th = true ∧ on ≠ 0) then 0 else 2) else 4 by unfold cpE; rw [hfr, hto, hsh, hon, hth])
      have y1 : wr.cell? ⟨w.heap.size + 1, 1, none⟩ = some (.int .i64 fr) := by rw [hfr]; exact HEL.out.cell 1
      have y2 : wr.cell? ⟨w.heap.size + 1, 2, none⟩ = some (.int .i64 to) := by rw [hto]; exact HEL.out.cell 2
      have y3 : wr.cell? ⟨w.heap.size + 1, 3, none⟩ = some (.int .i64 sh) := by rw [hsh]; exact HEL.out.cell 3
      have y4 : wr.cell? ⟨w.heap.size + 1, 4, none⟩ = some (.int .i64 on) := by rw [hon]; exact HEL.out.cell 4
      have y5 : wr.cell? ⟨w.heap.size + 1, 5, none⟩ = some (.bool th) := by rw [hth]; exact HEL.out.cell 5
      clear hfr hto hsh hon hth
      by_cases h1 : 0 ≤ fr ∧ fr < (S.ds.length : Int)
      · have C1 := Lib.hid (fun W => rindex_is fr S.ds.length true (decide_eq_true h1) W)
        by_cases h2 : 0 ≤ to ∧ to < (S.ds.length : Int)
        · have C2 := Lib.hid (fun W => rindex_is to S.ds.length true (decide_eq_true h2) W)
          have HC2 := Lib.hid (show cpE S S.cs[i] = if (sh = -12 ∨ sh = 12 ∨ sh = 0 ∧ fr ≠ to) ∧ 0 ≤ on ∧ on ≤ 2 ∧ ¬ (th = true ∧ on ≠ 0) then 0 else 2 by rw [HCE.out, if_pos ⟨h1.1, h1.2, h2.1, h2.2⟩])
          clear h1 h2
          rcases (show th = true ∨ th = false by cases th <;> simp) with ht | ht
          all_goals
            go_wp2_with (first | (go_at_call 39; with_reducible refine (C1.out _).mono ?_; rintro e w' ⟨rfl, rfl⟩) | (go_at_call 39; with_reducible refine (C2.out _).mono ?_; rintro e w' ⟨rfl, rfl⟩))
            all_goals first
              | (go_ret; exact ⟨by rw [HE.out, HC2.out, if_pos ⟨by omega, by omega, by omega, fun h => by first | omega | (rw [ht] at h; exact absurd h.1 (by decide))⟩]; rfl, HL.out⟩)
              | (go_ret; exact ⟨by rw [HE.out, HC2.out, if_neg (fun h => by obtain ⟨q1, q2, q3, q4⟩ := h; first | omega | exact q4 ⟨ht, by omega⟩)]; rfl, HL.out⟩)
              | fail
        · have C2 := Lib.hid (fun W => rindex_is to S.ds.length false (decide_eq_false h2) W)
          have HP0 := Lib.hid (show cpE S S.cs[i] = 4 by rw [HCE.out, if_neg (fun h => h2 ⟨h.2.2.1, h.2.2.2⟩)])
          clear h1 h2
          have HP := HP0
          go_wp2_with (first | (go_at_call 39; with_reducible refine (C1.out _).mono ?_; rintro e w' ⟨rfl, rfl⟩) | (go_at_call 39; with_reducible refine (C2.out _).mono ?_; rintro e w' ⟨rfl, rfl⟩))
          go_ret
          exact ⟨by rw [HE.out, HP.out]; rfl, HL.out⟩
      · have C1 := Lib.hid (fun W => rindex_is fr S.ds.length false (decide_eq_false h1) W)
        have HP0 := Lib.hid (show cpE S S.cs[i] = 4 by rw [HCE.out, if_neg (fun h => h1 ⟨h.1, h.2.1⟩)])
        clear h1
        have HP := HP0
        go_wp2_with (first | (go_at_call 39; with_reducible refine (C1.out _).mono ?_; rintro e w' ⟨rfl, rfl⟩) | (go_at_call 39; with_reducible refine (C2.out _).mono ?_; rintro e w' ⟨rfl, rfl⟩))
        go_ret
        exact ⟨by rw [HE.out, HP.out]; rfl, HL.out⟩
end Go.Proofs.YtkddeliifadcoaaDoor
