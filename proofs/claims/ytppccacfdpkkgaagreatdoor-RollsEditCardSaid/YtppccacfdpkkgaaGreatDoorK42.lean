/-
  CONTRACTS: load, and how much room its rows have.
-/
import Derived.Test.YtppccacfdpkkgaaGreatDoorK4

namespace Go.Proofs.YtppccacfdpkkgaaGreatDoor
open Go.RowKit
/-- How load ends; its rows have no room. -/
def LdEndsC (R : Ro) (g : Bool) (w : World) (e : Ending) (w' : World) : Prop :=
  Below w.heap.size w w' ∧ ((rollErr R g ≠ 0 ∧ e = .returned (.tuple #[.pointer none, .int .i64 (rollErr R g)])) ∨
    (rollErr R g = 0 ∧ ∃ P G qs, e = .returned (.tuple #[.pointer (some ⟨P, 0, none⟩), .int .i64 0]) ∧ PapB w' w.heap.size P R.tracks G R.rows.length qs ∧ QsOf qs R))
theorem ldEndsC_err {R : Ro} {g : Bool} {w w' : World} {n : Int} (hb : Below w.heap.size w w') (he : rollErr R g = n) (h0 : n ≠ 0) : LdEndsC R g w (.returned (.tuple #[.pointer none, .int .i64 n])) w' :=
  ⟨hb, .inl ⟨by rw [he]; exact h0, by rw [he]⟩⟩
theorem ldEndsC_ok {R : Ro} {g : Bool} {v : Value} {w wr : World} {i k : Nat} {qs : List Rw} (ht : ¬ (R.tracks < 2 ∨ R.tracks > 128)) (hl : R.rows.length ≤ 20000) (h : LdInv R g v w wr i k qs) (hi : i = R.rows.length) : LdEndsC R g w (.returned (.tuple #[.pointer (some ⟨w.heap.size + 1 + 1, 0, none⟩), .int .i64 0])) wr := by
  subst hi
  exact ⟨h.b, .inr ⟨rollErr_good ht hl fun j hj => h.err j hj hj, _, _, qs, rfl, h.pap, h.len, fun j hj hr => h.done j hj hr hr⟩⟩
set_option maxRecDepth 100000 in
set_option maxHeartbeats 6400000 in
theorem load_cap (R : Ro) (g : Bool) (hok : RoOk R) (v : Value) (f : Nat → Value) (w : World) (hr : RoRd w v f R) :
    Calls Tryz.prog 44 #[.agg #[.int .i64 R.tracks, v], .bool g] w (LdEndsC R g w) := by
  obtain ⟨av, cv, rfl⟩ := hr.form
  have HR := Lib.hid hr
  have HO := Lib.hid hok
  clear hr hok
  have hbx : Below w.heap.size w (w.alloc (.cells #[.int .i64 R.tracks, .slice av R.rows.length cv] 36)) := (Below.refl _ _).alloc (Nat.le_refl _) _
  by_cases h1 : R.tracks < 2
  · have HE := Lib.hid (ldEndsC_err (g := g) hbx (rollErr_tr (.inl h1)) (by decide))
    clear hbx
    go_enter Tryz.func44, Tryz.ntmps44
    go_wp2
    go_ret2
    exact HE.out
  · by_cases h2 : 128 < R.tracks
    · have HE := Lib.hid (ldEndsC_err (g := g) hbx (rollErr_tr (.inr h2)) (by decide))
      have h1' : 2 ≤ R.tracks := by omega
      clear hbx h1
      go_enter Tryz.func44, Tryz.ntmps44
      go_wp2
      go_ret2
      exact HE.out
    · have h1' : 2 ≤ R.tracks := by omega
      have h2' : R.tracks ≤ 128 := by omega
      have HT : RowKit.Hid (¬ (R.tracks < 2 ∨ R.tracks > 128)) := Lib.hid (by omega)
      clear h1 h2
      by_cases h3 : 20000 < R.rows.length
      · have HE := Lib.hid (ldEndsC_err (g := g) hbx (rollErr_long HT.out h3) (by decide))
        have h3' : decide ((20000 : Int) < (R.rows.length : Int)) = true := by rw [decide_eq_true_iff]; omega
        clear hbx h3
        go_enter Tryz.func44, Tryz.ntmps44
        go_wp2
        go_ret2
        exact HE.out
      · have h3' : decide ((20000 : Int) < (R.rows.length : Int)) = false := by rw [decide_eq_false_iff_not]; omega
        have HL : RowKit.Hid (R.rows.length ≤ 20000) := Lib.hid (by omega)
        have hmk := make_rows R.rows.length (by omega)
        clear hbx h3
        go_enter Tryz.func44, Tryz.ntmps44
        go_wp2
        go_region
        all_goals go_wp2
        clear hmk
        go_loopw [36] (fun x wr => ∃ (i : Nat) (qs : List Rw), i ≤ R.rows.length ∧ x = .int .i64 i ∧ RowKit.Hid (LdInv R g (.slice av R.rows.length cv) w wr i 0 qs)) (fun x _ => R.rows.length - (intOf x).toNat)
        case atStart => exact ⟨0, List.replicate R.rows.length rw0, by omega, rfl, Lib.hid (ldInv_start R g av cv w HL.out)⟩
        obtain ⟨i, qs, hi, rfl, hI⟩ := hrel
        by_cases hlt : i < R.rows.length
        · obtain ⟨b, o, c, a2, c2, ev, hbl, hc0, hrow⟩ := HR.out.at i hlt
          have hc := (hI.out.b.cell (p := ⟨b, o + i, none⟩) hbl).trans hc0
          clear hc0
          cases ev
          obtain ⟨l, hl⟩ : ∃ l, R.rows[i] = l := ⟨_, rfl⟩
          rw [hl] at hc hrow
          have HLL := Lib.hid hl
          have HROW := Lib.hid hrow
          have hll : l.length ≤ 1000 := HO.out.row HL.out l (by rw [← hl]; exact List.getElem_mem hlt)
          have hi2 : (i : Int) < (R.rows.length : Int) := by omega
          have x0 := hI.out.x.cell 0
          have x1 := hI.out.x.cell 1
          clear hl hrow
          go_wp2
          clear x0 x1 hc
          go_loopw [43] (fun x wi => ∃ (k : Nat) (qs : List Rw), k ≤ l.length ∧ x = .int .i64 k ∧ RowKit.Hid (LdInv R g (.slice (some ⟨b, o, none⟩) R.rows.length cv) w wi i k qs)) (fun x _ => l.length - (intOf x).toNat)
          case atStart => exact ⟨0, qs, by omega, rfl, hI⟩
          clear hI
          obtain ⟨k, qs, hk, rfl, hI⟩ := hrel
          have x0 := hI.out.x.cell 0
          have hB := hI.out.b
          have HB := Lib.hid hB
          have hqi : i < qs.length := by rw [hI.out.len]; exact hlt
          have HQI := Lib.hid hqi
          by_cases hlk : k < l.length
          · have hk2 : (k : Int) < (l.length : Int) := by omega
            obtain ⟨lb, lo, lc, el, hlb, hcl0⟩ := HROW.out.intAt k hlk
            have hcl := (hB.cell (p := ⟨lb, lo + k, none⟩) hlb).trans hcl0
            cases el
            obtain ⟨x, hx⟩ : ∃ x, l[k] = x := ⟨_, rfl⟩
            rw [hx] at hcl
            have HX := Lib.hid hx
            have HLK := Lib.hid hlk
            clear hcl0 hx hB hqi
            by_cases hx0 : x < 0
            · have HE := Lib.hid (ldEndsC_err (g := g) HB.out (hI.out.bad HT.out HL.out hlt HLL.out HLK.out (numErr_lo HLK.out (by rw [HX.out]; exact .inl hx0)) (by decide)) (by decide))
              clear hI
              go_wp2
              go_ret2
              exact HE.out
            · have hx1 : 0 ≤ x := by omega
              clear hx0
              by_cases hxt : R.tracks ≤ x
              · have HE := Lib.hid (ldEndsC_err (g := g) HB.out (hI.out.bad HT.out HL.out hlt HLL.out HLK.out (numErr_lo HLK.out (by rw [HX.out]; exact .inr hxt)) (by decide)) (by decide))
                clear hI
                go_wp2
                go_ret2
                exact HE.out
              · have hx2 : x < R.tracks := by omega
                have hx3 : decide (R.tracks ≤ x) = false := by rw [decide_eq_false_iff_not]; exact hxt
                have HXT : RowKit.Hid (¬ (l[k]'(HLK.out) < 0 ∨ l[k]'(HLK.out) ≥ R.tracks)) := by rw [HX.out]; exact Lib.hid (by omega)
                clear hxt
                have hP0 := hI.out.pap.p.cell 0
                have hP1 := hI.out.pap.p.cell 1
                have hqi := HQI.out
                rw [hI.out.len] at hP1
                by_cases hk0 : 0 < k
                · obtain ⟨lb', lo', lc', el', hlb', hcl0⟩ := HROW.out.intAt (k - 1) (by omega)
                  have hcl1 := (HB.out.cell (p := ⟨lb', lo' + (k - 1), none⟩) hlb').trans hcl0
                  cases el'
                  have hk1 : (1 : Int) ≤ (k : Int) := by omega
                  have ek : ((k : Int) - 1).toNat = k - 1 := by omega
                  have hk3 : k - 1 < l.length := by omega
                  have hk4 : (k : Int) - 1 < (l.length : Int) := by omega
                  obtain ⟨y, hy⟩ : ∃ y, l[k - 1] = y := ⟨_, rfl⟩
                  rw [hy] at hcl1
                  have HY := Lib.hid hy
                  clear hcl0 hy
                  by_cases hxy : x ≤ y
                  · have HE := Lib.hid (ldEndsC_err (g := g) HB.out (hI.out.bad HT.out HL.out hlt HLL.out HLK.out (numErr_twice HLK.out HXT.out hk0 hk3 (by rw [HX.out, HY.out]; exact hxy)) (by decide)) (by decide))
                    clear hI hqi
                    go_wp2
                    go_ret2
                    exact HE.out
                  · have hxy' : decide (x ≤ y) = false := by rw [decide_eq_false_iff_not]; exact hxy
                    have HN := Lib.hid (numErr_good HLK.out HXT.out hk3 (fun _ => by rw [HX.out, HY.out]; omega))
                    clear hxy
                    go_wp2_with (go_at_call 37; refine (put_row hI.out.pap.r hqi (hI.out.pap.ok _ (List.getElem_mem hqi)) x hx1 (by omega) true).mono ?_; rintro e w' ⟨rfl, hr1, hg1, hs1⟩; have HI2 := Lib.hid (hI.out.put hlt HLL.out HLK.out HX.out hx1 hx2 h2' HN.out hqi hr1 hg1); clear hr1 hg1 hs1)
                    go_roundw
                    case rel => exact ⟨k + 1, _, by omega, by go_num, HI2⟩
                    case measure => simp [intOf]; omega
                · have HN := Lib.hid (numErr_good HLK.out HXT.out (show k - 1 < l.length by omega) (fun h => absurd h hk0))
                  go_wp2_with (go_at_call 37; refine (put_row hI.out.pap.r hqi (hI.out.pap.ok _ (List.getElem_mem hqi)) x hx1 (by omega) true).mono ?_; rintro e w' ⟨rfl, hr1, hg1, hs1⟩; have HI2 := Lib.hid (hI.out.put hlt HLL.out HLK.out HX.out hx1 hx2 h2' HN.out hqi hr1 hg1); clear hr1 hg1 hs1)
                  go_roundw
                  case rel => exact ⟨k + 1, _, by omega, by go_num, HI2⟩
                  case measure => simp [intOf]; omega
          · have hke : k = l.length := by omega
            have hk2 : ¬ ((k : Int) < (l.length : Int)) := by omega
            have hke2 : R.rows[i].length = l.length := by rw [HLL.out]
            have HNOW := Lib.hid (hI.out.full hlt hqi (by rw [hke, hke2]))
            have HF := Lib.hid (hI.out.fullErr hlt (by rw [hke, hke2]))
            have HLT := Lib.hid hlt
            have hP0 := hI.out.pap.p.cell 0
            have hP1 := hI.out.pap.p.cell 1
            rw [hI.out.len] at hP1
            obtain ⟨c0, c1⟩ := rwB_cells hI.out.pap.r hqi
            have HRO := Lib.hid (hI.out.pap.ok _ (List.getElem_mem hqi))
            have hlb2 := HL.out
            clear hB hke hke2 hlk
            cases g with
            | false =>
              have HI2 := Lib.hid (hI.out.next hqi HLT.out HNOW.out (rowErr_good HF.out (fun h => by cases h)))
              go_wp2
              go_roundw
              case rel => exact ⟨i + 1, qs, by omega, by go_num, HI2⟩
              case measure => simp [intOf]; omega
            | true =>
              obtain ⟨bb, hbb⟩ : ∃ bb, hasB qs[i] 0 = bb := ⟨_, rfl⟩
              have hbb2 : bb = decide ((0 : Int) ∈ R.rows[i]) := hbb.symm.trans (hasB_zero HNOW.out)
              have HBB := Lib.hid hbb
              clear hbb
              cases bb with
              | false =>
                have h0 : (0 : Int) ∉ R.rows[i] := of_decide_eq_false hbb2.symm
                have HE := Lib.hid (rollErr_row HT.out HL.out HLT.out hI.out.err (rowErr_guide HF.out h0) (by decide))
                clear hbb2 h0 hI
                go_wp2_with (go_at_call 64; refine (has_any qs[i] HRO.out 0 false HBB.out _).mono ?_; rintro e w' ⟨rfl, hb2⟩; have HB2 := Lib.hid (HB.out.trans (hb2.mono HB.out.size)); clear hb2)
                go_ret2
                exact ldEndsC_err HB2.out HE.out (by decide)
              | true =>
                have h0 : (0 : Int) ∈ R.rows[i] := of_decide_eq_true hbb2.symm
                have HI2 := Lib.hid (hI.out.next hqi HLT.out HNOW.out (rowErr_good HF.out (fun _ => h0)))
                clear hbb2 h0 hI
                go_wp2_with (go_at_call 64; refine (has_any qs[i] HRO.out 0 true HBB.out _).mono ?_; rintro e w' ⟨rfl, hb2⟩; have HI3 := Lib.hid (HI2.out.below hb2); clear hb2)
                go_roundw
                case rel => exact ⟨i + 1, qs, by omega, by go_num, HI3⟩
                case measure => simp [intOf]; omega
        · have hie : i = R.rows.length := by omega
          have hi2 : ¬ ((i : Int) < (R.rows.length : Int)) := by omega
          have HE := Lib.hid (ldEndsC_ok HT.out HL.out hI.out hie)
          clear hie hI
          go_wp2
          go_ret2
          exact HE.out
end Go.Proofs.YtppccacfdpkkgaaGreatDoor
