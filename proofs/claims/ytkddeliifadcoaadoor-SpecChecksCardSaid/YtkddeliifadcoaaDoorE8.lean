/-
  CONTRACTS: Compact of pipes: the walk.
-/
import Derived.Test.YtkddeliifadcoaaDoorE7
import Derived.Deep.QuietTactic
import Derived.BigQuiet
namespace Go.Proofs.YtkddeliifadcoaaDoor
open Go.RowKit
theorem run_eqPp (a b c d : Int) (w : World) : (binOp .eql 46 (.agg #[.int .i64 a, .int .i64 b]) (.agg #[.int .i64 c, .int .i64 d])).run Tryd.prog w = .ok (.bool (a == c && b == d)) w := by
  rw [run_eql_struct]
  rw [run_equalIn_agg w 9999 46 _ _ (by kernel_rfl) (by kernel_rfl)]
  simp only [Program.fieldsOf, Tryd.underlying46]
  simp [go_sem, Tryd.underlying3, part]
  by_cases h1 : a = c <;> by_cases h2 : b = d <;> simp [h1, h2]
theorem run_nePp (a b c d : Int) (w : World) : (binOp .neq 46 (.agg #[.int .i64 a, .int .i64 b]) (.agg #[.int .i64 c, .int .i64 d])).run Tryd.prog w = .ok (.bool (!(a == c && b == d))) w := by
  rw [run_neq_struct]
  rw [run_equalIn_agg w 9999 46 _ _ (by kernel_rfl) (by kernel_rfl)]
  simp only [Program.fieldsOf, Tryd.underlying46]
  simp [go_sem, Tryd.underlying3, part]
  by_cases h1 : a = c <;> by_cases h2 : b = d <;> simp [h1, h2]
theorem pp_eq (p q : Pp) : (p.1 == q.1 && p.2 == q.2) = decide (p = q) := by
  rw [Bool.eq_iff_iff]
  simp [Prod.ext_iff]
theorem eqPp {p q : Pp} {b : Bool} (h : decide (p = q) = b) (w : World) : (binOp .eql 46 (.agg #[.int .i64 p.1, .int .i64 p.2]) (.agg #[.int .i64 q.1, .int .i64 q.2])).run Tryd.prog w = .ok (.bool b) w := by rw [run_eqPp, pp_eq, h]
theorem nePp {p q : Pp} {b : Bool} (h : decide (p = q) = b) (w : World) : (binOp .neq 46 (.agg #[.int .i64 p.1, .int .i64 p.2]) (.agg #[.int .i64 q.1, .int .i64 q.2])).run Tryd.prog w = .ok (.bool (!b)) w := by rw [run_nePp, pp_eq, h]
theorem squeeze_short {l : List Pp} (h : l.length < 2) : squeeze l = l := by
  match l, h with
  | [], _ => rfl
  | [a], _ => rfl
/-- How Compact ends. -/
def CoEnds (l : List Pp) (base : Nat) (v : Value) (w : World) (e : Ending) (w' : World) : Prop := ∃ u, e = .returned u ∧ w'.ownsRow base 46 2 u (squeeze l).length (ppCs (squeeze l)) ∧ w.grownBy w' v.ownBlock
theorem coEnds_some {l : List Pp} {base : Nat} {v u : Value} {w w' : World} (ho : w'.ownsRow base 46 2 u (squeeze l).length (ppCs (squeeze l))) (hg : w.grownBy w' v.ownBlock) : CoEnds l base v w (.returned u) w' := ⟨u, rfl, ho, hg⟩
set_option maxRecDepth 100000 in
set_option maxHeartbeats 3200000 in
theorem compact_any (l : List Pp) (hn : l.length ≤ 100000) (base : Nat) (v : Value) (w : World) (h : w.ownsRow base 46 2 v l.length (ppCs l)) :
    Calls Tryd.prog 38 #[v] w (CoEnds l base v w) := by
  by_cases h2 : l.length < 2
  · have HS := Lib.hid (squeeze_short h2)
    have HO := Lib.hid h
    obtain ⟨a, c, hv⟩ : ∃ a c, v = .slice a l.length c := by
      rcases h.2 with ⟨e, e0⟩ | ⟨g, cap, cur, e, _⟩
      · exact ⟨none, 0, by rw [e, e0]⟩
      · exact ⟨_, _, e⟩
    subst hv
    clear h
    go_enter Tryd.func38, Tryd.ntmps38
    go_wp2
    go_ret
    exact coEnds_some (by rw [HS.out]; exact HO.out) (World.grownBy.refl _ _)
  · obtain ⟨g, cap, hv⟩ : ∃ g cap, v = .slice (some ⟨g, 0, none⟩) l.length cap := by
      rcases h.2 with ⟨_, e0⟩ | ⟨g, cap, cur, e, _⟩
      · omega
      · exact ⟨g, cap, e⟩
    subst hv
    obtain ⟨hb, hbg, hcap, _⟩ := PpB.of_row h
    have hle := hb.le
    have HB0 := Lib.hid hb
    have HS0 := Lib.hid (show squeeze (l.take 1) = l.take 1 from squeeze_short (by rw [List.length_take]; omega))
    have hrefl : RowKit.Hid (w.grownBy w (some g)) := Lib.hid (World.grownBy.refl w _)
    clear h hb
    go_enter Tryd.func38, Tryd.ntmps38
    go_wp2
    go_loopw [3] (fun x wr => ∃ k : Nat, 1 ≤ k ∧ k ≤ l.length ∧ x = .int .i64 k ∧ RowKit.Hid (squeeze (l.take k) = l.take k) ∧ RowKit.Hid (PpB wr g cap l) ∧ RowKit.Hid (w.grownBy wr (some g))) (fun x _ => l.length - (intOf x).toNat)
    case atStart => exact ⟨1, by omega, by omega, rfl, HS0, HB0, hrefl⟩
    clear HS0 HB0 hrefl
    obtain ⟨k, hk1, hk, rfl, hS, hB, hG⟩ := hrel
    by_cases hlt : k < l.length
    · obtain ⟨c0, c1, _, _⟩ := hB.out.cell hlt
      obtain ⟨d0, d1, _, _⟩ := hB.out.cell (show k - 1 < l.length by omega)
      have hki : (k : Int) < (l.length : Int) := by omega
      have ek : ((k : Int) - 1).toNat = k - 1 := by omega
      by_cases hdup : l[k] = l[k - 1]
      · have he := eqPp (decide_eq_true hdup)
        have HD := Lib.hid hdup
        clear hdup
        go_wp2_with fail
        go_quiet (fail)
        have hne : ¬ cap = k := by omega
        have HI0 := Lib.hid (CpInv.start (by omega) hlt hS.out HD.out)
        have HB1 := Lib.hid (hB.out.drewN nq)
        have HG1 : RowKit.Hid (w.grownBy (wr.drewN nq) (some g)) := Lib.hid ⟨hG.out.os, hG.out.tape, hG.out.output, hG.out.size, hG.out.block⟩
        clear c0 c1 d0 d1 hB hG hS he
        go_wp2
        go_loopw [3, 5] (fun x y wi => ∃ (kk k2 : Nat) (m : List Pp), x = .int .i64 kk ∧ y = .int .i64 k2 ∧ 1 ≤ k2 ∧ k + k2 ≤ l.length ∧ RowKit.Hid (CpInv l (k + k2) kk m) ∧ RowKit.Hid (PpB wi g cap m) ∧ RowKit.Hid (w.grownBy wi (some g))) (fun _ y _ => l.length - (intOf y).toNat)
        case atStart => exact ⟨k, 1, l, rfl, rfl, Nat.le_refl _, by omega, HI0, HB1, HG1⟩
        clear HI0 HB1 HG1
        obtain ⟨kk, k2, m, rfl, rfl, h1, hle2, hI, hB, hG⟩ := hrel
        have hkk := hI.out.lt
        have hml := hI.out.length
        by_cases hlt2 : k + k2 < l.length
        · obtain ⟨c0, c1, _, _⟩ := hB.out.cell (show k + k2 < m.length by omega)
          obtain ⟨d0, d1, _, _⟩ := hB.out.cell (show k + k2 - 1 < m.length by omega)
          obtain ⟨o0, o1, f0, f1⟩ := hB.out.cell (show kk < m.length by omega)
          rw [hI.out.at hlt2 (by omega), show (k + k2) * 2 = k * 2 + k2 * 2 by omega] at c0 c1
          rw [hI.out.at (show k + k2 - 1 < l.length by omega) (by omega), show (k + k2 - 1) * 2 = k * 2 + (k2 - 1) * 2 by omega] at d0 d1
          have hki2 : (k2 : Int) < (l.length : Int) - (k : Int) := by omega
          have hki3 : k2 < l.length - k := by omega
          have ek2 : ((k2 : Int) - 1).toNat = k2 - 1 := by omega
          by_cases huv : l[k + k2] = l[k + k2 - 1]
          · have he := nePp (decide_eq_true huv)
            have HU := Lib.hid huv
            clear huv
            go_wp2_with fail
            go_quiet (fail)
            go_wp2
            go_roundw
            case rel => exact ⟨kk, k2 + 1, m, rfl, by go_num, by omega, by omega, Lib.hid (hI.out.skip hlt2 HU.out), Lib.hid (hB.out.drewN _), Lib.hid ⟨hG.out.os, hG.out.tape, hG.out.output, hG.out.size, hG.out.block⟩⟩
            case measure => simp [intOf]; omega
          · have he := nePp (decide_eq_false huv)
            have HU := Lib.hid huv
            have hkl : kk < l.length := by omega
            have hkl2 : (kk : Int) < (l.length : Int) := by omega
            clear huv
            go_wp2_with fail
            go_quiet (fail)
            have HB2 := Lib.hid ((hB.out.drewN nq).set (show kk < m.length by omega) l[k + k2])
            have HG2 : RowKit.Hid (w.grownBy (((wr.drewN nq).setCell ⟨g, kk * 2, none⟩ (.int .i64 l[k + k2].1)).setCell ⟨g, kk * 2 + 1, none⟩ (.int .i64 l[k + k2].2)) (some g)) := Lib.hid (World.grownBy.trans (b := wr.drewN nq) ⟨hG.out.os, hG.out.tape, hG.out.output, hG.out.size, hG.out.block⟩ (grown_two _ _ _ _ _))
            go_wp2
            go_roundw
            case rel => exact ⟨kk + 1, k2 + 1, _, by go_num, by go_num, by omega, by omega, Lib.hid (hI.out.keep hlt2 HU.out), HB2, HG2⟩
            case measure => simp [intOf]; omega
        · have hend : k + k2 = l.length := by omega
          have hki2 : ¬ (k2 : Int) < (l.length : Int) - (k : Int) := by omega
          have hki3 : ¬ k2 < l.length - k := by omega
          have hne2 : ¬ cap = kk := by omega
          have hcl : ∀ ty, (Builtin.clear_ #[37] ty #[.slice (some ⟨g, kk * 2, none⟩) (l.length - kk) (cap - kk)]).run Tryd.prog wr = .ok (.tuple #[]) (wr.setCells g (kk * 2) (List.replicate ((l.length - kk) * 2) (.int .i64 0))) := fun ty => run_clear_pp wr ty g (kk * 2) (l.length - kk) (cap - kk) (by omega) (fun j hj => by
              have hj2 : j / 2 < l.length - kk := by omega
              obtain ⟨a0, a1, _, _⟩ := hB.out.cell (show kk + j / 2 < m.length by omega)
              rcases (show j % 2 = 0 ∨ j % 2 = 1 by omega) with e | e
              · rw [show kk * 2 + j = (kk + j / 2) * 2 by omega, a0]; rfl
              · rw [show kk * 2 + j = (kk + j / 2) * 2 + 1 by omega, a1]; rfl) (fun j hj => by
              obtain ⟨_, _, a0, a1⟩ := hB.out.cell (show kk + j / 2 < m.length by omega)
              rcases (show j % 2 = 0 ∨ j % 2 = 1 by omega) with e | e
              · rw [show kk * 2 + j = (kk + j / 2) * 2 by omega, a0]
              · rw [show kk * 2 + j = (kk + j / 2) * 2 + 1 by omega, a1])
          have HB2 := Lib.hid ((hB.out.cut (k := kk) (by omega) (List.replicate ((l.length - kk) * 2) (.int .i64 0))).row hbg hcap)
          have HG2 := Lib.hid (hG.out.trans (grown_cells g (List.replicate ((l.length - kk) * 2) (.int .i64 0)) (kk * 2) wr))
          have HQ : RowKit.Hid (m.take kk = squeeze l ∧ (squeeze l).length = kk) := by
            have e := hI.out.eq
            have e2 := hI.out.len
            rw [hend, List.take_length] at e e2
            exact Lib.hid ⟨by rw [e, List.take_append_of_le_length (by omega), List.take_of_length_le (by omega)], e2⟩
          rw [HQ.out.1, HQ.out.2] at HB2
          clear hend
          go_wp2
          go_ret
          exact coEnds_some (by rw [HQ.out.2]; exact HB2.out) HG2.out
      · have he := eqPp (decide_eq_false hdup)
        have HD := Lib.hid hdup
        clear hdup
        go_wp2_with fail
        go_quiet (fail)
        go_wp2
        go_roundw
        case rel => exact ⟨k + 1, by omega, by omega, by go_num, Lib.hid (by rw [squeeze_other (by omega) hlt HD.out, hS.out, ← List.take_succ_eq_append_getElem hlt]), Lib.hid (hB.out.drewN _), Lib.hid ⟨hG.out.os, hG.out.tape, hG.out.output, hG.out.size, hG.out.block⟩⟩
        case measure => simp [intOf]; omega
    · have hke : k = l.length := by omega
      have hki : ¬ ((k : Int) < (l.length : Int)) := by omega
      have HQ := hS.out
      rw [hke, List.take_length] at HQ
      have HQ2 := Lib.hid HQ
      clear HQ hke
      go_wp2
      go_ret
      exact coEnds_some (by rw [HQ2.out]; exact hB.out.row hbg hcap) hG.out
end Go.Proofs.YtkddeliifadcoaaDoor
