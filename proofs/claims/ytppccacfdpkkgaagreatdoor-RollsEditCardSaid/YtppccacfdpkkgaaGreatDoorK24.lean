/-
  CONTRACTS: the reference's slots.
-/
import Derived.Test.YtppccacfdpkkgaaGreatDoorK6
import Derived.Test.YtppccacfdpkkgaaGreatDoorKB
namespace Go.Proofs.YtppccacfdpkkgaaGreatDoor
open Go.RowKit
theorem EnB.setk {α : Type} {W : World} {t : TypeId} {k g cap : Nat} {enc : α → List Value} {m : List α} (hk : ∀ x, (enc x).length = k) (h : EnB W t k enc g cap m) {i : Nat} (hi : i < m.length) {j : Nat} (hj : j < k) {v : Value} {y : α} (hy : enc y = (enc m[i]).set j v) : EnB (W.setCell ⟨g, i * k + j, none⟩ v) t k enc g cap (m.set i y) := by
  obtain ⟨⟨cur, hb, hz, hx⟩, hn⟩ := h
  have hik : i * k + k ≤ m.length * k := by
    have : (i + 1) * k ≤ m.length * k := Nat.mul_le_mul_right _ hi
    rw [Nat.add_mul, Nat.one_mul] at this
    exact this
  have hmc : m.length * k ≤ cap * k := Nat.mul_le_mul_right _ hn
  refine ⟨⟨_, hb.set (i * k + j) v, by simpa using hz, ?_⟩, by simpa using hn⟩
  rw [List.length_set]
  refine flat_set hk m i y _ hi ?_ ?_
  · rw [List.length_take, Array.length_toList]; simp; omega
  · intro q hq2
    have hcur : cur[q]? = ((m.map enc).flatten)[q]? := by rw [← hx, List.getElem?_take, if_pos hq2, Array.getElem?_toList]
    have hcs : i * k + j < cur.size := by omega
    rw [List.getElem?_take, if_pos hq2, Array.getElem?_toList, Array.getElem?_setIfInBounds]
    by_cases c : i * k ≤ q ∧ q < i * k + k
    · rw [if_pos c, hy, List.getElem?_set]
      by_cases e1 : i * k + j = q
      · rw [if_pos e1, if_pos hcs, if_pos (by omega), if_pos (by rw [hk]; omega)]
      · rw [if_neg e1, if_neg (by omega), hcur]
        have e2 := flat_get (m.map enc) (by intro r hr; obtain ⟨p, _, rfl⟩ := List.mem_map.1 hr; exact hk p) i (by simpa using hi) (q - i * k) (by omega)
        rw [List.getElem_map, show i * k + (q - i * k) = q by omega] at e2
        exact e2
    · rw [if_neg c, if_neg (by omega), hcur]
def slC (s : Nat × Nat) : List Value := [.int .i64 s.1, .int .i64 s.2]
theorem slC_len (s : Nat × Nat) : (slC s).length = 2 := rfl
theorem slot_info : (Tryz.prog.info? 110).map (fun i => (i.zero, i.size, i.bytes)) = some (some (.agg #[.int .i64 0, .int .i64 0]), 2, 16) := by kernel_rfl
/-- A slice of slots of its own. -/
abbrev SlRow (W : World) (base : Nat) (u : Value) (l : List (Nat × Nat)) : Prop := W.ownsRow base 110 2 u l.length (l.map slC).flatten
def SlR (l : List (Nat × Nat)) (w : World) (e : Ending) (w' : World) : Prop := ∃ u, e = .returned u ∧ SlRow w' w.heap.size u l ∧ Below w.heap.size w w'
theorem slots_row {W : World} {b g cap n : Nat} {l : List (Nat × Nat)} {x : Nat × Nat} (hn : n = l.length + 1) (h : W.ownsRow b 110 2 (.slice (some ⟨g, 0, none⟩) n cap) n ((l.map slC).flatten ++ [.int .i64 x.1, .int .i64 x.2])) : SlRow W b (.slice (some ⟨g, 0, none⟩) n cap) (l ++ [x]) := by
  unfold SlRow
  rw [List.length_append, List.length_singleton, ← hn, List.map_append, List.flatten_append]
  exact h
/-- Is there a hole in a row? -/
def rowB (R : Ro) (track : Int) (i : Nat) : Bool := decide (track ∈ R.rows.getD i [])
set_option maxRecDepth 100000 in
set_option maxHeartbeats 6400000 in
theorem rslots_any (R : Ro) (hok : RoOk R) (hl : R.rows.length ≤ 20000) (v : Value) (f : Nat → Value) (track gap : Int) (w : World) (hr : RoRd w v f R) :
    Calls Tryz.prog 51 #[.agg #[.int .i64 R.tracks, v], .int .i64 track, .int .i64 gap] w (SlR (slotsP (rowB R track) gap R.rows.length) w) := by
  obtain ⟨av, cv, rfl⟩ := hr.form
  have HR := Lib.hid hr
  have HO := Lib.hid hok
  have HB0 := Lib.hid ((Below.refl w.heap.size w).alloc (Nat.le_refl _) (.cells #[.int .i64 R.tracks, .slice av R.rows.length cv] 36))
  have HX := Lib.hid (Blk.new w 36 #[.int .i64 R.tracks, .slice av R.rows.length cv])
  obtain ⟨i0, hi0, hz0, hz1, hz2⟩ := info_parts slot_info
  clear hr hok
  go_enter Tryz.func51, Tryz.ntmps51
  go_wp2
  obtain ⟨W1, hW1⟩ : ∃ W1, w.alloc (.cells #[.int .i64 R.tracks, .slice av R.rows.length cv] 36) = W1 := ⟨_, rfl⟩
  rw [hW1] at HB0 HX ⊢
  clear hW1
  go_loopw [7, 8] (fun u x wr => ∃ (i : Nat), i ≤ R.rows.length ∧ x = .int .i64 i ∧ RowKit.Hid (SlRow wr W1.heap.size u (slotsP (rowB R track) gap i)) ∧ RowKit.Hid (Below W1.heap.size W1 wr)) (fun _ x _ => R.rows.length - (intOf x).toNat)
  case atStart => exact ⟨0, by omega, rfl, Lib.hid (World.ownsRow_nil _ _ _ _), Lib.hid (Below.refl _ _)⟩
  obtain ⟨i, hi, rfl, hrow, hW⟩ := hrel
  have x1 : wr.cell? ⟨w.heap.size, 1, none⟩ = some (.slice av R.rows.length cv) := (HX.out.below hW.out).cell 1
  by_cases hlt : i < R.rows.length
  · obtain ⟨b, o, c, a2, c2, ev, hbl, hc0, hrow2⟩ := HR.out.at i hlt
    have hbw := below_step HB0.out hW.out
    have hc := (hbw.cell (p := ⟨b, o + i, none⟩) hbl).trans hc0
    cases ev
    have HROW := Lib.hid (hrow2.later hbw)
    have hll : R.rows[i].length ≤ 1000 := HO.out.row hl _ (List.getElem_mem hlt)
    have hi2 : (i : Int) < (R.rows.length : Int) := by omega
    obtain ⟨bb, hbb⟩ := any_eq (decide (track ∈ R.rows[i]))
    have HBB := Lib.hid hbb
    have HF := Lib.hid (show rowB R track i = bb by unfold rowB; rw [getD_at hlt]; exact hbb)
    clear hbb hc0 hrow2 hbw
    cases bb with
    | false =>
      have HSK := Lib.hid (slotsP_skip (gap := gap) HF.out)
      go_wp2_with (go_at_call 86; refine (in_any R.rows[i] track _ _ (by omega) HROW.out false HBB.out).mono ?_; rintro e w' ⟨rfl, rfl⟩)
      go_roundw
      case rel => exact ⟨i + 1, by omega, by go_num, by rw [HSK.out]; exact hrow, hW⟩
      case measure => simp [intOf]; omega
    | true =>
      have hsl := slotsP_len (f := rowB R track) (gap := gap) i
      rcases List.eq_nil_or_concat (slotsP (rowB R track) gap i) with e | ⟨l, x, e⟩
      · have HSK := Lib.hid (slotsP_first (gap := gap) HF.out e)
        rw [e] at hrow
        obtain ⟨ua, uc, rfl⟩ := own_form hrow.out
        have hsz := hW.out.size
        have HROW2 := Lib.hid (show wr.ownsRow W1.heap.size 110 2 (.slice ua 0 uc) 0 [] from hrow.out)
        have HPL := Lib.hid (fun (o : Obj) (w3 : World) (hg : (wr.alloc o).grownBy w3 (Value.slice ua 0 uc).ownBlock) => push_low hW.out HROW2.out hg)
        clear e hsl hrow
        go_wp2_with first | (go_at_call 86; refine (in_any R.rows[i] track _ _ (by omega) HROW.out true HBB.out).mono ?_; rintro e w' ⟨rfl, rfl⟩) | (at_builtin; refine wpList_append_lies _ rfl _ _ 107 rfl W1.heap.size 110 i0 _ 2 16 Tryz.underlying107 hi0 hz0 hz1 hz2 rfl (by omega) _ _ _ rfl (HROW2.out.alloc _) ⟨wr.heap.size, 0, none⟩ 1 1 [.int .i64 i, .int .i64 i] rfl rfl (World.news_of_block (cs := #[.int .i64 i, .int .i64 i]) (t := 110) (fr := (0, 0)) (heap_alloc_new wr _)) (by simp [Value.oneCell']) (by omega) (by unfold maxLen; omega) (by omega) (by simp; omega) (wr.heap.size + 1) (by simp) ?_; intro gg cap3 w3 hown3 hgrow hat3 hlt3)
        have HP2 : RowKit.Hid (SlRow w3 W1.heap.size (.slice (some ⟨gg, 0, none⟩) 1 cap3) (slotsP (rowB R track) gap (i + 1))) := by
          rw [HSK.out]
          exact Lib.hid hown3
        have HB3 := Lib.hid (HPL.out _ _ hgrow)
        exact ⟨⟨i + 1, by omega, by go_num, HP2, HB3⟩, by simp [intOf]; omega⟩
      · rw [List.concat_eq_append] at e
        obtain ⟨x1', x2'⟩ := x
        rw [e] at hrow hsl
        obtain ⟨n, hn⟩ : ∃ n, l.length + 1 = n := ⟨_, rfl⟩
        have hlen : (l ++ [(x1', x2')]).length = n := by rw [List.length_append, List.length_singleton, hn]
        rw [hlen] at hsl
        have hrow' := hrow.out
        unfold SlRow at hrow'
        rw [hlen] at hrow'
        rcases hrow'.2 with ⟨-, h0⟩ | ⟨g, cap, cur, eu, -⟩
        · omega
        · subst eu
          have hE := (EnB.of_row (enc := slC) (m := l ++ [(x1', x2')]) (by rw [hlen]; exact hrow')).1
          have hidx : l.length < (l ++ [(x1', x2')]).length := by rw [hlen]; omega
          have hget : (l ++ [(x1', x2')])[l.length] = (x1', x2') := by simp
          have q1 := hE.cell slC_len hidx (j := 1) (by rw [hget]; rfl)
          have hnm : (n : Int) - 1 = (l.length : Int) := by omega
          have hx2 : x2' < i := by
            have := slotsP_in (f := rowB R track) (gap := gap) (n := i) (x1', x2') (by rw [e]; simp)
            simp only at this
            omega
          have HE := Lib.hid hE
          have HROW2 := Lib.hid hrow'
          have hsz := hW.out.size
          have hgb : W1.heap.size ≤ g := row_ge hrow' rfl
          have hcm : cap ≤ maxLen := (EnB.of_row (enc := slC) (m := l ++ [(x1', x2')]) (by rw [hlen]; exact hrow')).2.2.1
          have q1' : wr.cell? ⟨g, l.length * 2 + 1, none⟩ = some (.int .i64 x2') := q1.1
          have q1f : wr.frozen? ⟨g, l.length * 2 + 1, none⟩ = false := q1.2
          obtain ⟨m, hm⟩ : ∃ m, l.length = m := ⟨_, rfl⟩
          rw [hm] at hn
          subst hn
          have hmb : m ≤ 20000 := by omega
          have HM := Lib.hid hm
          rw [hm] at q1' q1f
          have hSet := fun (v : Value) (y : Nat × Nat) (hy : slC y = (slC (l ++ [(x1', x2')])[l.length]).set 1 v) => hE.setk slC_len hidx (j := 1) (by omega) (v := v) (y := y) hy
          by_cases hg : (i : Int) - x2' - 1 ≤ gap
          · have HSK := Lib.hid (slotsP_join (gap := gap) HF.out e hg)
            have HPP := Lib.hid (show SlRow (wr.setCell ⟨g, m * 2 + 1, none⟩ (.int .i64 i)) W1.heap.size (.slice (some ⟨g, 0, none⟩) (m + 1) cap) (l ++ [(x1', i)]) by
              have h1 := hSet (.int .i64 i) (x1', i) (by rw [hget]; rfl)
              rw [hm] at h1
              have h2 : (l ++ [(x1', x2')]).set m (x1', i) = l ++ [(x1', i)] := by rw [← hm]; simp
              rw [h2] at h1
              have h3 := h1.row slC_len hgb hcm
              have h4 : (l ++ [(x1', i)]).length = m + 1 := by rw [List.length_append, List.length_singleton, hm]
              unfold SlRow
              rw [h4] at h3 ⊢
              exact h3)
            have HB3 := Lib.hid (hW.out.setCell (p := ⟨g, m * 2 + 1, none⟩) hgb (.int .i64 i))
            clear e hsl hrow hrow' hE q1 hlen hidx hget hm hSet hnm
            go_wp2_with (go_at_call 86; refine (in_any R.rows[i] track _ _ (by omega) HROW.out true HBB.out).mono ?_; rintro e w' ⟨rfl, rfl⟩)
            go_roundw
            case rel => exact ⟨i + 1, by omega, by go_num, by rw [HSK.out]; exact HPP, HB3⟩
            case measure => simp [intOf]; omega
          · have HSK := Lib.hid (slotsP_new (gap := gap) HF.out e hg)
            have HPL := Lib.hid (fun (o : Obj) (w3 : World) (hg : (wr.alloc o).grownBy w3 (Value.slice (some ⟨g, 0, none⟩) (m + 1) cap).ownBlock) => push_low hW.out hrow' hg)
            clear e hrow hrow' hE q1 hlen hidx hget hm hSet hnm
            go_wp2_with first | (go_at_call 86; refine (in_any R.rows[i] track _ _ (by omega) HROW.out true HBB.out).mono ?_; rintro e w' ⟨rfl, rfl⟩) | (at_builtin; refine wpList_append_lies _ rfl _ _ 107 rfl W1.heap.size 110 i0 _ 2 16 Tryz.underlying107 hi0 hz0 hz1 hz2 rfl (by omega) _ _ _ rfl (HROW2.out.alloc _) ⟨wr.heap.size, 0, none⟩ 1 1 [.int .i64 i, .int .i64 i] rfl rfl (World.news_of_block (cs := #[.int .i64 i, .int .i64 i]) (t := 110) (fr := (0, 0)) (heap_alloc_new wr _)) (by simp [Value.oneCell']) (by omega) (by unfold maxLen; omega) (by omega) (by simp; omega) (wr.heap.size + 1) (by simp) ?_; intro gg cap3 w3 hown3 hgrow hat3 hlt3)
            have HP2 : RowKit.Hid (SlRow w3 W1.heap.size (.slice (some ⟨gg, 0, none⟩) (m + 1 + 1) cap3) (slotsP (rowB R track) gap (i + 1))) := by
              rw [HSK.out]
              exact Lib.hid (slots_row (x := (i, i)) (by rw [List.length_append, List.length_singleton, HM.out]) hown3)
            have HB3 := Lib.hid (HPL.out _ _ hgrow)
            exact ⟨⟨i + 1, by omega, by go_num, HP2, HB3⟩, by simp [intOf]; omega⟩
  · have hi2 : ¬ ((i : Int) < (R.rows.length : Int)) := by omega
    have hie : i = R.rows.length := by omega
    have HE2 : RowKit.Hid (SlRow wr w.heap.size u7 (slotsP (rowB R track) gap R.rows.length)) := by
      rw [← hie]
      exact Lib.hid (row_base hrow.out HB0.out.size)
    have HB2 := Lib.hid (below_step HB0.out hW.out)
    clear hie hrow
    go_wp2
    go_ret
    exact ⟨_, rfl, HE2.out, HB2.out⟩
end Go.Proofs.YtppccacfdpkkgaaGreatDoor
