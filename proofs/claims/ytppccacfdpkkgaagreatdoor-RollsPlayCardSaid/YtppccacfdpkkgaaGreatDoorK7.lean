/-
  CONTRACTS: beside, Weak.
-/
import Derived.Test.YtppccacfdpkkgaaGreatDoorK5
import Derived.Test.YtppccacfdpkkgaaGreatDoorH
import Derived.ChangeKeysEq
namespace Go.Proofs.YtppccacfdpkkgaaGreatDoor
open Go.RowKit
theorem u64_info : (Tryz.prog.info? 87).map (fun i => (i.zero, i.size, i.bytes)) = some (some (.int .u64 0), 1, 8) := by kernel_rfl
theorem u64_cells : Tryz.prog.cellsOf 87 = 1 := by kernel_rfl
theorem run_eqRw (a b c d : Int) (w : World) : (Op.equalIn 10000 89 (.agg #[.int .u64 a, .int .u64 b]) (.agg #[.int .u64 c, .int .u64 d])).run Tryz.prog w = .ok (a == c && b == d) w := by
  obtain ⟨i0, hi, hz0, hz1, hz2⟩ := info_parts u64_info
  have h0 : ∀ (n : Nat) x y w, (Op.equalIn (n + 1) 87 (.int .u64 x) (.int .u64 y)).run Tryz.prog w = .ok (x == y) w := fun n x y w => by
    simp [Op.equalIn, run_underlying Tryz.underlying87, Result.andThen]
  have h1 : ∀ x y w, (Op.equalIn 9999 87 (.int .u64 x) (.int .u64 y)).run Tryz.prog w = .ok (x == y) w := h0 9998
  rw [run_equalIn_array w 9999 _ _ Tryz.underlying89 hi, u64_cells]
  simp [List.range, List.range.loop, Op.eqItems, part, h1, Result.andThen]
  by_cases h1 : a = c <;> by_cases h2 : b = d <;> simp [h1, h2]
theorem any_eq {α : Type} (a : α) : ∃ m, a = m := ⟨a, rfl⟩
/-- The longest run of holes of a row. -/
def wst (q : Rw) : Nat := worst (hole q) 128
theorem wst_le (q : Rw) : wst q ≤ 128 := worst_le
theorem ret_n {a b : Nat} (h : a = b) : Ending.returned (.int .i64 (a : Int)) = .returned (.int .i64 (b : Int)) := by rw [h]
theorem rw_ne {q : Rw} (h : ¬ q = (0, 0)) : ((q.1 : Int) == 0 && (q.2 : Int) == 0) = false := by
  rw [Bool.and_eq_false_iff]
  by_cases e : q.1 = 0
  · right
    rw [beq_eq_false_iff_ne]
    intro e2
    exact h (Prod.ext e (by omega))
  · left
    rw [beq_eq_false_iff_ne]
    omega
theorem dbl_wrap (a : Nat) : IntKind.u64.wrap ((a : Int) * 2) = ((a * 2 % 2 ^ 64 : Nat) : Int) := by
  rw [IntKind.wrap_u64]
  omega
theorem next_lo {q : Rw} (h : RwOk q) : bits .and .u64 (q.1 : Int) (IntKind.u64.wrap ((q.1 : Int) * 2)) = (((nextR q).1 : Nat) : Int) := by
  rw [dbl_wrap]
  exact word_and h.lo (Nat.mod_lt _ (by decide))
theorem next_hi {q : Rw} (h : RwOk q) : bits .and .u64 (q.2 : Int) (bits .or .u64 (IntKind.u64.wrap ((q.2 : Int) * 2)) ((q.1 : Int) / 9223372036854775808)) = (((nextR q).2 : Nat) : Int) := by
  have e : ((q.1 : Int) / 9223372036854775808) = ((q.1 / 2 ^ 63 : Nat) : Int) := by omega
  have h1 : q.1 / 2 ^ 63 < 2 ^ 64 := Nat.lt_of_le_of_lt (Nat.div_le_self _ _) h.lo
  have h2 : q.2 * 2 % 2 ^ 64 < 2 ^ 64 := Nat.mod_lt _ (by decide)
  rw [dbl_wrap, e, word_or h2 h1]
  exact word_and h.hi (Nat.or_lt_two_pow h2 h1)
set_option maxRecDepth 100000 in
set_option maxHeartbeats 1000000 in
theorem beside_any (q0 : Rw) (h0 : RwOk q0) (w : World) :
    Calls Tryz.prog 60 #[.agg #[.int .u64 q0.1, .int .u64 q0.2]] w fun e w' => e = .returned (.int .i64 (wst q0 : Nat)) ∧ Below w.heap.size w w' := by
  have HX := Lib.hid (Blk.new w 89 #[.int .u64 q0.1, .int .u64 q0.2])
  have HB := Lib.hid (show Below w.heap.size w (w.alloc (.cells #[.int .u64 q0.1, .int .u64 q0.2] 89)) from (Below.refl _ _).alloc (Nat.le_refl _) _)
  have H0 := Lib.hid h0
  clear h0
  go_enter Tryz.func60, Tryz.ntmps60
  go_wp2
  go_loopw [3] (fun x wr => ∃ (n : Nat) (q : Rw), n ≤ worst (hole q0) 128 ∧ x = .int .i64 n ∧ RowKit.Hid (RwOk q ∧ ∀ t, t < 128 → hole q t = decide (n < runE (hole q0) t)) ∧ RowKit.Hid (Blk wr w.heap.size 89 #[.int .u64 q.1, .int .u64 q.2]) ∧ RowKit.Hid (Below w.heap.size w wr)) (fun x _ => 128 - (intOf x).toNat)
  case atStart => exact ⟨0, q0, Nat.zero_le _, rfl, Lib.hid ⟨H0.out, fun t _ => round_first t⟩, HX, HB⟩
  obtain ⟨n, q, hn, rfl, hq, hX, hW⟩ := hrel
  have c0 : wr.cell? ⟨w.heap.size, 0, none⟩ = some (.int .u64 q.1) := hX.out.cell 0
  have c1 : wr.cell? ⟨w.heap.size, 1, none⟩ = some (.int .u64 q.2) := hX.out.cell 1
  have f0 := hX.out.frozen 0
  have f1 := hX.out.frozen 1
  by_cases hz : q = (0, 0)
  · have HZ := Lib.hid hz
    have he : ∀ w, (Op.equalIn 10000 89 (.agg #[.int .u64 q.1, .int .u64 q.2]) (.agg #[.int .u64 0, .int .u64 0])).run Tryz.prog w = .ok true w := fun w => by
      rw [run_eqRw, HZ.out]; rfl
    clear hz
    have HE : RowKit.Hid (n = worst (hole q0) 128) := by
      have h1 := (round_end hq.out.2).1 ((hole_none hq.out.1).2 HZ.out)
      exact Lib.hid (by omega)
    go_wp2
    go_ret
    exact ⟨ret_n HE.out, hW.out⟩
  · have he : ∀ w, (Op.equalIn 10000 89 (.agg #[.int .u64 q.1, .int .u64 q.2]) (.agg #[.int .u64 0, .int .u64 0])).run Tryz.prog w = .ok false w := fun w => by
      rw [run_eqRw, rw_ne hz]
    have hlt : n < worst (hole q0) 128 := by
      rcases Nat.lt_or_ge n (worst (hole q0) 128) with h | h
      · exact h
      · exact absurd ((hole_none hq.out.1).1 ((round_end hq.out.2).2 h)) hz
    have hw128 := worst_le (f := hole q0) (k := 128)
    have HQ2 := Lib.hid (show RwOk (nextR q) ∧ ∀ t, t < 128 → hole (nextR q) t = decide (n + 1 < runE (hole q0) t) from ⟨nextR_ok hq.out.1, round_next hq.out.2 (fun t ht => nextR_hole hq.out.1 ht)⟩)
    have HX2 : RowKit.Hid (Blk ((wr.setCell ⟨w.heap.size, 0, none⟩ (.int .u64 (bits .and .u64 (q.1 : Int) (IntKind.u64.wrap ((q.1 : Int) * 2))))).setCell ⟨w.heap.size, 1, none⟩ (.int .u64 (bits .and .u64 (q.2 : Int) (bits .or .u64 (IntKind.u64.wrap ((q.2 : Int) * 2)) ((q.1 : Int) / 9223372036854775808))))) w.heap.size 89 #[.int .u64 (nextR q).1, .int .u64 (nextR q).2]) := by
      rw [next_lo hq.out.1, next_hi hq.out.1]
      exact Lib.hid ((hX.out.set 0 _).set 1 _)
    have HB2 := Lib.hid ((hW.out.setCell (p := ⟨w.heap.size, 0, none⟩) (Nat.le_refl _) (.int .u64 (bits .and .u64 (q.1 : Int) (IntKind.u64.wrap ((q.1 : Int) * 2))))).setCell (p := ⟨w.heap.size, 1, none⟩) (Nat.le_refl _) (.int .u64 (bits .and .u64 (q.2 : Int) (bits .or .u64 (IntKind.u64.wrap ((q.2 : Int) * 2)) ((q.1 : Int) / 9223372036854775808)))))
    have HZ := Lib.hid hz
    clear hz
    go_wp2
    go_roundw
    case rel => exact ⟨n + 1, nextR q, by omega, by go_num, HQ2, HX2, HB2⟩
    case measure => simp [intOf]; omega
theorem ints_row {W : World} {b g cap : Nat} {l : List Int} {x : Int} (h : W.ownsRow b 3 1 (.slice (some ⟨g, 0, none⟩) (l.length + 1) cap) (l.length + 1) (iCs l ++ [.int .i64 x])) : W.ownsRow b 3 1 (.slice (some ⟨g, 0, none⟩) (l.length + 1) cap) (l ++ [x]).length (iCs (l ++ [x])) := by
  rw [iCs_snoc, List.length_append, List.length_singleton]
  exact h
theorem beside_at (q0 : Rw) (h0 : RwOk q0) (m : Nat) (hm : wst q0 = m) (w : World) :
    Calls Tryz.prog 60 #[.agg #[.int .u64 q0.1, .int .u64 q0.2]] w fun e w' => e = .returned (.int .i64 (m : Nat)) ∧ Below w.heap.size w w' := by
  subst hm
  exact beside_any q0 h0 w
/-- What Weak says. -/
def weakP (R : Ro) (most : Int) : List Int × Int :=
  if rollErr R true = 0 then (if most < 1 ∨ 128 < most then ([], 7) else (weakL R.rows R.tracks.toNat most R.rows.length, 0)) else ([], rollErr R true)
/-- How a call ends that returns a list of numbers and an error. -/
def InEnds (r : List Int × Int) (w : World) (e : Ending) (w' : World) : Prop := ∃ v, e = .returned (.tuple #[v, .int .i64 r.2]) ∧ w'.ownsRow w.heap.size 3 1 v r.1.length (iCs r.1) ∧ Below w.heap.size w w'
theorem inEnds {l : List Int} {n : Int} {r : List Int × Int} (hr : r = (l, n)) {w w' : World} {v : Value} (ho : w'.ownsRow w.heap.size 3 1 v l.length (iCs l)) (hb : Below w.heap.size w w') : InEnds r w (.returned (.tuple #[v, .int .i64 n])) w' := ⟨v, by rw [hr], by rw [hr]; exact ho, hb⟩
theorem weakP_bad {R : Ro} {most : Int} (h : rollErr R true ≠ 0) : weakP R most = ([], rollErr R true) := by unfold weakP; rw [if_neg h]
theorem weakP_range {R : Ro} {most : Int} (h : rollErr R true = 0) (hm : most < 1 ∨ 128 < most) : weakP R most = ([], 7) := by unfold weakP; rw [if_pos h, if_pos hm]
theorem weakP_good {R : Ro} {most : Int} (h : rollErr R true = 0) (hm : ¬ (most < 1 ∨ 128 < most)) : weakP R most = (weakL R.rows R.tracks.toNat most R.rows.length, 0) := by unfold weakP; rw [if_pos h, if_neg hm]
theorem weakL_next {rows : List (List Int)} {tr : Nat} {most : Int} {i : Nat} (hi : i < rows.length) {m : Nat} (hm : worst (fun t => decide ((t : Int) ∈ rows[i])) tr = m) : weakL rows tr most (i + 1) = weakL rows tr most i ++ if (m : Int) > most then [(i : Int)] else [] := by
  rw [weakL, getD_at hi, hm]
theorem weakL_len (rows : List (List Int)) (tr : Nat) (most : Int) : ∀ i, (weakL rows tr most i).length ≤ i
  | 0 => Nat.le_refl _
  | i + 1 => by
    have := weakL_len rows tr most i
    rw [weakL, List.length_append]
    split
    · rw [List.length_singleton]; omega
    · rw [List.length_nil]; omega
/-- What a roll without error says of its rows. -/
theorem worst_good {R : Ro} (h : RollGood R true) {i : Nat} (hi : i < R.rows.length) {q : Rw} (hq : Holds q R.rows[i]) : wst q = worst (fun t => decide ((t : Int) ∈ R.rows[i])) R.tracks.toNat := by
  have h1 := h.lo
  have h2 := h.hi
  refine worst_row (by omega) (fun t ht => ?_) hq
  have := (row_asc (rowErr_zero (h.row i hi)).1).1 t ht
  omega
set_option maxRecDepth 100000 in
set_option maxHeartbeats 6400000 in
theorem weak_any (R : Ro) (hok : RoOk R) (v : Value) (f : Nat → Value) (most : Int) (w : World) (hr : RoRd w v f R) :
    Calls Tryz.prog 31 #[.agg #[.int .i64 R.tracks, v], .int .i64 most] w (InEnds (weakP R most) w) := by
  have hb0 : Below w.heap.size w (w.alloc (.cells #[.int .i64 R.tracks, v] 36)) := (Below.refl _ _).alloc (Nat.le_refl _) _
  have HB0 := Lib.hid hb0
  have HR := Lib.hid hr
  have HO := Lib.hid hok
  clear hr hok hb0
  go_enter Tryz.func31, Tryz.ntmps31
  go_wp2_with fail
  refine (load_any R true HO.out v f _ (HR.out.later HB0.out)).mono ?_
  rintro e W1 ⟨hb1, ⟨he, rfl⟩ | ⟨he, P, pv, qs, rfl, hp, hqs⟩⟩
  · have HB := Lib.hid (below_step HB0.out hb1)
    have HE := Lib.hid (weakP_bad (most := most) he)
    have he2 : (rollErr R true == 0) = false := by rw [beq_eq_false_iff_ne]; exact he
    clear hb1 he
    go_wp2
    go_ret2
    exact inEnds HE.out (World.ownsRow_nil _ _ _ _) HB.out
  · have HB := Lib.hid (below_step HB0.out hb1)
    have HG := Lib.hid (rollGood he)
    have HE := Lib.hid he
    clear hb1 he
    by_cases hm : most < 1 ∨ 128 < most
    · have HM := Lib.hid (weakP_range HE.out hm)
      rcases hm with hm | hm
      · clear hp hqs
        go_wp2
        go_ret2
        exact inEnds HM.out (World.ownsRow_nil _ _ _ _) HB.out
      · have hm1 : 1 ≤ most := by omega
        clear hp hqs
        go_wp2
        go_ret2
        exact inEnds HM.out (World.ownsRow_nil _ _ _ _) HB.out
    · have HM := Lib.hid (weakP_good HE.out hm)
      have hm1 : 1 ≤ most := by omega
      have hm2 : most ≤ 128 := by omega
      obtain ⟨pa, pc, rfl⟩ := hp.form
      have HP := Lib.hid hp
      have HQS := Lib.hid hqs
      have c1 : W1.cell? ⟨P, 1, none⟩ = some (.slice pa qs.length pc) := hp.p.cell 1
      have hlen : qs.length ≤ 20000 := by have := HG.out.len; have := HQS.out.len; omega
      obtain ⟨i0, hi0, hz0, hz1, hz2⟩ := info_parts int_info
      clear hp hqs hm
      go_wp2
      clear c1
      go_loopw [8, 30] (fun u x wr => ∃ (i : Nat), i ≤ qs.length ∧ x = .int .i64 i ∧ RowKit.Hid (wr.ownsRow W1.heap.size 3 1 u (weakL R.rows R.tracks.toNat most i).length (iCs (weakL R.rows R.tracks.toNat most i))) ∧ RowKit.Hid (Below W1.heap.size W1 wr)) (fun _ x _ => qs.length - (intOf x).toNat)
      case atStart => exact ⟨0, by omega, rfl, Lib.hid (World.ownsRow_nil _ _ _ _), Lib.hid (Below.refl _ _)⟩
      obtain ⟨i, hi, rfl, hrow, hW⟩ := hrel
      by_cases hlt : i < qs.length
      · have hi2 : (i : Int) < (qs.length : Int) := by omega
        obtain ⟨G, cap, ev, hpb⟩ := (HP.out.below hW.out).b (by omega)
        obtain ⟨q0, q1⟩ := rwB_cells hpb.r hlt
        cases ev
        have HOK := Lib.hid (hpb.ok _ (List.getElem_mem hlt))
        have hlr : i < R.rows.length := by have := HQS.out.len; omega
        obtain ⟨m, hwm⟩ := any_eq (wst qs[i])
        have HWM := Lib.hid hwm
        have HWN := Lib.hid (weakL_next (most := most) (m := m) hlr ((worst_good HG.out hlr (HQS.out.at' i hlt hlr)).symm.trans hwm))
        have HBX := Lib.hid (show Below wr.heap.size wr (wr.alloc (.cells #[.int .u64 qs[i].1, .int .u64 qs[i].2] 89)) from (Below.refl _ wr).alloc (Nat.le_refl _) _)
        have hmw := wst_le qs[i]
        rw [hwm] at hmw
        have hwl := weakL_len R.rows R.tracks.toNat most i
        clear hpb hwm
        by_cases hc : most < (m : Int)
        · have hc2 : decide (most < (m : Int)) = true := by rw [decide_eq_true_iff]; exact hc
          have HWN2 : RowKit.Hid (weakL R.rows R.tracks.toNat most (i + 1) = weakL R.rows R.tracks.toNat most i ++ [(i : Int)]) := Lib.hid (by rw [HWN.out, if_pos hc])
          clear hc
          go_wp2_with (first | (go_at_call 60; refine (beside_at qs[i] HOK.out m HWM.out _).mono ?_; rintro e w' ⟨rfl, hb2⟩; have HR2 := Lib.hid (row_later (row_later hrow.out HBX.out) hb2); have HB2 := Lib.hid (below_step (below_step hW.out HBX.out) hb2); have hsz := HB2.out.size; clear hb2) | (at_builtin; refine wpList_append_lies _ rfl _ _ 74 rfl W1.heap.size 3 i0 _ 1 8 Tryz.underlying74 hi0 hz0 hz1 hz2 rfl (by omega) _ _ _ rfl (HR2.out.alloc _) ⟨w'.heap.size, 0, none⟩ 1 1 [.int .i64 i] rfl rfl (World.news_of_block (cs := #[.int .i64 i]) (t := 3) (fr := (0, 0)) (heap_alloc_new w' _)) (by simp [Value.oneCell']) (by omega) (by unfold maxLen; omega) (by omega) (by simp; omega) (w'.heap.size + 1) (by simp) ?_; intro gg cap3 w3 hown3 hgrow hat3 hlt3))
          have HP2 : RowKit.Hid (w3.ownsRow W1.heap.size 3 1 (.slice (some ⟨gg, 0, none⟩) ((weakL R.rows R.tracks.toNat most i).length + 1) cap3) (weakL R.rows R.tracks.toNat most (i + 1)).length (iCs (weakL R.rows R.tracks.toNat most (i + 1)))) := by
            rw [HWN2.out]
            exact Lib.hid (ints_row hown3)
          have HB3 := Lib.hid (push_low HB2.out HR2.out hgrow)
          exact ⟨⟨i + 1, by omega, by go_num, HP2, HB3⟩, by simp [intOf]; omega⟩
        · have hc2 : decide (most < (m : Int)) = false := by rw [decide_eq_false_iff_not]; exact hc
          have HWN2 : RowKit.Hid (weakL R.rows R.tracks.toNat most (i + 1) = weakL R.rows R.tracks.toNat most i) := Lib.hid (by rw [HWN.out, if_neg hc, List.append_nil])
          clear hc
          go_wp2_with (go_at_call 60; refine (beside_at qs[i] HOK.out m HWM.out _).mono ?_; rintro e w' ⟨rfl, hb2⟩; have HR2 := Lib.hid (row_later (row_later hrow.out HBX.out) hb2); have HB2 := Lib.hid (below_step (below_step hW.out HBX.out) hb2); clear hb2)
          go_roundw
          case rel => exact ⟨i + 1, by omega, by go_num, by rw [HWN2.out]; exact HR2, HB2⟩
          case measure => simp [intOf]; omega
      · have hi2 : ¬ ((i : Int) < (qs.length : Int)) := by omega
        have hie : i = R.rows.length := by have := HQS.out.len; omega
        have HE2 : RowKit.Hid (wr.ownsRow w.heap.size 3 1 u8 (weakL R.rows R.tracks.toNat most R.rows.length).length (iCs (weakL R.rows R.tracks.toNat most R.rows.length))) := by
          rw [← hie]
          exact Lib.hid (row_base hrow.out HB.out.size)
        have HB2 := Lib.hid (below_step HB.out hW.out)
        clear hie hrow
        go_wp2
        go_ret2
        exact inEnds HM.out HE2.out HB2.out
end Go.Proofs.YtppccacfdpkkgaaGreatDoor
