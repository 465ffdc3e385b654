/-
  THE LAW RollsStraight: the walk.
-/
import Derived.Test.YtppccacfdpkkgaaDoorL3
import Derived.Test.YtppccacfdpkkgaaDoorK29
import Derived.Test.YtppccacfdpkkgaaDoorOpenR
namespace Go.Proofs.YtppccacfdpkkgaaDoor
open Go.RowKit
/-- A byte as a cell. -/
def uC (k : Int) : List Value := [.int .u8 k]
theorem ARd.u8Form {w : World} {v : Value} {l : List Int} (h : ARd w v 1 (l.map uC)) : ∃ a c, v = .slice a l.length c := by
  obtain ⟨a, c, e⟩ := h.form
  exact ⟨a, c, by simpa using e⟩
theorem ARd.u8At {w : World} {v : Value} {l : List Int} (h : ARd w v 1 (l.map uC)) (i : Nat) (hi : i < l.length) : ∃ b o c, v = .slice (some ⟨b, o, none⟩) l.length c ∧ b < w.heap.size ∧ w.cell? ⟨b, o + i, none⟩ = some (.int .u8 l[i]) := by
  obtain ⟨b, o, c, e, hlt, hc⟩ := h.at i (by simpa using hi)
  rw [List.getElem_map] at hc
  rw [List.length_map] at e
  exact ⟨b, o, c, e, hlt, by have := hc 0 _ rfl; rwa [Nat.mul_one] at this⟩
/-- The shifts so far. -/
structure ShInv (n : Int) (i : Nat) (now : Int) (l : List Int) : Prop where
  len : l.length = i
  inn : ∀ x ∈ l, -n ≤ x ∧ x ≤ n
  adj : ∀ j (h1 : j + 1 < l.length), l[j + 1] - l[j] ≤ 1 ∧ l[j] - l[j + 1] ≤ 1
  last : ∀ j (hj : j < l.length), j + 1 = l.length → l[j] = now
theorem shInv_zero (n now : Int) : ShInv n 0 now [] := ⟨rfl, fun x h => (by cases h), fun j h => absurd h (Nat.not_lt_zero _), fun j h => absurd h (Nat.not_lt_zero j)⟩
theorem ShInv.next {n : Int} {i : Nat} {now now' : Int} {l : List Int} (h : ShInv n i now l) (h1 : -n ≤ now') (h2 : now' ≤ n) (h3 : 0 < i → now' - now ≤ 1 ∧ now - now' ≤ 1) : ShInv n (i + 1) now' (l ++ [now']) where
  len := by rw [List.length_append, h.len]; rfl
  inn x hx := by
    rcases List.mem_append.1 hx with e | e
    · exact h.inn x e
    · rw [List.mem_singleton] at e; rw [e]; exact ⟨h1, h2⟩
  adj j hj := by
    rw [List.length_append, List.length_singleton] at hj
    by_cases e : j + 1 < l.length
    · rw [List.getElem_append_left e, List.getElem_append_left (show j < l.length by omega)]
      exact h.adj j e
    · have e2 : j + 1 = l.length := by omega
      rw [List.getElem_append_left (show j < l.length by omega), h.last j (by omega) e2, List.getElem_append_right (by omega)]
      simp only [List.getElem_singleton]
      have := h.len
      exact h3 (by omega)
  last j hj e := by
    rw [List.length_append, List.length_singleton] at e
    rw [List.getElem_append_right (by omega)]
    simp
theorem scRo_ok {R : Ro} {l : List Int} {n : Int} (h : RoOk R) : RoOk (scRo R l n) := by
  have hl : (scRo R l n).rows.length = R.rows.length := by simp [scRo]
  refine ⟨by rw [hl]; exact h.len, fun hk m hm => ?_⟩
  rw [hl] at hk
  obtain ⟨i, hi, rfl⟩ := List.mem_map.1 (show m ∈ (List.range R.rows.length).map fun i => (R.rows.getD i []).map (· + (n + l.getD i 0)) from hm)
  rw [List.mem_range] at hi
  rw [List.length_map, getD_at hi]
  exact h.row hk _ (List.getElem_mem hi)
theorem scan_straight {R : Ro} {l : List Int} {n : Int} {i : Nat} {now : Int} (hg : RollGood R true) (h0 : 0 ≤ n) (h10 : n ≤ 10) (ht : R.tracks + 2 * n ≤ 128) (hl : i = R.rows.length) (h : ShInv n i now l) : scanP R l n = (scRo R l n, 0) ∧ strP (scRo R l n) n = (R, 0) := by
  have he : rollErr R true = 0 := by
    refine rollErr_good (by have := hg.lo; omega) hg.len hg.row
  have hlen : l.length = R.rows.length := by rw [h.len, hl]
  refine ⟨scanP_good he (by omega) hlen ?_, ?_⟩
  · rintro (⟨x, hx, h2⟩ | h2)
    · have := h.inn x hx; omega
    · omega
  · rw [strP_good (by have := hg.lo; show ¬ (n < 0 ∨ 10 < n ∨ R.tracks + 2 * n < 2 + 2 * n ∨ 128 < R.tracks + 2 * n); omega) (scan_good hg h0 ht hlen h.inn)]
    rw [straight_back hg hlen h.inn h.adj]
set_option maxRecDepth 100000 in
set_option maxHeartbeats 12800000 in
theorem rollsStraight_walk (R : Ro) (v : Value) (f : Nat → Value) (hB : RoB R) (tu : List Int) (tv : Value) (hTL : tu.length ≤ maxLen) (hTB : ∀ k ∈ tu, 0 ≤ k ∧ k ≤ 255) (a : Int) (w : World) (t : Tabs w) (hd : Deb w) (hr : RoRd w v f R) (htv : ARd w tv 1 (tu.map uC)) (ha0 : 0 ≤ a) (ha1 : a < 256) :
    Calls Tryd.prog 8 #[.agg #[.int .i64 R.tracks, v], tv, .int .u8 a] w fun e w' => e = .returned (.bool true) ∧ Below w.heap.size w w' := by
  have hn := hB.n
  obtain ⟨av, cv, rfl⟩ := hr.form
  obtain ⟨ta, tc, rfl⟩ := htv.u8Form
  have hb0 : Below w.heap.size w (w.alloc (.cells #[.int .i64 R.tracks, .slice av R.rows.length cv] 24)) := (Below.refl _ _).alloc (Nat.le_refl _) _
  have HR := Lib.hid hr
  have HT := Lib.hid t
  have HD := Lib.hid hd
  have HTV := Lib.hid htv
  have HTB := Lib.hid hTB
  have HB0 := Lib.hid hb0
  have HK0 := Lib.hid (Blk.new w 24 #[.int .i64 R.tracks, .slice av R.rows.length cv])
  have HL := Lib.hid hB.l
  obtain ⟨n, hnn⟩ : ∃ n, a.tmod 11 = n := ⟨_, rfl⟩
  have h0n : 0 ≤ n := by rw [← hnn]; exact Int.tmod_nonneg 11 ha0
  have hn10 : n ≤ 10 := by have := Int.tmod_lt_of_pos a (show (0 : Int) < 11 by decide); omega
  obtain ⟨tn, htn⟩ : ∃ tn, tu.length = tn := ⟨_, rfl⟩
  rw [htn] at HTV hTL ⊢
  have HTN := Lib.hid htn
  clear hr t hb0 hB hd htv hTB htn
  go_enter Tryd.func8, Tryd.ntmps8
  go_wp2_with fail
  clear hnn
  refine (far_roll R _ f hn HL.out _ (HR.out.later HB0.out)).mono ?_
  rintro e w1 ⟨b, rfl, hok, hb1⟩
  have HB1 := Lib.hid (below_step HB0.out hb1)
  have HK1 := Lib.hid (HK0.out.below hb1)
  have HOK := Lib.hid hok
  have x0 := HK1.out.cell 0
  have x1 := HK1.out.cell 1
  clear hb1 hok
  cases b with
  | true =>
    go_wp2_with fail
    refine (shown32_any _ (HT.out.below HB1.out)).mono ?_
    rintro e w9 ⟨rfl, hb9⟩
    have HB9 := Lib.hid (below_step HB1.out hb9)
    clear hb9
    go_wp2
    go_ret
    exact ⟨rfl, HB9.out⟩
  | false =>
    have OK := Lib.hid (HOK.out rfl)
    clear HOK
    by_cases ht1 : (1000 : Int) < (tn : Int)
    · go_wp2_with fail
      refine (shown32_any _ (HT.out.below HB1.out)).mono ?_
      rintro e w9 ⟨rfl, hb9⟩
      have HB9 := Lib.hid (below_step HB1.out hb9)
      clear hb9
      go_wp2
      go_ret
      exact ⟨rfl, HB9.out⟩
    · have htn1 : tn ≤ 1000 := by omega
      obtain ⟨er, her⟩ : ∃ er, rollErr R true = er := ⟨_, rfl⟩
      have HER := Lib.hid her
      clear her
      go_wp2_with fail
      refine (check_roll R OK.out _ f w1 (HR.out.later HB1.out)).mono ?_
      rw [HER.out]
      rintro e w2 ⟨rfl, hb2⟩
      have HB2 := Lib.hid (below_step HB1.out hb2)
      have HK2 := Lib.hid (HK1.out.below hb2)
      clear hb2 x0 x1
      have x0 := HK2.out.cell 0
      have x1 := HK2.out.cell 1
      by_cases he : er = 0
      · subst he
        have HG := Lib.hid (rollGood HER.out)
        have ht2 := HG.out.lo
        have ht3 := HG.out.hi
        have hrl := HG.out.len
        by_cases h128 : 128 < R.tracks + 2 * n
        · go_wp2_with fail
          refine (shown32_any _ (HT.out.below HB2.out)).mono ?_
          rintro e w9 ⟨rfl, hb9⟩
          have HB9 := Lib.hid (below_step HB2.out hb9)
          clear hb9
          go_wp2
          go_ret
          exact ⟨rfl, HB9.out⟩
        · go_upto_if 41 with fail
          go_cut [9] from 41 (fun x9 wx => ∃ now : Int, x9 = .int .i64 now ∧ -n ≤ now ∧ now ≤ n ∧ wx = w2)
          case first =>
            by_cases h0 : tn = 0
            · subst h0
              go_wp2
              go_meet
              exact ⟨0, rfl, by omega, by omega, rfl⟩
            · have h0' : (0 : Int) < (tn : Int) := by omega
              obtain ⟨tb, tof, tc', etv, htl, htc⟩ := HTV.out.u8At 0 (by rw [HTN.out]; omega)
              simp only [Value.slice.injEq] at etv
              obtain ⟨rfl, -, rfl⟩ := etv
              have htc2 := (HB2.out.cell (p := ⟨tb, tof + 0, none⟩) htl).trans htc
              obtain ⟨k, hk⟩ : ∃ k, tu[0]'(by rw [HTN.out]; omega) = k := ⟨_, rfl⟩
              rw [hk, Nat.add_zero] at htc2
              obtain ⟨hk0, hk1⟩ := HTB.out k (by rw [← hk]; exact List.getElem_mem _)
              obtain ⟨r, hr⟩ : ∃ r, k.tmod (2 * n + 1) = r := ⟨_, rfl⟩
              have hr0 : 0 ≤ r := by rw [← hr]; exact Int.tmod_nonneg _ hk0
              have hr1 : r < 2 * n + 1 := by rw [← hr]; exact Int.tmod_lt_of_pos k (by omega)
              have hnz : ¬ 2 * n + 1 = 0 := by omega
              clear hk htc htl h0
              go_wp2
              go_meet
              exact ⟨r - n, rfl, by omega, by omega, rfl⟩
          case rest =>
            obtain ⟨now, rfl, hw1, hw2, hwc⟩ := hcut
            rw [hwc]
            clear hwc
            go_wp2
            go_loopw [8, 9, 10] (fun u nw y wr => ∃ (i : Nat) (l : List Int) (now : Int), i ≤ R.rows.length ∧ y = .int .i64 i ∧ nw = .int .i64 now ∧ -n ≤ now ∧ now ≤ n ∧ RowKit.Hid (wr.ownsRow w2.heap.size 3 1 u l.length (iCs l)) ∧ RowKit.Hid (ShInv n i now l) ∧ RowKit.Hid (Below w2.heap.size w2 wr)) (fun _ _ y _ => R.rows.length - (intOf y).toNat)
            case atStart => exact ⟨0, [], now, Nat.zero_le _, rfl, rfl, hw1, hw2, Lib.hid (World.ownsRow_nil _ _ _ _), Lib.hid (shInv_zero n now), Lib.hid (Below.refl _ _)⟩
            clear hw1 hw2
            obtain ⟨i, l, now, hi, rfl, rfl, hw1, hw2, hrow, hS, hW⟩ := hrel
            have y0 : wr.cell? ⟨w.heap.size, 0, none⟩ = some (.int .i64 R.tracks) := (HK2.out.below hW.out).cell 0
            have y1 : wr.cell? ⟨w.heap.size, 1, none⟩ = some (.slice av R.rows.length cv) := (HK2.out.below hW.out).cell 1
            have HWW := Lib.hid (below_step HB2.out hW.out)
            have hll : l.length ≤ 20000 := by have := hS.out.len; omega
            clear x0 x1
            by_cases hlt : i < R.rows.length
            · have hi2 : (i : Int) < (R.rows.length : Int) := by omega
              obtain ⟨bb, hbb⟩ : ∃ bb, decide (0 < i ∧ 0 < tn) = bb := ⟨_, rfl⟩
              have HBB := Lib.hid hbb
              clear hbb
              go_upto_region 11 with fail
              go_cut [65, 10] from 52 to 86 (fun x65 x10 wx => x65 = .bool bb ∧ x10 = .int .i64 i ∧ wx = wr)
              case first =>
                by_cases h0i : 0 < i
                · have h0i' : (0 : Int) < (i : Int) := by omega
                  by_cases h0t : 0 < tn
                  · have h0t' : (0 : Int) < (tn : Int) := by omega
                    have HE : RowKit.Hid (bb = true) := Lib.hid (by rw [← HBB.out]; exact decide_eq_true ⟨h0i, h0t⟩)
                    go_wp2
                    go_meet
                    exact ⟨by rw [HE.out], rfl, rfl⟩
                  · have h0t' : ¬ (0 : Int) < (tn : Int) := by omega
                    have HE : RowKit.Hid (bb = false) := Lib.hid (by rw [← HBB.out]; exact decide_eq_false (by omega))
                    go_wp2
                    go_meet
                    exact ⟨by rw [HE.out], rfl, rfl⟩
                · have h0i' : ¬ (0 : Int) < (i : Int) := by omega
                  have HE : RowKit.Hid (bb = false) := Lib.hid (by rw [← HBB.out]; exact decide_eq_false (by omega))
                  go_wp2
                  go_meet
                  exact ⟨by rw [HE.out], rfl, rfl⟩
              case rest =>
              obtain ⟨rfl, rfl, hwc⟩ := hcut
              rw [hwc]
              clear hwc
              go_upto_if 65 with fail
              go_cut [9, 10] from 52 to 86 (fun x9 x10 wx => ∃ now' : Int, x9 = .int .i64 now' ∧ x10 = .int .i64 i ∧ -n ≤ now' ∧ now' ≤ n ∧ (0 < i → now' - now ≤ 1 ∧ now - now' ≤ 1) ∧ wx = wr)
              case first =>
                have hbb := HBB.out
                cases bb with
                | true =>
                  obtain ⟨h0i, h0t⟩ := of_decide_eq_true hbb
                  have hmod : i % tn < tn := Nat.mod_lt _ h0t
                  obtain ⟨m, hm⟩ : ∃ m, i % tn = m := ⟨_, rfl⟩
                  have hmt : (i : Int).tmod (tn : Int) = (m : Int) := by rw [← hm]; rfl
                  rw [hm] at hmod
                  have hmod2 : (m : Int) < (tn : Int) := by omega
                  obtain ⟨tb, tof, tc', etv, htl, htc⟩ := HTV.out.u8At m (by rw [HTN.out]; exact hmod)
                  simp only [Value.slice.injEq] at etv
                  obtain ⟨rfl, -, rfl⟩ := etv
                  have htc2 := (HWW.out.cell (p := ⟨tb, tof + m, none⟩) htl).trans htc
                  obtain ⟨k, hk⟩ : ∃ k, tu[m]'(by rw [HTN.out]; exact hmod) = k := ⟨_, rfl⟩
                  rw [hk] at htc2
                  obtain ⟨hk0, hk1⟩ := HTB.out k (by rw [← hk]; exact List.getElem_mem _)
                  obtain ⟨r, hr⟩ : ∃ r, k.tmod 3 = r := ⟨_, rfl⟩
                  have hr0 : 0 ≤ r := by rw [← hr]; exact Int.tmod_nonneg _ hk0
                  have hr1 : r < 3 := by rw [← hr]; exact Int.tmod_lt_of_pos k (by omega)
                  have hnz : ¬ (tn : Int) = 0 := by omega
                  clear hk htc htl hm hbb
                  go_wp2
                  go_meet
                  exact ⟨_, rfl, rfl, by omega, by omega, fun _ => by omega, rfl⟩
                | false =>
                  have hno := of_decide_eq_false hbb
                  clear hbb
                  go_wp2
                  go_meet
                  exact ⟨now, rfl, rfl, hw1, hw2, fun _ => by omega, rfl⟩
              case rest =>
                obtain ⟨now', rfl, rfl, hv1, hv2, hv3, hwc⟩ := hcut
                rw [hwc]
                clear hwc
                have HS2 := Lib.hid (hS.out.next hv1 hv2 hv3)
                obtain ⟨ua, uc, rfl⟩ := own_form hrow.out
                obtain ⟨i0, hi0, hz0, hz1, hz2⟩ := info_parts int_info
                have hsz := hW.out.size
                have HPL := Lib.hid (fun (o : Obj) (w3 : World) (hg : (wr.alloc o).grownBy w3 (Value.slice ua l.length uc).ownBlock) => push_low hW.out hrow.out hg)
                go_wp2_with (at_builtin; refine wpList_append_lies _ rfl _ _ 32 rfl w2.heap.size 3 i0 _ 1 8 Tryd.underlying32 hi0 hz0 hz1 hz2 rfl (by omega) _ _ _ rfl (hrow.out.alloc _) ⟨wr.heap.size, 0, none⟩ 1 1 [.int .i64 now'] rfl rfl (World.news_of_block (cs := #[.int .i64 now']) (t := 3) (fr := (0, 0)) (heap_alloc_new wr _)) (by simp [Value.oneCell']) (by omega) (by unfold maxLen; omega) (by omega) (by simp; omega) (wr.heap.size + 1) (by simp) ?_; intro gg cap3 w3 hown3 hgrow hat3 hlt3)
                have HP2 : RowKit.Hid (w3.ownsRow w2.heap.size 3 1 (.slice (some ⟨gg, 0, none⟩) (l.length + 1) cap3) (l ++ [now']).length (iCs (l ++ [now']))) := by
                  rw [List.length_append, List.length_singleton, iCs_snoc]
                  exact Lib.hid hown3
                have HB3 := Lib.hid (HPL.out _ _ hgrow)
                clear hown3 hgrow hat3 hlt3
                go_roundw
                case rel => exact ⟨i + 1, l ++ [now'], now', by omega, by go_num, rfl, hv1, hv2, HP2, HS2, HB3⟩
                case measure => simp [intOf]; omega
            · have hi2 : ¬ (i : Int) < (R.rows.length : Int) := by omega
              have hie : i = R.rows.length := by omega
              obtain ⟨hsc, hst⟩ := scan_straight HG.out h0n hn10 (by omega) hie hS.out
              have HSC := Lib.hid hsc
              have HST := Lib.hid hst
              have HLI := Lib.hid (ARd.of_ints hrow.out)
              obtain ⟨ua, uc, rfl⟩ := own_form hrow.out
              clear hie hsc hst
              have HP2 := Lib.hid (HK2.out.below hW.out)
              clear hrow
              go_wp2_with fail
              refine (scan_any R OK.out _ f l _ n wr (HR.out.later HWW.out) HLI.out).mono ?_
              rw [HSC.out]
              rintro e w3 ⟨v3, g3, rfl, ho3, hb3⟩
              obtain ⟨a3, c3, rfl⟩ := ho3.form
              have hz3 : Below w3.heap.size w3 (w3.alloc (.cells #[.int .i64 (scRo R l n).tracks, .slice a3 (scRo R l n).rows.length c3] 24)) := (Below.refl _ _).alloc (Nat.le_refl _) _
              have HB3 := Lib.hid (below_step (below_step HWW.out hb3) hz3)
              have HI3 := Lib.hid (ho3.later hz3)
              have HK3 := Lib.hid ((HP2.out.below hb3).below hz3)
              have HQ3 := Lib.hid (Blk.new w3 24 #[.int .i64 (scRo R l n).tracks, .slice a3 (scRo R l n).rows.length c3])
              obtain ⟨Z, hZ⟩ : ∃ Z, scRo R l n = Z := ⟨_, rfl⟩
              have HZO := Lib.hid (show RoOk Z by rw [← hZ]; exact scRo_ok OK.out)
              rw [hZ] at HST HB3 HI3 HK3 HQ3 ⊢
              clear ho3 hb3 hz3 hZ y0 y1
              go_wp2_with fail
              obtain ⟨W3, hW3⟩ : ∃ W3, w3.alloc (.cells #[.int .i64 Z.tracks, .slice a3 Z.rows.length c3] 24) = W3 := ⟨_, rfl⟩
              rw [hW3] at HB3 HI3 HK3 HQ3 ⊢
              clear hW3
              have q0 := HQ3.out.cell 0
              have q1 := HQ3.out.cell 1
              go_wp2_with fail
              refine (str_any Z HZO.out _ _ n _ (HD.out.below HB3.out) HI3.out).mono ?_
              rw [HST.out]
              rintro e w4 ⟨v4, g4, rfl, ho4, hb4⟩
              obtain ⟨a4, c4, rfl⟩ := ho4.form
              have hz4 : Below w4.heap.size w4 (w4.alloc (.cells #[.int .i64 R.tracks, .slice a4 R.rows.length c4] 24)) := (Below.refl _ _).alloc (Nat.le_refl _) _
              have HB4 := Lib.hid (below_step (below_step HB3.out hb4) hz4)
              have HI4 := Lib.hid (ho4.later hz4)
              have HK4 := Lib.hid ((HK3.out.below hb4).below hz4)
              have HQ4 := Lib.hid (Blk.new w4 24 #[.int .i64 R.tracks, .slice a4 R.rows.length c4])
              have HL2 := Lib.hid (show ∀ m ∈ R.rows, m.length ≤ 1000000 from fun m hm => Nat.le_trans (OK.out.row hrl m hm) (by omega))
              have z0 := HK4.out.cell 0
              have z1 := HK4.out.cell 1
              have u0 := HQ4.out.cell 0
              have u1 := HQ4.out.cell 1
              clear ho4 hb4 hz4 q0 q1
              go_wp2_with first | (go_at_call 13; refine (same_rolls R (by omega) HL2.out _ _ _ _ _ HI4.out (HR.out.later HB4.out)).mono ?_; rintro e w5 ⟨rfl, hb5⟩) | (go_at_call 10; refine (shown32_any _ (HT.out.below (below_step HB4.out hb5))).mono ?_; rintro e w6 ⟨rfl, hb6⟩)
              go_ret
              exact ⟨rfl, below_step (below_step HB4.out hb5) hb6⟩
      · have he2 : (er == 0) = false := by rw [beq_eq_false_iff_ne]; exact he
        go_wp2_with fail
        refine (shown32_any _ (HT.out.below HB2.out)).mono ?_
        rintro e w9 ⟨rfl, hb9⟩
        have HB9 := Lib.hid (below_step HB2.out hb9)
        clear hb9
        go_wp2
        go_ret
        exact ⟨rfl, HB9.out⟩
end Go.Proofs.YtppccacfdpkkgaaDoor
