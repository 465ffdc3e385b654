/-
  CONTRACTS: PipesOf.
-/
import Derived.Test.YtkddeliifadcoaaDoorE5
import Derived.Test.YtkddeliifadcoaaDoorE6
namespace Go.Proofs.YtkddeliifadcoaaDoor
open Go.RowKit
set_option maxRecDepth 100000 in
set_option maxHeartbeats 3200000 in
theorem pipesOf_err (v1 v2 v3 v4 : Value) (S : Sp) (ok : SpOk S) (stop key : Int) (w : World) (t : Tabs w) (f : Nat → Value) (hsp : SpRd w v1 v2 v3 v4 f S) (hz : (checkP S).2 ≠ 0) :
    Calls Tryd.prog 12 #[.agg #[v1, v2, v3, v4], .int .i64 stop, .int .i64 key] w (PpEnds (pipesOfP S stop key) w) := by
  have hb0 : Below w.heap.size w (w.alloc (.cells #[v1, v2, v3, v4] 27)) := (Below.refl _ w).alloc (Nat.le_refl _) _
  have HC := Lib.hid (check_any v1 v2 v3 v4 S ok _ (t.below hb0) f (hsp.later hb0))
  have HP := Lib.hid (pipesOf_bad (stop := stop) (key := key) hz)
  obtain ⟨er, her⟩ : ∃ er, er = (checkP S).2 := ⟨_, rfl⟩
  obtain ⟨fl, hfl⟩ : ∃ fl, fl = (checkP S).1 := ⟨_, rfl⟩
  have hcv : ckV (checkP S) = .tuple #[.agg #[.int .i64 fl.1, .int .i64 fl.2.1, .int .i64 fl.2.2], .int .i64 er] := by unfold ckV; rw [her, hfl]
  rw [hcv] at HC
  rw [← her] at HP hz
  have b1 : (er == 0) = false := beq_eq_false_iff_ne.2 hz
  clear hcv her hfl hz ok hsp
  go_enter Tryd.func12, Tryd.ntmps12
  go_wp2_with fail
  refine (HC.out).mono ?_
  rintro e w1 ⟨rfl, hb1⟩
  have hb := below_step hb0 hb1
  go_wp2
  go_ret2
  exact ppEnds_none rfl HP.out (hb.alloc hb.size _)
/-- What a key plays by the first parts of a stop. -/
def plTo (x : St) (key : Int) (k : Nat) : List Pp := ((x.parts.take k).filter fun y => decide (y.lo ≤ key ∧ key ≤ y.hi)).map fun y => (y.rank, key + y.shift)
theorem plTo_yes {x : St} {key : Int} {k : Nat} (h : k < x.parts.length) (h1 : x.parts[k].lo ≤ key) (h2 : key ≤ x.parts[k].hi) : plTo x key (k + 1) = plTo x key k ++ [(x.parts[k].rank, key + x.parts[k].shift)] := by
  unfold plTo
  rw [filter_take_yes h (by simpa using ⟨h1, h2⟩), List.map_append]
  rfl
theorem plTo_no {x : St} {key : Int} {k : Nat} (h : k < x.parts.length) (h1 : ¬ (x.parts[k].lo ≤ key ∧ key ≤ x.parts[k].hi)) : plTo x key (k + 1) = plTo x key k := by
  unfold plTo
  rw [filter_take_no h (by simpa using h1)]
theorem plTo_len {x : St} {key : Int} {k : Nat} : (plTo x key k).length ≤ k := by
  unfold plTo
  rw [List.length_map]
  have h1 := List.length_filter_le (fun y : Pt => decide (y.lo ≤ key ∧ key ≤ y.hi)) (x.parts.take k)
  rw [List.length_take] at h1
  omega
theorem plTo_all {x : St} {key : Int} : plTo x key x.parts.length = playsL x key := by unfold plTo playsL; rw [List.take_length]
/-- The program's list and the reference's. -/
theorem plays_end {S : Sp} (g : SpGood S) {x : St} (hx : x ∈ S.ss) {key : Int} {m : List Pp} (hp : m.Perm (playsL x key)) (hs : m.Pairwise ppLe) : squeeze m = (allFrom 0 S.rs).filter (playsB x key) :=
  plays_law hs (fun _ => hp.mem_iff) (asc_allFrom _ _) (g.plays hx)
theorem plays_sm {S : Sp} (g : SpGood S) {x : St} (hx : x ∈ S.ss) {key : Int} : ∀ p ∈ playsL x key, Sm p := by
  intro p hp
  obtain ⟨k, hk, h1, h2, h3⟩ := mem_allFrom.1 (g.plays hx p hp)
  have hr := rk_ok (g.r _ (List.getElem_mem hk))
  have := g.rs
  unfold Sm
  omega
set_option maxRecDepth 100000 in
set_option maxHeartbeats 3200000 in
theorem pipesOf_good (v1 v2 v3 v4 : Value) (S : Sp) (ok : SpOk S) (stop key : Int) (w : World) (t : Tabs w) (f : Nat → Value) (hsp : SpRd w v1 v2 v3 v4 f S) (hz : (checkP S).2 = 0) :
    Calls Tryd.prog 12 #[.agg #[v1, v2, v3, v4], .int .i64 stop, .int .i64 key] w (PpEnds (pipesOfP S stop key) w) := by
  have hb0 : Below w.heap.size w (w.alloc (.cells #[v1, v2, v3, v4] 27)) := (Below.refl _ w).alloc (Nat.le_refl _) _
  have k0 : Blk (w.alloc (.cells #[v1, v2, v3, v4] 27)) w.heap.size 27 #[v1, v2, v3, v4] := Blk.new w _ _
  have HC := Lib.hid (check_any v1 v2 v3 v4 S ok _ (t.below hb0) f (hsp.later hb0))
  have HSP := Lib.hid hsp
  have HG := Lib.hid (spGood hz)
  obtain ⟨⟨a1, c1, ev1⟩, _, ⟨a3, c3, ev3⟩, _⟩ := hsp.forms
  subst ev1
  subst ev3
  obtain ⟨fl, hfl⟩ : ∃ fl, fl = (checkP S).1 := ⟨_, rfl⟩
  have hcv : ckV (checkP S) = .tuple #[.agg #[.int .i64 fl.1, .int .i64 fl.2.1, .int .i64 fl.2.2], .int .i64 0] := by unfold ckV; rw [hz, hfl]
  rw [hcv] at HC
  have HZ := Lib.hid hz
  have hss := HG.out.ss
  clear hcv hfl hz ok hsp
  by_cases hs : 0 ≤ stop ∧ stop < S.ss.length
  · obtain ⟨i, rfl⟩ := Int.eq_ofNat_of_zero_le hs.1
    have hi : i < S.ss.length := by omega
    have HW1 := Lib.hid (fun W => within_yes (i : Int) 0 ((S.ss.length : Int) - 1) W (by omega) (by omega))
    obtain ⟨d1, d2, d3, d4⟩ := HG.out.s _ (List.getElem_mem hi)
    obtain ⟨j, hj⟩ := Int.eq_ofNat_of_zero_le d1
    have hjl : j < S.ds.length := by omega
    have HP := Lib.hid (pipesOf_key (key := key) HZ.out hi hj hjl)
    have hdv := dv_ok (HG.out.d _ (List.getElem_mem hjl))
    have HJ := Lib.hid hj
    clear hj d1 d2 hs
    go_enter Tryd.func12, Tryd.ntmps12
    go_wp2_with fail
    refine (HC.out).mono ?_
    rintro e w1 ⟨rfl, hb1⟩
    have k1 := k0.below hb1
    have hb := below_step hb0 hb1
    have hbA : Below w.heap.size w (w1.alloc (.cells #[.int .i64 fl.1, .int .i64 fl.2.1, .int .i64 fl.2.2] 31)) := hb.alloc hb.size _
    have k2 := k1.alloc (.cells #[.int .i64 fl.1, .int .i64 fl.2.1, .int .i64 fl.2.2] 31)
    obtain ⟨W2, hW2⟩ : ∃ W2, W2 = w1.alloc (.cells #[.int .i64 fl.1, .int .i64 fl.2.1, .int .i64 fl.2.2] 31) := ⟨_, rfl⟩
    rw [← hW2] at hbA k2
    have HBA := Lib.hid hbA
    have HK2 := Lib.hid k2
    obtain ⟨s0, s1, s2, s3⟩ := k2.four
    have HSA := Lib.hid (HSP.out.later hbA)
    obtain ⟨b, o, c, ev, hbl, r0, r1, r2, r3, r4⟩ := HSA.out.sAt i hi
    obtain ⟨bd, od, cd, evd, hbld, q0, q1, q2⟩ := HSA.out.dAt j hjl
    cases ev
    cases evd
    rw [HJ.out] at r1
    obtain ⟨ap, cp, efp⟩ := (HSA.out.p i hi).form
    rw [List.length_map] at efp
    rw [efp] at r4
    have EFP := Lib.hid efp
    clear efp
    subst hW2
    go_wp2_with fail
    refine (HW1.out _).mono ?_
    rintro e w' ⟨rfl, rfl⟩
    generalize w1.alloc (.cells #[.int .i64 fl.1, .int .i64 fl.2.1, .int .i64 fl.2.2] 31) = W2 at *
    clear HC k0 hb0 k1 hb hbA hb1 HW1
    have t0 := cell_alloc s0
    have y0 := cell_alloc q0
    have y1 := cell_alloc q1
    have y2 := cell_alloc q2
    obtain ⟨W4, hW4⟩ : ∃ W4, W4 = (W2.alloc (.cells #[.string S.ss[i].name, .int .i64 j, .int .i64 S.ss[i].num, .int .i64 S.ss[i].den, .slice ap S.ss[i].parts.length cp] 61)).alloc (.cells #[.string S.ds[j].name, .int .i64 S.ds[j].lo, .int .i64 S.ds[j].hi] 54) := ⟨_, rfl⟩
    have hb24 : Below W2.heap.size W2 W4 := by rw [hW4]; exact ((Below.refl _ W2).alloc (Nat.le_refl _) _).alloc (by simp) _
    have kst : Blk W4 W2.heap.size 61 #[.string S.ss[i].name, .int .i64 j, .int .i64 S.ss[i].num, .int .i64 S.ss[i].den, .slice ap S.ss[i].parts.length cp] := by rw [hW4]; exact (Blk.new W2 _ _).alloc _
    have HW4 := Lib.hid hW4
    have HB4 := Lib.hid (below_step HBA.out hb24)
    have HS4 := Lib.hid (HSA.out.later hb24)
    have HF4 := Lib.hid (show W4.cell? ⟨W2.heap.size, 4, none⟩ = some (.slice ap S.ss[i].parts.length cp) from kst.cell 4)
    clear hW4 kst hb24
    by_cases hk : S.ds[j].lo ≤ key ∧ key ≤ S.ds[j].hi
    · have HPP := Lib.hid (HP.out.trans (if_pos hk))
      obtain ⟨hk1, hk2⟩ := hk
      have HWY := Lib.hid (fun W => within_yes key S.ds[j].lo S.ds[j].hi W hk1 hk2)
      clear HP
      go_wp2_with fail
      refine (HWY.out _).mono ?_
      rintro e w' ⟨rfl, rfl⟩
      rw [← HW4.out]
      clear HW4 t0 y0 y1 y2 s0 s1 s2 s3 r0 r1 r2 r3 r4 q0 q1 q2 HWY
      obtain ⟨x, hx⟩ : ∃ x, x = S.ss[i] := ⟨_, rfl⟩
      have HX := Lib.hid (hx ▸ List.getElem_mem hi : x ∈ S.ss)
      have HFV := Lib.hid (HS4.out.p i hi)
      rw [EFP.out] at HFV
      have e4 := HF4.out
      rw [← hx] at HFV HPP d3 d4 HJ e4
      rw [← hx]
      have hst : RowKit.Hid (W4.ownsRow W4.heap.size 46 2 (.slice none 0 0) (plTo x key 0).length (ppCs (plTo x key 0))) := Lib.hid (World.ownsRow_nil _ _ _ _)
      have hrefl : RowKit.Hid (Below W4.heap.size W4 W4) := Lib.hid (Below.refl _ _)
      obtain ⟨i0, hi0, hz0, hz1, hz2⟩ := info_parts pp_info
      clear hx HF4
      go_wp2
      go_loopw [12, 51] (fun v y wr => ∃ k : Nat, k ≤ x.parts.length ∧ y = .int .i64 k ∧ RowKit.Hid (wr.ownsRow W4.heap.size 46 2 v (plTo x key k).length (ppCs (plTo x key k))) ∧ RowKit.Hid (Below W4.heap.size W4 wr)) (fun _ y _ => x.parts.length - (intOf y).toNat)
      case atStart => exact ⟨0, by omega, rfl, hst, hrefl⟩
      clear hst hrefl
      obtain ⟨k, hk, rfl, hrow, hW⟩ := hrel
      by_cases hlt : k < x.parts.length
      · obtain ⟨bp, op, cp', evp, hbp, hc⟩ := (HFV.out.later hW.out).at k (by simpa using hlt)
        rw [List.getElem_map] at hc
        rw [List.length_map] at evp
        cases evp
        have p0 : wr.cell? ⟨bp, op + k * 4, none⟩ = some (.int .i64 x.parts[k].rank) := hc 0 _ rfl
        have p1 : wr.cell? ⟨bp, op + k * 4 + 1, none⟩ = some (.int .i64 x.parts[k].shift) := hc 1 _ rfl
        have p2 : wr.cell? ⟨bp, op + k * 4 + 2, none⟩ = some (.int .i64 x.parts[k].lo) := hc 2 _ rfl
        have p3 : wr.cell? ⟨bp, op + k * 4 + 3, none⟩ = some (.int .i64 x.parts[k].hi) := hc 3 _ rfl
        have hki : (k : Int) < (x.parts.length : Int) := by omega
        obtain ⟨hsh1, hsh2⟩ : -96 ≤ x.parts[k].shift ∧ x.parts[k].shift ≤ 96 := by
          obtain ⟨_, _, _, h1, h2, _⟩ := HG.out.part HX.out (List.getElem_mem hlt)
          exact ⟨h1, h2⟩
        have e1 : IntKind.i64.wrap (key + x.parts[k].shift) = key + x.parts[k].shift := IntWalk.i64_in _ (by omega)
        have hb5 : Below wr.heap.size wr (wr.alloc (.cells #[.int .i64 x.parts[k].rank, .int .i64 x.parts[k].shift, .int .i64 x.parts[k].lo, .int .i64 x.parts[k].hi] 75)) := (Below.refl _ _).alloc (Nat.le_refl _) _
        have HB5 := Lib.hid (below_step hW.out hb5)
        have hsz5 := HB5.out.size
        clear hc
        by_cases hin : x.parts[k].lo ≤ key ∧ key ≤ x.parts[k].hi
        · have HWY := Lib.hid (fun W => within_yes key x.parts[k].lo x.parts[k].hi W hin.1 hin.2)
          have HT := Lib.hid (plTo_yes hlt hin.1 hin.2)
          have hrow2 := row_later hrow.out hb5
          have hlen2 := plTo_len (x := x) (key := key) (k := k)
          clear hin
          go_wp2_with (first | (go_at_call 35; refine (HWY.out _).mono ?_; rintro e w' ⟨rfl, rfl⟩) | (at_builtin; refine wpList_append_lies _ rfl _ _ 37 rfl W4.heap.size 46 i0 _ 2 16 Tryd.underlying37 hi0 hz0 hz1 hz2 rfl (by omega) _ _ _ rfl (hrow2.alloc _) ⟨wr.heap.size + 1, 0, none⟩ 1 1 [.int .i64 x.parts[k].rank, .int .i64 (key + x.parts[k].shift)] rfl (by simp) (World.news_of_block (cs := #[.int .i64 x.parts[k].rank, .int .i64 (key + x.parts[k].shift)]) (t := 46) (fr := (0, 0)) (by have := heap_alloc_new (wr.alloc (.cells #[.int .i64 x.parts[k].rank, .int .i64 x.parts[k].shift, .int .i64 x.parts[k].lo, .int .i64 x.parts[k].hi] 75)) (.cells #[.int .i64 x.parts[k].rank, .int .i64 (key + x.parts[k].shift)] 46); rwa [World.size_alloc] at this)) (by simp [Value.oneCell']) (by omega) (by unfold maxLen; omega) (by omega) (by simp at *; omega) (wr.heap.size + 1 + 1) (by simp) ?_; intro gg cap w3 hown3 hgrow hat3 hlt3))
          have HQ := Lib.hid (pps_step (l := plTo x key k) (p := (x.parts[k].rank, key + x.parts[k].shift)) hown3 rfl)
          rw [← HT.out] at HQ
          have HB := Lib.hid (push_low HB5.out hrow2 hgrow)
          refine ⟨⟨k + 1, by omega, by go_num, HQ, HB⟩, by simp [intOf]; omega⟩
        · have HWN := Lib.hid (fun W => within_no key x.parts[k].lo x.parts[k].hi W hin)
          have HT := Lib.hid (plTo_no hlt hin)
          have hrow2 := row_later hrow.out hb5
          rw [← HT.out] at hrow2
          have HR2 := Lib.hid hrow2
          clear hin hrow2
          go_wp2_with (go_at_call 35; refine (HWN.out _).mono ?_; rintro e w' ⟨rfl, rfl⟩)
          go_roundw
          case rel => exact ⟨k + 1, by omega, by go_num, HR2, HB5⟩
          case measure => simp [intOf]; omega
      · have hke : k = x.parts.length := by omega
        have hki : ¬ ((k : Int) < (x.parts.length : Int)) := by omega
        have HE := hrow.out
        rw [hke, plTo_all] at HE
        have hll : (playsL x key).length ≤ 12 := by rw [← plTo_all]; exact Nat.le_trans plTo_len d4
        have HSO := Lib.hid (sortP_any (playsL x key) (plays_sm HG.out HX.out) (by omega) W4.heap.size u12 wr HE)
        have hge := fun j (e : u12.ownBlock = some j) => row_ge HE e
        have HGE := Lib.hid hge
        clear HE hrow hke hge e4
        go_wp2_with fail
        refine (HSO.out).mono ?_
        rintro e w5 ⟨rfl, m, hpm, hpw, hrow5, hg5⟩
        have HB6 := Lib.hid (hW.out.grown hg5 hW.out.size HGE.out)
        have hml : m.length ≤ 12 := by rw [hpm.length_eq]; exact hll
        have HCO := Lib.hid (compact_any m (by omega) W4.heap.size u12 w5 hrow5)
        have HPE := Lib.hid (plays_end HG.out HX.out hpm hpw)
        clear hpm hpw hrow5 hg5
        go_wp2_with fail
        refine (HCO.out).mono ?_
        rintro e w6 ⟨u, rfl, hrow6, hg6⟩
        have HB7 := Lib.hid (HB4.out.trans ((HB6.out.grown hg6 HB6.out.size HGE.out).mono HB4.out.size))
        rw [HPE.out] at hrow6
        have HR6 := Lib.hid (row_base hrow6 HB4.out.size)
        clear hrow6 hg6
        go_wp2
        go_ret2
        exact ppEnds_some (u := u) rfl HPP.out HR6.out HB7.out
    · have HPP := Lib.hid (HP.out.trans (if_neg hk))
      have HWN := Lib.hid (fun W => within_no key S.ds[j].lo S.ds[j].hi W hk)
      clear HP hk
      go_wp2_with fail
      refine (HWN.out _).mono ?_
      rintro e w' ⟨rfl, rfl⟩
      rw [← HW4.out]
      clear HW4 t0 y0 y1 y2 s0 s1 s2 s3 r0 r1 r2 r3 r4 q0 q1 q2
      go_wp2
      go_ret2
      exact ppEnds_none rfl HPP.out HB4.out
  · have HW1 := Lib.hid (fun W => within_no stop 0 ((S.ss.length : Int) - 1) W (by omega))
    have HP := Lib.hid (pipesOf_stop (key := key) HZ.out hs)
    clear hs
    go_enter Tryd.func12, Tryd.ntmps12
    go_wp2_with fail
    refine (HC.out).mono ?_
    rintro e w1 ⟨rfl, hb1⟩
    have k1 := k0.below hb1
    have hb := below_step hb0 hb1
    obtain ⟨s0, s1, s2, s3⟩ := (k1.alloc (.cells #[.int .i64 fl.1, .int .i64 fl.2.1, .int .i64 fl.2.2] 31)).four
    go_wp2_with (go_at_call 35; refine (HW1.out _).mono ?_; rintro e w' ⟨rfl, rfl⟩)
    go_ret2
    exact ppEnds_none rfl HP.out (hb.alloc hb.size _)
theorem pipesOf_any (v1 v2 v3 v4 : Value) (S : Sp) (ok : SpOk S) (stop key : Int) (w : World) (t : Tabs w) (f : Nat → Value) (hsp : SpRd w v1 v2 v3 v4 f S) :
    Calls Tryd.prog 12 #[.agg #[v1, v2, v3, v4], .int .i64 stop, .int .i64 key] w (PpEnds (pipesOfP S stop key) w) := by
  by_cases hz : (checkP S).2 = 0
  · exact pipesOf_good v1 v2 v3 v4 S ok stop key w t f hsp hz
  · exact pipesOf_err v1 v2 v3 v4 S ok stop key w t f hsp hz
end Go.Proofs.YtkddeliifadcoaaDoor
