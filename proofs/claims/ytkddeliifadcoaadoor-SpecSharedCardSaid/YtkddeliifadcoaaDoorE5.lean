/-
  CONTRACTS: the reference's PipesOf.
-/
import Derived.Test.YtkddeliifadcoaaDoorE4
import Derived.Test.YtkddeliifadcoaaDoorHeld
import Derived.RegionTactic
import Derived.ChangeAlike
import Derived.BigRegion
import Derived.Deep.RegionHeld3
namespace Go.Proofs.YtkddeliifadcoaaDoor
open Go.RowKit
/-- What PipesOf says. -/
def pipesOfP (S : Sp) (stop key : Int) : List Pp × Int :=
  if (checkP S).2 = 0 then
    (if 0 ≤ stop ∧ stop < S.ss.length then
      match S.ss[stop.toNat]? with
      | none => ([], 4)
      | some x => match S.ds[x.div.toNat]? with
        | none => ([], 4)
        | some d => if d.lo ≤ key ∧ key ≤ d.hi then ((allFrom 0 S.rs).filter (playsB x key), 0) else ([], 7)
    else ([], 4))
  else ([], (checkP S).2)
/-- How PipesOf ends. -/
def PpEnds (r : List Pp × Int) (w : World) (e : Ending) (w' : World) : Prop := ∃ v, e = .returned (.tuple #[v, .int .i64 r.2]) ∧ w'.ownsRow w.heap.size 46 2 v r.1.length (ppCs r.1) ∧ Below w.heap.size w w'
theorem ppEnds_none {w w' : World} {k : Int} {r : List Pp × Int} {v : Value} (hv : v = .tuple #[.slice none 0 0, .int .i64 k]) (h : r = ([], k)) (hb : Below w.heap.size w w') : PpEnds r w (.returned v) w' :=
  ⟨_, by rw [hv, h], by rw [h]; exact World.ownsRow_nil _ _ _ _, hb⟩
theorem ppEnds_some {w w' : World} {k : Int} {l : List Pp} {r : List Pp × Int} {u v : Value} (hv : v = .tuple #[u, .int .i64 k]) (h : r = (l, k)) (ho : w'.ownsRow w.heap.size 46 2 u l.length (ppCs l)) (hb : Below w.heap.size w w') : PpEnds r w (.returned v) w' :=
  ⟨u, by rw [hv, h], by rw [h]; exact ho, hb⟩
theorem pipesOf_bad {S : Sp} {stop key : Int} (h : (checkP S).2 ≠ 0) : pipesOfP S stop key = ([], (checkP S).2) := by unfold pipesOfP; rw [if_neg h]
theorem pipesOf_stop {S : Sp} {stop key : Int} (h : (checkP S).2 = 0) (hs : ¬ (0 ≤ stop ∧ stop < S.ss.length)) : pipesOfP S stop key = ([], 4) := by unfold pipesOfP; rw [if_pos h, if_neg hs]
theorem pipesOf_key {S : Sp} {key : Int} {i j : Nat} (h : (checkP S).2 = 0) (hi : i < S.ss.length) (hd : S.ss[i].div = j) (hj : j < S.ds.length) : pipesOfP S i key = if S.ds[j].lo ≤ key ∧ key ≤ S.ds[j].hi then ((allFrom 0 S.rs).filter (playsB S.ss[i] key), 0) else ([], 7) := by
  unfold pipesOfP
  rw [if_pos h, if_pos ⟨by omega, by omega⟩]
  simp only [Int.toNat_natCast, List.getElem?_eq_getElem hi, hd, List.getElem?_eq_getElem hj]
theorem filter_take_yes {α : Type} {l : List α} {q : α → Bool} {k : Nat} (h : k < l.length) (hq : q l[k] = true) : (l.take (k + 1)).filter q = (l.take k).filter q ++ [l[k]] := by
  rw [List.take_succ_eq_append_getElem h, List.filter_append]
  simp [hq]
theorem filter_take_no {α : Type} {l : List α} {q : α → Bool} {k : Nat} (h : k < l.length) (hq : q l[k] = false) : (l.take (k + 1)).filter q = (l.take k).filter q := by
  rw [List.take_succ_eq_append_getElem h, List.filter_append]
  simp [hq]
/-- Of a specification without a fault: what the walks need. -/
structure SpGood (S : Sp) : Prop where
  ds : S.ds.length ≤ 6
  rs : S.rs.length ≤ 40
  ss : S.ss.length ≤ 80
  cs : S.cs.length ≤ 24
  d : ∀ d ∈ S.ds, dvE d = 0
  r : ∀ r ∈ S.rs, rkE r = 0
  s : ∀ x ∈ S.ss, 0 ≤ x.div ∧ x.div < S.ds.length ∧ 0 < x.parts.length ∧ x.parts.length ≤ 12
  p : ∀ x ∈ S.ss, ∀ y ∈ x.parts, ptE S x y = 0
theorem spGood {S : Sp} (h : (checkP S).2 = 0) : SpGood S := by
  obtain ⟨h1, h2, h3, h4, h5, h6, h7, h8, h9⟩ := checkP_zero h
  have hS : ∀ j (hj : j < S.ss.length), errS S j = 0 ∧ ∀ y ∈ S.ss[j].parts, ptE S S.ss[j] y = 0 := by
    intro j hj
    have h := h8 j hj
    unfold stopE at h
    rw [List.getElem?_eq_getElem hj] at h
    by_cases hz : errS S j = 0
    · refine ⟨hz, ?_⟩
      simp only [hz, ne_eq, not_true_eq_false, if_false] at h
      cases hf : fst0 (errP S S.ss[j]) S.ss[j].parts.length with
      | none =>
        intro y hy
        obtain ⟨k, hk, rfl⟩ := List.mem_iff_getElem.1 hy
        have := fst0_none.1 hf k hk
        unfold errP at this
        rw [List.getElem?_eq_getElem hk] at this
        exact this
      | some k =>
        rw [hf] at h
        exact absurd h (fst0_is hf).2.1
    · simp only [hz, ne_eq, not_false_eq_true, if_true] at h
  refine ⟨h2, h3, h4, h5, all_dvE h6, all_rkE h7, fun x hx => ?_, fun x hx => ?_⟩
  · obtain ⟨j, hj, rfl⟩ := List.mem_iff_getElem.1 hx
    have hz := (hS j hj).1
    unfold errS at hz
    rw [List.getElem?_eq_getElem hj] at hz
    simp only at hz
    split at hz
    · cases hz
    · split at hz
      · have hz := nmE_zero hz
        unfold stE at hz
        split at hz
        · split at hz
          · exact ⟨by omega, by omega, by omega, by omega⟩
          · cases hz
        · cases hz
      · cases hz
  · obtain ⟨j, hj, rfl⟩ := List.mem_iff_getElem.1 hx
    exact (hS j hj).2
theorem dv_ok {d : Dv} (h : dvE d = 0) : 0 ≤ d.lo ∧ d.lo ≤ d.hi ∧ d.hi ≤ 127 ∧ d.hi - d.lo ≤ 60 := by
  unfold dvE at h
  split at h
  · omega
  · cases h
/-- A part of a stop of a good specification. -/
theorem SpGood.part {S : Sp} (g : SpGood S) {x : St} (hx : x ∈ S.ss) {y : Pt} (hy : y ∈ x.parts) : ∃ (k : Nat) (hk : k < S.rs.length), y.rank = k ∧ -96 ≤ y.shift ∧ y.shift ≤ 96 ∧ 0 ≤ y.lo ∧ y.lo ≤ y.hi ∧ y.hi ≤ 127 ∧ S.rs[k].low ≤ y.lo + y.shift ∧ y.hi + y.shift < S.rs[k].low + S.rs[k].cnt := by
  have h := g.p x hx y hy
  obtain ⟨d1, d2, _⟩ := g.s x hx
  unfold ptE at h
  split at h
  · next hr =>
    refine ⟨y.rank.toNat, by omega, by omega, ?_⟩
    rw [List.getElem?_eq_getElem (show x.div.toNat < S.ds.length by omega), List.getElem?_eq_getElem (show y.rank.toNat < S.rs.length by omega)] at h
    simp only at h
    have hd := dv_ok (g.d _ (List.getElem_mem (show x.div.toNat < S.ds.length by omega)))
    split at h
    · split at h
      · omega
      · cases h
    · cases h
  · cases h
theorem SpGood.plays {S : Sp} (g : SpGood S) {x : St} (hx : x ∈ S.ss) {key : Int} : ∀ p ∈ playsL x key, p ∈ allFrom 0 S.rs := by
  intro p hp
  unfold playsL at hp
  rw [List.mem_map] at hp
  obtain ⟨y, hy, rfl⟩ := hp
  rw [List.mem_filter] at hy
  obtain ⟨hy, hk⟩ := hy
  simp only [decide_eq_true_eq] at hk
  obtain ⟨k, hk', h1, h2⟩ := g.part hx hy
  rw [mem_allFrom]
  exact ⟨k, hk', by simpa using h1, by simp only; omega, by simp only; omega⟩
set_option maxRecDepth 100000 in
set_option maxHeartbeats 3200000 in
theorem rpipesOf_bad (v1 v2 v3 v4 : Value) (S : Sp) (ok : SpOk S) (stop key : Int) (w : World) (f : Nat → Value) (hsp : SpRd w v1 v2 v3 v4 f S) (hz : (checkP S).2 ≠ 0) :
    Calls Tryd.prog 13 #[.agg #[v1, v2, v3, v4], .int .i64 stop, .int .i64 key] w (PpEnds (pipesOfP S stop key) w) := by
  have hb0 : Below w.heap.size w (w.alloc (.cells #[v1, v2, v3, v4] 27)) := (Below.refl _ w).alloc (Nat.le_refl _) _
  have HC := Lib.hid (rcheck_any v1 v2 v3 v4 S ok _ f (hsp.later hb0))
  have HP := Lib.hid (pipesOf_bad (stop := stop) (key := key) hz)
  obtain ⟨er, her⟩ : ∃ er, er = (checkP S).2 := ⟨_, rfl⟩
  obtain ⟨fl, hfl⟩ : ∃ fl, fl = (checkP S).1 := ⟨_, rfl⟩
  have hcv : ckV (checkP S) = .tuple #[.agg #[.int .i64 fl.1, .int .i64 fl.2.1, .int .i64 fl.2.2], .int .i64 er] := by unfold ckV; rw [her, hfl]
  rw [hcv] at HC
  rw [← her] at HP hz
  have b1 : (er == 0) = false := beq_eq_false_iff_ne.2 hz
  clear hcv her hfl hz ok hsp
  go_enter Tryd.func13, Tryd.ntmps13
  go_wp2_with fail
  refine (HC.out).mono ?_
  rintro e w1 ⟨rfl, hb1⟩
  have hb := below_step hb0 hb1
  go_wp2
  go_ret2
  exact ppEnds_none rfl HP.out (hb.alloc hb.size _)
set_option maxRecDepth 100000 in
set_option maxHeartbeats 3200000 in
theorem rpipesOf_good (v1 v2 v3 v4 : Value) (S : Sp) (ok : SpOk S) (stop key : Int) (w : World) (f : Nat → Value) (hsp : SpRd w v1 v2 v3 v4 f S) (hz : (checkP S).2 = 0) :
    Calls Tryd.prog 13 #[.agg #[v1, v2, v3, v4], .int .i64 stop, .int .i64 key] w (PpEnds (pipesOfP S stop key) w) := by
  have hb0 : Below w.heap.size w (w.alloc (.cells #[v1, v2, v3, v4] 27)) := (Below.refl _ w).alloc (Nat.le_refl _) _
  have k0 : Blk (w.alloc (.cells #[v1, v2, v3, v4] 27)) w.heap.size 27 #[v1, v2, v3, v4] := Blk.new w _ _
  have HC := Lib.hid (rcheck_any v1 v2 v3 v4 S ok _ f (hsp.later hb0))
  have HSP := Lib.hid hsp
  have HG := Lib.hid (spGood hz)
  obtain ⟨⟨a1, c1, ev1⟩, _, ⟨a3, c3, ev3⟩, _⟩ := hsp.forms
  subst ev1
  subst ev3
  obtain ⟨fl, hfl⟩ : ∃ fl, fl = (checkP S).1 := ⟨_, rfl⟩
  have hcv : ckV (checkP S) = .tuple #[.agg #[.int .i64 fl.1, .int .i64 fl.2.1, .int .i64 fl.2.2], .int .i64 0] := by unfold ckV; rw [hz, hfl]
  rw [hcv] at HC
  have HZ := Lib.hid hz
  have HI := Lib.hid (fun W => rindex_any stop S.ss.length W)
  clear hcv hfl hz ok hsp
  by_cases hs : 0 ≤ stop ∧ stop < S.ss.length
  · rw [decide_eq_true hs] at HI
    obtain ⟨i, rfl⟩ := Int.eq_ofNat_of_zero_le hs.1
    have hi : i < S.ss.length := by omega
    obtain ⟨d1, d2, d3, d4⟩ := HG.out.s _ (List.getElem_mem hi)
    obtain ⟨j, hj⟩ := Int.eq_ofNat_of_zero_le d1
    have hjl : j < S.ds.length := by omega
    have HP := Lib.hid (pipesOf_key (key := key) HZ.out hi hj hjl)
    have hdv := dv_ok (HG.out.d _ (List.getElem_mem hjl))
    have HJ := Lib.hid hj
    clear hj d1 d2 hs
    go_enter Tryd.func13, Tryd.ntmps13
    go_wp2_with fail
    refine (HC.out).mono ?_
    rintro e w1 ⟨rfl, hb1⟩
    have k1 := k0.below hb1
    have hb := below_step hb0 hb1
    obtain ⟨s0, s1, s2, s3⟩ := (k1.alloc (.cells #[.int .i64 fl.1, .int .i64 fl.2.1, .int .i64 fl.2.2] 31)).four
    have hbA : Below w.heap.size w (w1.alloc (.cells #[.int .i64 fl.1, .int .i64 fl.2.1, .int .i64 fl.2.2] 31)) := hb.alloc hb.size _
    have HBA := Lib.hid hbA
    have HSA := Lib.hid (HSP.out.later hbA)
    obtain ⟨b, o, c, ev, hbl, r0, r1, r2, r3, r4⟩ := HSA.out.sAt i hi
    obtain ⟨bd, od, cd, evd, hbld, q0, q1, q2⟩ := HSA.out.dAt j hjl
    cases ev
    cases evd
    rw [HJ.out] at r1
    go_wp2_with (go_at_call 39; refine (HI.out _).mono ?_; rintro e w' ⟨rfl, rfl⟩)
    generalize w1.alloc (.cells #[.int .i64 fl.1, .int .i64 fl.2.1, .int .i64 fl.2.2] 31) = W2 at *
    clear HC HI k0 hb0 k1 hb hbA hb1
    have t0 := cell_alloc s0
    have t2 := cell_alloc s2
    have z1 := cell_alloc r1
    have y0 := cell_alloc q0
    have y1 := cell_alloc q1
    have y2 := cell_alloc q2
    obtain ⟨W3, hW3⟩ : ∃ W3, W3 = (W2.alloc (.cells #[.string S.ds[j].name, .int .i64 S.ds[j].lo, .int .i64 S.ds[j].hi] 54)).drew := ⟨_, rfl⟩
    have hb23 : Below W2.heap.size W2 W3 := by rw [hW3]; exact ((Below.refl _ W2).alloc (Nat.le_refl _) _).drew
    have kd : Blk W3 W2.heap.size 54 #[.string S.ds[j].name, .int .i64 S.ds[j].lo, .int .i64 S.ds[j].hi] := by rw [hW3]; exact Blk.new W2 _ _
    have HW3 := Lib.hid hW3
    have HB3 := Lib.hid (below_step HBA.out hb23)
    have HS3 := Lib.hid (HSA.out.later hb23)
    have HKD := Lib.hid kd
    have S0 := Lib.hid ((hb23.cell (cell_size s0)).trans s0)
    have S1 := Lib.hid ((hb23.cell (cell_size s1)).trans s1)
    have S2 := Lib.hid ((hb23.cell (cell_size s2)).trans s2)
    have S3 := Lib.hid ((hb23.cell (cell_size s3)).trans s3)
    clear hW3 kd hb23
    by_cases hk : S.ds[j].lo ≤ key ∧ key ≤ S.ds[j].hi
    · have HPP := Lib.hid (HP.out.trans (if_pos hk))
      obtain ⟨hk1, hk2⟩ := hk
      have g1 : ¬ key < S.ds[j].lo := by omega
      have g2 : ¬ S.ds[j].hi < key := by omega
      have HA := Lib.hid (rall_any _ _ _ _ S W3 f HS3.out HG.out.rs HG.out.r)
      clear HP
      go_region
      rw [← HW3.out]
      clear HW3 t0 t2 z1 y0 y1 y2 s0 s1 s2 s3 r0 r1 r2 r3 r4 q0 q1 q2
      obtain ⟨q0, q1, q2, _⟩ := HKD.out.three
      have s0 := S0.out
      have s1 := S1.out
      have s2 := S2.out
      have s3 := S3.out
      go_wp2_with fail
      refine (HA.out).mono ?_
      rintro e W4 ⟨va, rfl, hal, hb4⟩
      have har := ARd.of_pps hal
      have hlen : (allFrom 0 S.rs).length ≤ 97 * 40 := by have := allFrom_len HG.out.r 0; have := HG.out.rs; omega
      obtain ⟨l, hl⟩ : ∃ l, l = allFrom 0 S.rs := ⟨_, rfl⟩
      rw [← hl] at har hlen HPP
      obtain ⟨aa, ca, eva⟩ := har.form
      rw [List.length_map] at eva
      subst eva
      have HAR := Lib.hid har
      have HB4 := Lib.hid (below_step HB3.out hb4)
      have HS4 := Lib.hid (HS3.out.later hb4)
      have S2' := Lib.hid ((hb4.cell (cell_size s2)).trans s2)
      have HL := Lib.hid hl
      have hst : RowKit.Hid (W4.ownsRow W4.heap.size 46 2 (.slice none 0 0) ((l.take 0).filter (playsB S.ss[i] key)).length (ppCs ((l.take 0).filter (playsB S.ss[i] key)))) := Lib.hid (World.ownsRow_nil _ _ _ _)
      have hrefl : RowKit.Hid (Below W4.heap.size W4 W4) := Lib.hid (Below.refl _ _)
      have HPR := Lib.hid (fun y (hy : y ∈ S.ss[i].parts) => HG.out.part (List.getElem_mem hi) hy)
      obtain ⟨i0, hi0, hz0, hz1, hz2⟩ := info_parts pp_info
      clear hl har hal hb4 s0 s1 s2 s3 q0 q1 q2 S0 S1 S2 S3 HA HKD HS3
      go_wp2
      go_loopw [12, 13] (fun v x wr => ∃ k : Nat, k ≤ l.length ∧ x = .int .i64 k ∧ RowKit.Hid (wr.ownsRow W4.heap.size 46 2 v ((l.take k).filter (playsB S.ss[i] key)).length (ppCs ((l.take k).filter (playsB S.ss[i] key)))) ∧ RowKit.Hid (Below W4.heap.size W4 wr)) (fun _ x _ => l.length - (intOf x).toNat)
      case atStart => exact ⟨0, by omega, rfl, hst, hrefl⟩
      clear hst hrefl
      obtain ⟨k, hk, rfl, hrow, hW⟩ := hrel
      by_cases hlt : k < l.length
      · have hsp := HS4.out.later hW.out
        obtain ⟨b', o', c', ev', hbl', e3, e4, e5, e6, e7⟩ := hsp.sAt i hi
        cases ev'
        rw [HJ.out] at e4
        have e2 := (hW.out.cell (cell_size S2'.out)).trans S2'.out
        obtain ⟨ba, oa, ca', eva, hbla, hca⟩ := (HAR.out.later hW.out).at k (by simpa using hlt)
        rw [List.getElem_map] at hca
        rw [List.length_map] at eva
        cases eva
        have p0 : wr.cell? ⟨ba, oa + k * 2, none⟩ = some (.int .i64 l[k].1) := hca 0 _ rfl
        have p1 : wr.cell? ⟨ba, oa + k * 2 + 1, none⟩ = some (.int .i64 l[k].2) := hca 1 _ rfl
        have hki : (k : Int) < (l.length : Int) := by omega
        have HPL := Lib.hid (fun W (hW2 : Below wr.heap.size wr W) => rplays_any S.ss[i] (f i) key l[k] W ((hsp.later hW2).p i hi) (by omega) (fun y hy => by obtain ⟨_, _, _, h1, h2, _⟩ := HPR.out y hy; exact ⟨h1, h2⟩) (by omega))
        rw [HJ.out] at HPL
        have hdr : Below wr.heap.size wr wr.drew := (Below.refl _ _).drew
        clear hsp hca
        cases hpb : playsB S.ss[i] key l[k] with
        | true =>
          have HPB := Lib.hid hpb
          rw [hpb] at HPL
          clear hpb
          go_wp2_with fail
          go_region_held3 (fun w' => Below wr.heap.size wr w' ∧ w'.cell? ⟨w.heap.size, 2, none⟩ = some (.slice (some ⟨b, o, none⟩) S.ss.length c3) ∧ w'.cell? ⟨b, o + i * 5, none⟩ = some (.string S.ss[i].name) ∧ w'.cell? ⟨b, o + i * 5 + 1, none⟩ = some (.int .i64 j) ∧ w'.cell? ⟨b, o + i * 5 + 2, none⟩ = some (.int .i64 S.ss[i].num) ∧ w'.cell? ⟨b, o + i * 5 + 3, none⟩ = some (.int .i64 S.ss[i].den) ∧ w'.cell? ⟨b, o + i * 5 + 4, none⟩ = some (f i) ∧ w'.cell? ⟨ba, oa + k * 2, none⟩ = some (.int .i64 l[k].1) ∧ w'.cell? ⟨ba, oa + k * 2 + 1, none⟩ = some (.int .i64 l[k].2)) (first | exact ⟨hdr, e2, e3, e4, e5, e6, e7, p0, p1⟩ | assumption) (first | (go_at_call 41; refine (HPL.out _ (by first | exact And.left (by assumption) | exact hdr)).mono ?_; rintro e w2 ⟨rfl, hb2⟩; have hn := hold8 (by assumption) hb2; clear hb2))
          have hn1 := hn.1
          obtain ⟨_, _, _, _, _, _, _, p0', p1'⟩ := hn
          have hrow2 := row_later hrow.out hn1
          have hlen2 : ((l.take k).filter (playsB S.ss[i] key)).length ≤ 97 * 40 := by
            have h1 := List.length_filter_le (playsB S.ss[i] key) (l.take k)
            rw [List.length_take] at h1
            omega
          have hB2 := below_step hW.out hn1
          have hsz := hB2.size
          clear e2 e3 e4 e5 e6 e7 p0 p1 hdr HPL
          go_wp2_with (at_builtin; refine wpList_append_lies _ rfl _ _ 37 rfl W4.heap.size 46 i0 _ 2 16 Tryd.underlying37 hi0 hz0 hz1 hz2 rfl (by omega) _ _ _ rfl (hrow2.alloc _) ⟨w2.heap.size, 0, none⟩ 1 1 [.int .i64 l[k].1, .int .i64 l[k].2] rfl rfl (World.news_of_block (cs := #[.int .i64 l[k].1, .int .i64 l[k].2]) (t := 46) (fr := (0, 0)) (heap_alloc_new w2 _)) (by simp [Value.oneCell']) (by omega) (by unfold maxLen; omega) (by omega) (by simp; omega) (w2.heap.size + 1) (by simp) ?_; intro gg cap w3 hown3 hgrow hat3 hlt3)
          have HQ := Lib.hid (pps_step (l := (l.take k).filter (playsB S.ss[i] key)) (p := l[k]) hown3 rfl)
          rw [← filter_take_yes hlt HPB.out] at HQ
          have HB := Lib.hid (push_low hB2 hrow2 hgrow)
          refine ⟨⟨k + 1, by omega, by go_num, HQ, HB⟩, by simp [intOf]; omega⟩
        | false =>
          have HPB := Lib.hid hpb
          rw [hpb] at HPL
          clear hpb
          go_wp2_with fail
          go_region_held3 (fun w' => Below wr.heap.size wr w' ∧ w'.cell? ⟨w.heap.size, 2, none⟩ = some (.slice (some ⟨b, o, none⟩) S.ss.length c3) ∧ w'.cell? ⟨b, o + i * 5, none⟩ = some (.string S.ss[i].name) ∧ w'.cell? ⟨b, o + i * 5 + 1, none⟩ = some (.int .i64 j) ∧ w'.cell? ⟨b, o + i * 5 + 2, none⟩ = some (.int .i64 S.ss[i].num) ∧ w'.cell? ⟨b, o + i * 5 + 3, none⟩ = some (.int .i64 S.ss[i].den) ∧ w'.cell? ⟨b, o + i * 5 + 4, none⟩ = some (f i) ∧ w'.cell? ⟨ba, oa + k * 2, none⟩ = some (.int .i64 l[k].1) ∧ w'.cell? ⟨ba, oa + k * 2 + 1, none⟩ = some (.int .i64 l[k].2)) (first | exact ⟨hdr, e2, e3, e4, e5, e6, e7, p0, p1⟩ | assumption) (first | (go_at_call 41; refine (HPL.out _ (by first | exact And.left (by assumption) | exact hdr)).mono ?_; rintro e w2 ⟨rfl, hb2⟩; have hn := hold8 (by assumption) hb2; clear hb2))
          have hn1 := hn.1
          have HB2 := Lib.hid (below_step hW.out hn1)
          have HR2 := row_later hrow.out hn1
          rw [← filter_take_no hlt HPB.out] at HR2
          have HR3 := Lib.hid HR2
          clear e2 e3 e4 e5 e6 e7 p0 p1 hdr HPL HR2 hn
          go_wp2
          go_roundw
          case rel => exact ⟨k + 1, by omega, by go_num, HR3, HB2⟩
          case measure => simp [intOf]; omega
      · have hke : k = l.length := by omega
        have hki : ¬ ((k : Int) < (l.length : Int)) := by omega
        have HE := hrow.out
        rw [hke, List.take_length, HL.out] at HE
        have HB := Lib.hid (HB4.out.trans (hW.out.mono HB4.out.size))
        have HO := Lib.hid (row_base HE HB4.out.size)
        have HQ := Lib.hid HPP.out
        rw [HL.out] at HQ
        clear HE hrow hke
        go_wp2
        go_ret2
        exact ppEnds_some (u := u12) rfl HQ.out HO.out HB.out
    · have HPP := Lib.hid (HP.out.trans (if_neg hk))
      clear HP
      by_cases g1 : key < S.ds[j].lo
      · clear hk
        go_region
        rw [← HW3.out]
        clear HW3 t0 t2 z1 y0 y1 y2 s0 s1 s2 s3 r0 r1 r2 r3 r4 q0 q1 q2
        obtain ⟨q0, q1, q2, _⟩ := HKD.out.three
        go_wp2
        go_ret2
        exact ppEnds_none rfl HPP.out HB3.out
      · have g2 : S.ds[j].hi < key := by omega
        clear hk
        go_region
        rw [← HW3.out]
        clear HW3 t0 t2 z1 y0 y1 y2 s0 s1 s2 s3 r0 r1 r2 r3 r4 q0 q1 q2
        obtain ⟨q0, q1, q2, _⟩ := HKD.out.three
        go_wp2
        go_ret2
        exact ppEnds_none rfl HPP.out HB3.out
  · rw [decide_eq_false hs] at HI
    have HP := Lib.hid (pipesOf_stop (key := key) HZ.out hs)
    clear hs
    go_enter Tryd.func13, Tryd.ntmps13
    go_wp2_with fail
    refine (HC.out).mono ?_
    rintro e w1 ⟨rfl, hb1⟩
    have k1 := k0.below hb1
    have hb := below_step hb0 hb1
    obtain ⟨s0, s1, s2, s3⟩ := (k1.alloc (.cells #[.int .i64 fl.1, .int .i64 fl.2.1, .int .i64 fl.2.2] 31)).four
    go_wp2_with (go_at_call 39; refine (HI.out _).mono ?_; rintro e w' ⟨rfl, rfl⟩)
    go_ret2
    exact ppEnds_none rfl HP.out (hb.alloc hb.size _)
theorem rpipesOf_any (v1 v2 v3 v4 : Value) (S : Sp) (ok : SpOk S) (stop key : Int) (w : World) (f : Nat → Value) (hsp : SpRd w v1 v2 v3 v4 f S) :
    Calls Tryd.prog 13 #[.agg #[v1, v2, v3, v4], .int .i64 stop, .int .i64 key] w (PpEnds (pipesOfP S stop key) w) := by
  by_cases hz : (checkP S).2 = 0
  · exact rpipesOf_good v1 v2 v3 v4 S ok stop key w f hsp hz
  · exact rpipesOf_bad v1 v2 v3 v4 S ok stop key w f hsp hz
end Go.Proofs.YtkddeliifadcoaaDoor
