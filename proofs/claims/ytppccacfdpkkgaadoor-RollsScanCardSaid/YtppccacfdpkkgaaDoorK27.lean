/-
  CONTRACTS: the reference's Bridge.
-/
import Derived.Test.YtppccacfdpkkgaaDoorK26
import Derived.Test.YtppccacfdpkkgaaDoorK22
import Derived.Deep.Cut
import Derived.Deep.RegionWith
import Derived.Deep.QuietTactic
import Derived.BigQuiet
import Derived.BigRegion
namespace Go.Proofs.YtppccacfdpkkgaaDoor
open Go.RowKit
/-- The holes of a track while its bridges are taken. -/
def haS (R : Ro) (m w k : Nat) (pre : List (Nat × Nat)) : List Bool := (List.range R.rows.length).map (hasS R m w k pre)
def haL (R : Ro) (m w k : Nat) (pre : List (Nat × Nat)) (s : Nat × Nat) (c : Nat) : List Bool := (List.range R.rows.length).map (hasC R m w k pre s c)
theorem haS_len (R : Ro) (m w k : Nat) (pre : List (Nat × Nat)) : (haS R m w k pre).length = R.rows.length := by simp [haS]
theorem haL_len (R : Ro) (m w k : Nat) (pre : List (Nat × Nat)) (s : Nat × Nat) (c : Nat) : (haL R m w k pre s c).length = R.rows.length := by simp [haL]
theorem haS_start (R : Ro) (m w k : Nat) : hoL R k R.rows.length = haS R m w k [] := by
  unfold hoL haS
  refine List.map_congr_left fun j hj => ?_
  rw [List.mem_range] at hj
  rw [decide_eq_true hj, hasS_nil, Bool.true_and]
  rfl
theorem haL_zero {R : Ro} {m w k : Nat} {pre : List (Nat × Nat)} {s : Nat × Nat} : haL R m w k pre s 0 = haS R m w k pre := by
  unfold haL haS
  exact List.map_congr_left fun j _ => hasC_zero
theorem haL_end {R : Ro} {m w k c : Nat} {pre : List (Nat × Nat)} {s : Nat × Nat} (hs : s.1 ≤ s.2) (hc : c = s.2 - s.1 + 1) : haL R m w k pre s c = haS R m w k (pre ++ [s]) := by
  unfold haL haS
  exact List.map_congr_left fun j _ => hasC_end hs hc
theorem haL_keep {R : Ro} {m w k c : Nat} {pre : List (Nat × Nat)} {s : Nat × Nat} (hc : c < s.2 - s.1 + 1) (hs : s.1 ≤ s.2) (h : ¬ (m ≤ c % (m + w) ∧ c - c % (m + w) + m + w < s.2 - s.1 + 1)) : haL R m w k pre s (c + 1) = haL R m w k pre s c := by
  unfold haL
  refine List.map_congr_left fun j _ => ?_
  rw [hasC_next hc hs, decide_eq_false h]
  simp
theorem haL_cut {R : Ro} {m w k c : Nat} {pre : List (Nat × Nat)} {s : Nat × Nat} (hc : c < s.2 - s.1 + 1) (hs : s.1 ≤ s.2) (h : m ≤ c % (m + w) ∧ c - c % (m + w) + m + w < s.2 - s.1 + 1) : haL R m w k pre s (c + 1) = (haL R m w k pre s c).set (s.1 + c) false := by
  apply List.ext_getElem
  · simp [haL]
  · intro j h1 h2
    rw [List.getElem_set]
    simp only [haL, List.getElem_map, List.getElem_range]
    rw [hasC_next hc hs, decide_eq_true h]
    by_cases e : j = s.1 + c
    · rw [if_pos e, if_pos e.symm]; simp
    · rw [if_neg e, if_neg (fun q => e q.symm)]
theorem wi_first {R : Ro} {m w : Nat} : wiRo R 0 (hoL R 0 R.rows.length) = brRo R m w 1 := by
  unfold wiRo brRo brRows
  congr 1
  refine List.map_congr_left fun i hi => ?_
  rw [List.mem_range] at hi
  rw [← with_first (m := m) (w := w) hi]
  unfold wiRow
  rw [getD_at hi, getD_at (by rw [hoL_len]; exact hi)]
  simp only [hoL, List.getElem_map, List.getElem_range, decide_eq_true hi, Bool.true_and, rowB]
  rw [getD_at hi]
theorem wi_next {R : Ro} {m w k : Nat} (hk : 1 ≤ k) : wiRo (brRo R m w k) k (haS R m w k (slR R k)) = brRo R m w (k + 1) := by
  have hl : (brRo R m w k).rows.length = R.rows.length := brRows_len R m w k
  unfold wiRo
  rw [brRo.eq_def R m w (k + 1)]
  unfold brRows
  show Ro.mk R.tracks _ = _
  congr 1
  rw [hl]
  refine List.map_congr_left fun i hi => ?_
  rw [List.mem_range] at hi
  have h1 : (brRo R m w k).rows.getD i [] = brRow R m w k i := by
    rw [getD_at (by rw [hl]; exact hi)]
    exact brRows_at R m w k i _
  have h2 : (haS R m w k (slR R k)).getD i false = hasT R m w k i := by
    rw [getD_at (by rw [haS_len]; exact hi)]
    simp only [haS, List.getElem_map, List.getElem_range]
    rfl
  rw [← with_next (m := m) (w := w) hk]
  unfold wiRow
  rw [h1, h2]
  rfl
theorem brRo_ok {R : Ro} {m w k : Nat} (h : RoOk R) (ht : R.tracks ≤ 128) : RoOk (brRo R m w k) := by
  refine ⟨by show (brRows R m w k).length ≤ _; rw [brRows_len]; exact h.len, fun _ l hl => ?_⟩
  obtain ⟨i, _, rfl⟩ := List.mem_map.1 (show l ∈ (List.range R.rows.length).map (brRow R m w k) from hl)
  have := told_len (brF R m w k i) R.tracks.toNat
  unfold brRow
  omega
theorem bridge_cond {m w c n : Nat} : (c : Int) - ((c % (m + w) : Nat) : Int) + m + w < n ↔ c - c % (m + w) + m + w < n := by
  have := Nat.mod_le c (m + w)
  omega
theorem grown_any {W W' : World} {b : Nat} (h : W.grownBy W' none) : W.grownBy W' (some b) := ⟨h.os, h.tape, h.output, h.size, fun i hi _ => h.block i hi (by simp)⟩
theorem SameFrom.mono {a b : Nat} {W w2 : World} (h : SameFrom a W w2) (hab : a ≤ b) : SameFrom b W w2 := ⟨h.1, fun k hk hl => h.2 k (by omega) hl⟩
theorem SameFrom.trans {a : Nat} {W W' w2 : World} (h : SameFrom a W W') (h2 : SameFrom a W' w2) : SameFrom a W w2 := ⟨Nat.le_trans h.1 h2.1, fun k hk hl => (h2.2 k hk (Nat.lt_of_lt_of_le hl h.1)).trans (h.2 k hk hl)⟩
theorem sameFrom_below {a : Nat} {W W' : World} (hb : Below W.heap.size W W') : SameFrom a W W' := ⟨hb.size, fun k _ hl => hb.block k hl⟩
theorem SameFrom.refl (a : Nat) (W : World) : SameFrom a W W := ⟨Nat.le_refl _, fun _ _ _ => rfl⟩
/-- A roll in a box that stays while older blocks are written. -/
def BoxS (W wx : World) (B : Nat) (R : Ro) : Prop := ∃ a n c g, Blk wx B 24 #[.int .i64 R.tracks, .slice a n c] ∧ (∀ w2, SameFrom W.heap.size wx w2 → RoRd w2 (.slice a n c) g R) ∧ Below W.heap.size W wx
theorem boxS_late {W wm w3 : World} {R : Ro} {a : Option Addr} {n c : Nat} {g : Nat → Value} (hb : Below W.heap.size W w3) (hm : W.heap.size ≤ wm.heap.size) (hs : ∀ w2, SameFrom wm.heap.size w3 w2 → RoRd w2 (.slice a n c) g R) : BoxS W (w3.alloc (.cells #[.int .i64 R.tracks, .slice a n c] 24)) w3.heap.size R := by
  have h1 := (Below.refl w3.heap.size w3).alloc (Nat.le_refl _) (.cells #[.int .i64 R.tracks, .slice a n c] 24)
  exact ⟨a, n, c, g, Blk.new w3 _ _, fun w2 h => hs w2 ((sameFrom_below h1).trans (h.mono hm)), below_step hb h1⟩
theorem boxS_early {W wm w3 : World} {R : Ro} {a : Option Addr} {n c : Nat} {g : Nat → Value} {B : Nat} {u v : Value} (hb : Below W.heap.size W w3) (hm : W.heap.size ≤ wm.heap.size) (hs : ∀ w2, SameFrom wm.heap.size w3 w2 → RoRd w2 (.slice a n c) g R) (hk : Blk w3 B 24 #[u, v]) (h1 : W.heap.size ≤ B) (h2 : B < wm.heap.size) : BoxS W ((w3.setCell ⟨B, 0, none⟩ (.int .i64 R.tracks)).setCell ⟨B, 1, none⟩ (.slice a n c)) B R := by
  have hg := (set_grown w3 B 0 (.int .i64 R.tracks)).trans (set_grown _ B 1 (.slice a n c))
  exact ⟨a, n, c, g, (hk.set 0 _).set 1 _, fun w2 h => hs w2 ((sameFrom_grown h2 hg).trans (h.mono hm)), hb.grown hg hb.size (fun j e => by cases e; exact h1)⟩
/-- How with ends in Bridge. -/
def WbEnds (R : Ro) (m w k : Nat) (w0 : World) (e : Ending) (w' : World) : Prop := ∃ a n c f, e = .returned (.agg #[.int .i64 R.tracks, .slice a n c]) ∧ Below w0.heap.size w0 w' ∧ ∀ (w2 : World), SameFrom w0.heap.size w' w2 → RoRd w2 (.slice a n c) f (brRo R m w k)
theorem with_zero (R : Ro) (hg : RollGood R true) (hok : RoOk R) (v : Value) (f : Nat → Value) (m k : Nat) (G cap : Nat) (w : World) (hr : RoRd w v f R) (hh : EnB w 4 1 bC G cap (hoL R 0 R.rows.length)) :
    Calls Tryd.prog 36 #[.agg #[.int .i64 R.tracks, v], .int .i64 0, .slice (some ⟨G, 0, none⟩) R.rows.length R.rows.length] w (WbEnds R m k 1 w) := by
  refine (with_any R hok hg.len (by have := hg.lo; omega) hg.hi v f 0 (by omega) G cap _ (hoL_len R 0 R.rows.length) w hr hh).mono ?_
  rintro e w' ⟨v2, f2, rfl, h1, h2, h3⟩
  rw [wi_first (m := m) (w := k)] at h3
  obtain ⟨a2, c2, rfl⟩ := h1.form
  exact ⟨a2, _, c2, f2, rfl, h2, h3⟩
theorem with_step (R : Ro) (hg : RollGood R true) (hok : RoOk R) (v : Value) (f : Nat → Value) (m b k : Nat) (hk : 1 ≤ k) (hk2 : k ≤ 128) (G cap : Nat) (w : World) (hr : RoRd w v f (brRo R m b k)) (hh : EnB w 4 1 bC G cap (haS R m b k (slR R k))) :
    Calls Tryd.prog 36 #[.agg #[.int .i64 R.tracks, v], .int .i64 k, .slice (some ⟨G, 0, none⟩) R.rows.length R.rows.length] w (WbEnds R m b (k + 1) w) := by
  have hl : (brRo R m b k).rows.length = R.rows.length := brRows_len R m b k
  have h := with_any (brRo R m b k) (brRo_ok hok hg.hi) (by rw [hl]; exact hg.len) (show 0 ≤ R.tracks by have := hg.lo; omega) hg.hi v f k hk2 G cap _ (by rw [haS_len, hl]) w hr hh
  rw [hl] at h
  refine h.mono ?_
  rintro e w' ⟨v2, f2, rfl, h1, h2, h3⟩
  rw [wi_next hk] at h3
  obtain ⟨a2, c2, rfl⟩ := h1.form
  exact ⟨a2, _, c2, f2, rfl, h2, h3⟩
theorem take_next {α : Type} {l : List α} {i : Nat} (h : i < l.length) : l.take (i + 1) = l.take i ++ [l[i]] := by
  rw [List.take_add_one, List.getElem?_eq_getElem h]
  rfl
theorem tmod_nat (c m w : Nat) : (c : Int).tmod ((m : Int) + (w : Int)) = ((c % (m + w) : Nat) : Int) := by
  rw [← Int.natCast_add]
  rfl
set_option maxRecDepth 100000 in
set_option maxHeartbeats 12800000 in
theorem rbridge_good (R : Ro) (rok : RoOk R) (rv : Value) (g : Nat → Value) (mo wi : Nat) (w : World) (hr : RoRd w rv g R) (he : rollErr R true = 0) (hm : 1 ≤ mo ∧ mo ≤ 100) (hw : 1 ≤ wi ∧ wi ≤ 100) :
    Calls Tryd.prog 12 #[.agg #[.int .i64 R.tracks, rv], .int .i64 mo, .int .i64 wi] w (RoEnds (brRo R mo wi R.tracks.toNat, 0) w) := by
  have hb0 : Below w.heap.size w ((w.alloc (.cells #[.int .i64 R.tracks, rv] 24)).alloc zRoll) := (((Below.refl w.heap.size w).alloc (Nat.le_refl _) _).alloc (by simp) _)
  have k1 := (Blk.new w 24 #[.int .i64 R.tracks, rv]).alloc zRoll
  have k2 := Blk.new (w.alloc (.cells #[.int .i64 R.tracks, rv] 24)) 24 #[.int .i64 0, .slice none 0 0]
  rw [World.size_alloc] at k2
  have HR := Lib.hid hr
  have HO := Lib.hid rok
  have HG := Lib.hid (rollGood he)
  have HB0 := Lib.hid hb0
  have HX0 := Lib.hid k1
  have HY0 := Lib.hid k2
  obtain ⟨av, cv, rfl⟩ := hr.form
  clear hr rok hb0 k1 k2
  go_enter Tryd.func12, Tryd.ntmps12
  go_wp2_with fail
  generalize ((w.alloc (.cells #[.int .i64 R.tracks, .slice av R.rows.length cv] 24)).alloc zRoll) = W0 at *
  refine (rcheck_roll R HO.out _ g _ (HR.out.later HB0.out)).mono ?_
  rintro e W1 ⟨rfl, hb1⟩
  have HB1 := Lib.hid (below_step HB0.out hb1)
  have HX1 := Lib.hid (HX0.out.below hb1)
  have HY1 := Lib.hid (HY0.out.below hb1)
  have HR1 := Lib.hid (HR.out.later HB1.out)
  clear hb1 HB0 HX0 HY0
  rw [he]
  go_upto_region 6 with fail
  obtain ⟨hm1, hm2⟩ := hm
  obtain ⟨hw1, hw2⟩ := hw
  go_cut [9] from 17 (fun x9 wx => ∃ B, x9 = .pointer (some ⟨B, 0, none⟩) ∧ RowKit.Hid (W1.heap.size ≤ B ∧ BoxS W1 wx B (brRo R mo wi 1)))
  case first =>
    have hbd : Below W1.heap.size W1 W1.drew := (Below.refl _ _).drew
    have hbo : Below W1.heap.size W1 (W1.drew.alloc zRoll) := hbd.alloc (Nat.le_refl _) _
    have hko : Blk (W1.drew.alloc zRoll) W1.heap.size 24 #[.int .i64 0, .slice none 0 0] := Blk.new W1.drew _ _
    have c0 := HX1.out.cell 0
    have c1 := HX1.out.cell 1
    have a0 := cell_alloc c0
    have a1 := cell_alloc c1
    have hge0 : W1.heap.size ≤ W1.heap.size := Nat.le_refl _
    refine wp_plain ?_
    go_region_with (first
      | (go_at_call 37; refine (holes_any R HO.out HG.out.len _ g 0 W1.drew (HR1.out.later hbd)).mono ?_; rintro e w2 ⟨G, rfl, he2, hG2, hb2⟩; have q2 : Below W1.heap.size W1 w2 := below_step hbd hb2; have d0 := (HX1.out.below q2).cell 0; have d1 := (HX1.out.below q2).cell 1; have g0 := cell_alloc d0; have g1 := cell_alloc d1)
      | (go_at_call 37; refine (holes_any R HO.out HG.out.len _ g 0 (W1.drew.alloc zRoll) (HR1.out.later hbo)).mono ?_; rintro e w2 ⟨G, rfl, he2, hG2, hb2⟩; have q2 : Below W1.heap.size W1 w2 := below_step hbo hb2; have d0 := (HX1.out.below q2).cell 0; have d1 := (HX1.out.below q2).cell 1; have hko2 := hko.below hb2)
      | (go_at_call 36; have hz2 := (Below.refl w2.heap.size w2).alloc (Nat.le_refl _) zRoll; refine (with_zero R HG.out HO.out _ g mo wi G _ (w2.alloc zRoll) (HR1.out.later (below_step q2 hz2)) (he2.below hz2)).mono ?_; rintro e w3 ⟨a3, n3, c3, f3, rfl, hb3, hs3⟩; have q3 : Below W1.heap.size W1 w3 := below_step (below_step q2 hz2) hb3; have hko3 := (Blk.new w2 24 #[.int .i64 0, .slice none 0 0]).below hb3; have hge3 := q2.size; have hm3 : W1.heap.size ≤ (w2.alloc zRoll).heap.size := (below_step q2 hz2).size; have hlt3 : w2.heap.size < (w2.alloc zRoll).heap.size := (by simp); have m0 := hko3.cell 0; have m1 := hko3.cell 1; have n0 := hko3.frozen 0; have n1 := hko3.frozen 1)
      | (go_at_call 36; refine (with_zero R HG.out HO.out _ g mo wi G _ w2 (HR1.out.later q2) he2).mono ?_; rintro e w3 ⟨a3, n3, c3, f3, rfl, hb3, hs3⟩; have q3 : Below W1.heap.size W1 w3 := below_step q2 hb3; have hko3 := hko2.below hb3; have hge3 := hge0; have hm3 := q2.size; have hlt3 := hko2.lt; have m0 := hko3.cell 0; have m1 := hko3.cell 1; have n0 := hko3.frozen 0; have n1 := hko3.frozen 1)
      | (go_at_call 36; refine (with_zero R HG.out HO.out _ g mo wi G _ w2 (HR1.out.later q2) he2).mono ?_; rintro e w3 ⟨a3, n3, c3, f3, rfl, hb3, hs3⟩; have q3 : Below W1.heap.size W1 w3 := below_step q2 hb3; have hm3 := q2.size))
    all_goals (go_wp2_with fail; go_meet; first | exact ⟨_, rfl, Lib.hid ⟨q3.size, boxS_late q3 hm3 hs3⟩⟩ | exact ⟨_, rfl, Lib.hid ⟨hge3, boxS_early q3 hm3 hs3 hko3 hge3 hlt3⟩⟩)
  case rest =>
    obtain ⟨B, rfl, HBX⟩ := hcut
    obtain ⟨hBge, hbx⟩ := HBX.out
    have HBX1 := Lib.hid hbx
    rename World => Wc
    clear HBX hbx
    go_wp2
    go_loopw [10] (fun x wr => ∃ k : Nat, 1 ≤ k ∧ (k : Int) ≤ R.tracks ∧ x = .int .i64 k ∧ RowKit.Hid (BoxS W1 wr B (brRo R mo wi k))) (fun x _ => R.tracks.toNat - (intOf x).toNat)
    case atStart => exact ⟨1, by omega, by have := HG.out.lo; omega, rfl, HBX1⟩
    clear HBX1
    obtain ⟨k, hk1, hk2, rfl, hO⟩ := hrel
    rename World => Wk
    obtain ⟨oa, on, oc, og, ob, ord, obl⟩ := hO.out
    have HOB := Lib.hid ob
    have HORD := Lib.hid ord
    have HW := Lib.hid obl
    have x0 := (HX1.out.below HW.out).cell 0
    have x1 := (HX1.out.below HW.out).cell 1
    clear ob ord obl hO
    have ht128 := HG.out.hi
    have hn2 := HG.out.len
    by_cases hlt : (k : Int) < R.tracks
    · go_wp2_with first | (go_at_call 37; refine (holes_any R HO.out HG.out.len _ g k Wk (HR1.out.later HW.out)).mono ?_; rintro e W2 ⟨G, rfl, he2, hG2, hb2⟩; rw [haS_start R mo wi k] at he2; have HE2 := Lib.hid he2; have HB2 := Lib.hid hb2; have hG2' := hG2; have x2 := (HX1.out.below (below_step HW.out hb2)).cell 0; have x3 := (HX1.out.below (below_step HW.out hb2)).cell 1; clear he2 hb2) | (go_at_call 38; refine (rslots_any R HO.out HG.out.len _ g k 0 W2 (HR1.out.later (below_step HW.out HB2.out))).mono ?_; rintro e W3 ⟨us, rfl, hs3, hb3⟩; have HS3 := Lib.hid (show SlRow W3 W2.heap.size us (slR R k) from hs3); have HE3 := Lib.hid (HE2.out.below hb3); have HB3 := Lib.hid (below_step HB2.out hb3); clear hs3 hb3 HE2)
      obtain ⟨sl, hsl⟩ : ∃ sl, slR R k = sl := ⟨_, rfl⟩
      have HSL := Lib.hid hsl
      have HSI := Lib.hid (show ∀ s ∈ sl, s.1 ≤ s.2 ∧ s.2 < R.rows.length by rw [← hsl]; exact fun s hs => slotsP_in s hs)
      have hsn : sl.length ≤ 20000 := by rw [← hsl]; exact Nat.le_trans (slotsP_len _) hn2
      rw [hsl] at HS3
      clear hsl
      obtain ⟨ua, uc, eus⟩ := own_form HS3.out
      subst eus
      go_loopw [13] (fun x wr => ∃ i : Nat, i ≤ sl.length ∧ x = .int .i64 i ∧ RowKit.Hid (EnB wr 4 1 bC G R.rows.length (haS R mo wi k (sl.take i))) ∧ RowKit.Hid (W3.grownBy wr (some G))) (fun x _ => sl.length - (intOf x).toNat)
      case atStart => exact ⟨0, Nat.zero_le _, rfl, HE3, Lib.hid (grown_any (World.grownBy.refl _ _))⟩
      obtain ⟨i, hi, rfl, hE, hWG⟩ := hrel
      rename World => Wi
      by_cases hil : i < sl.length
      · have hil2 : (i : Int) < (sl.length : Int) := by omega
        obtain ⟨cur0, hcur⟩ := HE3.out.blk
        have hs3 : W3.ownsRow W2.heap.size 89 2 (.slice ua sl.length uc) sl.length (sl.map slC).flatten := HS3.out
        have hkeep : ∀ W', W3.grownBy W' (some G) → W'.ownsRow W2.heap.size 89 2 (.slice ua sl.length uc) sl.length (sl.map slC).flatten := fun W' hg => hs3.kept hg (.inr (blk_ne_row hcur hs3 (by decide)))
        obtain ⟨⟨a, d⟩, hs⟩ : ∃ s, sl[i] = s := ⟨_, rfl⟩
        obtain ⟨had, hdn⟩ := HSI.out (a, d) (by rw [← hs]; exact List.getElem_mem hil)
        simp only at had hdn
        have HTK := Lib.hid (show sl.take (i + 1) = sl.take i ++ [(a, d)] by rw [take_next hil, hs])
        rcases hs3.2 with ⟨-, h0⟩ | ⟨sg, scap, scur, eu, -⟩
        · omega
        · cases eu
          have HCL := Lib.hid (fun W' (hg : W3.grownBy W' (some G)) (j : Nat) (u : Value) (hj : (slC (a, d))[j]? = some u) => ((EnB.of_row (enc := slC) (m := sl) (hkeep W' hg)).1.cell slC_len hil (j := j) (u := u) (by rw [hs]; exact hj)).1)
          have q0 : Wi.cell? ⟨sg, i * 2, none⟩ = some (.int .i64 a) := HCL.out Wi hWG.out 0 _ rfl
          have q1 : Wi.cell? ⟨sg, i * 2 + 1, none⟩ = some (.int .i64 d) := HCL.out Wi hWG.out 1 _ rfl
          clear hs3 hkeep hs hcur
          go_wp2_with fail
          go_quiet (fail)
          have HE4 := Lib.hid (hE.out.drewN nq)
          have HWG4 := Lib.hid (show W3.grownBy (Wi.drewN nq) (some G) from hWG.out.trans ⟨rfl, rfl, rfl, Nat.le_refl _, fun _ _ _ => rfl⟩)
          clear q0 q1 hE hWG
          generalize Wi.drewN nq = W4 at *
          go_wp2_with fail
          go_loopw [15] (fun z wr => ∃ c : Nat, c ≤ d - a + 1 ∧ z = .int .i64 c ∧ RowKit.Hid (EnB wr 4 1 bC G R.rows.length (haL R mo wi k (sl.take i) (a, d) c)) ∧ RowKit.Hid (W3.grownBy wr (some G))) (fun z _ => d + 1 - a - (intOf z).toNat)
          case atStart => exact ⟨0, by omega, rfl, by rw [haL_zero]; exact HE4, HWG4⟩
          clear HE4 HWG4
          obtain ⟨c, hc, rfl, hE, hWG⟩ := hrel
          by_cases hcl : c < d - a + 1
          · have hcl2 : (c : Int) < (d : Int) - (a : Int) + 1 := by omega
            obtain ⟨p, hp⟩ : ∃ p, c % (mo + wi) = p := ⟨_, rfl⟩
            have hpc : p ≤ c := by rw [← hp]; exact Nat.mod_le _ _
            have ht : (c : Int).tmod ((mo : Int) + (wi : Int)) = (p : Int) := by rw [tmod_nat, hp]
            have hmz : ¬ (mo : Int) + (wi : Int) = 0 := by omega
            have HP := Lib.hid hp
            clear hp
            by_cases hcut : mo ≤ p ∧ (c : Int) - (p : Int) + (mo : Int) + (wi : Int) < (d : Int) - (a : Int) + 1
            · obtain ⟨hc1, hc3⟩ := hcut
              have hc1' : (mo : Int) ≤ (p : Int) := by omega
              have f0 : wr.cell? ⟨sg, i * 2, none⟩ = some (.int .i64 a) := HCL.out wr hWG.out 0 _ rfl
              have hac : a + c < (haL R mo wi k (sl.take i) (a, d) c).length := by rw [haL_len]; omega
              have kc := hE.out.cell bC_len hac (j := 0) rfl
              rw [Nat.mul_one, Nat.add_zero] at kc
              obtain ⟨k0, k1⟩ := kc
              obtain ⟨v0, hv0⟩ : ∃ v0, (haL R mo wi k (sl.take i) (a, d) c)[a + c] = v0 := ⟨_, rfl⟩
              rw [hv0] at k0
              have HE5 : RowKit.Hid (EnB (wr.setCell ⟨G, a + c, none⟩ (.bool false)) 4 1 bC G R.rows.length (haL R mo wi k (sl.take i) (a, d) (c + 1))) := by
                have h1 := hE.out.setk bC_len hac (j := 0) (by omega) (v := .bool false) (y := false) rfl
                rw [Nat.mul_one, Nat.add_zero] at h1
                rw [haL_cut hcl had ⟨by rw [HP.out]; exact hc1, by rw [HP.out]; simp only; omega⟩]
                exact Lib.hid h1
              have HG5 := Lib.hid (show W3.grownBy (wr.setCell ⟨G, a + c, none⟩ (.bool false)) (some G) from hWG.out.trans (set_grown wr G (a + c) (.bool false)))
              have hi1 : (a : Int) + (c : Int) < (R.rows.length : Int) := by omega
              have hi2 : (0 : Int) ≤ (a : Int) + (c : Int) := by omega
              have hi3 : ((a : Int) + (c : Int)).toNat = a + c := by omega
              clear hac hv0
              go_wp2
              go_roundw
              case rel => exact ⟨c + 1, by omega, by go_num, HE5, HG5⟩
              case measure => simp [intOf]; omega
            · have HE5 : RowKit.Hid (EnB wr 4 1 bC G R.rows.length (haL R mo wi k (sl.take i) (a, d) (c + 1))) := by
                rw [haL_keep hcl had (by rw [HP.out]; simp only; omega)]
                exact hE
              by_cases hc1 : mo ≤ p
              · have hc1' : (mo : Int) ≤ (p : Int) := by omega
                have hc3 : ¬ ((c : Int) - (p : Int) + (mo : Int) + (wi : Int) < (d : Int) - (a : Int) + 1) := fun h => hcut ⟨hc1, h⟩
                clear hcut
                go_wp2
                go_roundw
                case rel => exact ⟨c + 1, by omega, by go_num, HE5, hWG⟩
                case measure => simp [intOf]; omega
              · have hc1' : ¬ (mo : Int) ≤ (p : Int) := by omega
                clear hcut
                go_wp2
                go_roundw
                case rel => exact ⟨c + 1, by omega, by go_num, HE5, hWG⟩
                case measure => simp [intOf]; omega
          · have hcl2 : ¬ (c : Int) < (d : Int) - (a : Int) + 1 := by omega
            have HE5 : RowKit.Hid (EnB wr 4 1 bC G R.rows.length (haS R mo wi k (sl.take (i + 1)))) := by
              rw [HTK.out, ← haL_end had (show c = (a, d).2 - (a, d).1 + 1 by simp only; omega)]
              exact hE
            go_wp2
            go_roundw
            case rel => exact ⟨i + 1, by omega, by go_num, HE5, hWG⟩
            case measure => simp [intOf]; omega
      · have hil2 : ¬ (i : Int) < (sl.length : Int) := by omega
        have HE5 : RowKit.Hid (EnB Wi 4 1 bC G R.rows.length (haS R mo wi k (slR R k))) := by
          rw [HSL.out]
          rw [List.take_of_length_le (by omega)] at hE
          exact hE
        have hbk : Below Wk.heap.size Wk Wi := HB3.out.grown hWG.out HB3.out.size (fun j e => by cases e; exact hG2)
        have HBK := Lib.hid hbk
        have HB5 := Lib.hid (below_step HW.out hbk)
        have z0 : Wi.cell? ⟨B, 0, none⟩ = some (.int .i64 R.tracks) := (HOB.out.below hbk).cell 0
        have z1 : Wi.cell? ⟨B, 1, none⟩ = some (.slice oa on oc) := (HOB.out.below hbk).cell 1
        have HOB5 := Lib.hid (HOB.out.below hbk)
        clear hbk hE
        go_wp2_with (go_at_call 36; refine (with_step R HG.out HO.out _ og mo wi k hk1 (by omega) G _ Wi (HORD.out Wi (sameFrom_below HBK.out)) HE5.out).mono ?_; rintro e W6 ⟨a6, n6, c6, f6, rfl, hb6, hs6⟩; have HOB6 := Lib.hid (HOB5.out.below hb6); have y0 := HOB6.out.cell 0; have y1 := HOB6.out.cell 1; have y2 := HOB6.out.frozen 0; have y3 := HOB6.out.frozen 1; have HS6 := Lib.hid hs6; have HB6 := Lib.hid (below_step HB5.out hb6); clear hb6 hs6)
        go_roundw
        case rel => exact ⟨k + 1, by omega, by omega, by go_num, Lib.hid (boxS_early HB6.out HB5.out.size HS6.out HOB6.out hBge HOB5.out.lt)⟩
        case measure => simp [intOf]; omega
    · have hkt : R.tracks.toNat = k := by omega
      have hlt2 : ¬ (k : Int) < R.tracks := hlt
      have z0 : Wk.cell? ⟨B, 0, none⟩ = some (.int .i64 R.tracks) := HOB.out.cell 0
      have z1 : Wk.cell? ⟨B, 1, none⟩ = some (.slice oa on oc) := HOB.out.cell 1
      have HYk := Lib.hid (HY1.out.below HW.out)
      have y0 := HYk.out.cell 0
      have y1 := HYk.out.cell 1
      have y2 := HYk.out.frozen 0
      have y3 := HYk.out.frozen 1
      have hlow : w.heap.size + 1 < W1.heap.size := HY1.out.lt
      have HZ := Lib.hid ((HYk.out.set 0 (.int .i64 R.tracks)).set 1 (.slice oa on oc))
      have HRD : RowKit.Hid (RoRd ((Wk.setCell ⟨w.heap.size + 1, 0, none⟩ (.int .i64 R.tracks)).setCell ⟨w.heap.size + 1, 1, none⟩ (.slice oa on oc)) (.slice oa on oc) og (brRo R mo wi R.tracks.toNat)) := by
        rw [hkt]
        exact Lib.hid (HORD.out _ (sameFrom_grown hlow ((set_grown Wk (w.heap.size + 1) 0 (.int .i64 R.tracks)).trans (set_grown _ (w.heap.size + 1) 1 (.slice oa on oc)))))
      have HB5 := Lib.hid (((below_step HB1.out HW.out).setCell (p := ⟨w.heap.size + 1, 0, none⟩) (by simp only; omega) (.int .i64 R.tracks)).setCell (p := ⟨w.heap.size + 1, 1, none⟩) (by simp only; omega) (.slice oa on oc))
      clear hlow hkt
      go_wp2
      have c0 := HZ.out.cell 0
      have c1 := HZ.out.cell 1
      exact bodyPost_ret (v := .tuple #[.agg #[.int .i64 R.tracks, .slice oa on oc], .int .i64 0]) (by simp [results, Tryd.results12, go_sem, c0, c1]) rfl ⟨_, og, rfl, HRD.out, HB5.out⟩
set_option maxRecDepth 100000 in
set_option maxHeartbeats 3200000 in
theorem rbridge_bad (R : Ro) (rok : RoOk R) (rv : Value) (g : Nat → Value) (mo wi : Int) (w : World) (hr : RoRd w rv g R)
    (hne : rollErr R true ≠ 0 ∨ (mo < 1 ∨ 100 < mo ∨ wi < 1 ∨ 100 < wi)) :
    Calls Tryd.prog 12 #[.agg #[.int .i64 R.tracks, rv], .int .i64 mo, .int .i64 wi] w (RoEnds (bridgeP R mo wi) w) := by
  have hb0 : Below w.heap.size w ((w.alloc (.cells #[.int .i64 R.tracks, rv] 24)).alloc zRoll) := (((Below.refl w.heap.size w).alloc (Nat.le_refl _) _).alloc (by simp) _)
  have k1 := (Blk.new w 24 #[.int .i64 R.tracks, rv]).alloc zRoll
  have k2 := Blk.new (w.alloc (.cells #[.int .i64 R.tracks, rv] 24)) 24 #[.int .i64 0, .slice none 0 0]
  rw [World.size_alloc] at k2
  have HR := Lib.hid hr
  have HO := Lib.hid rok
  have HNE := Lib.hid hne
  have HB0 := Lib.hid hb0
  have HX0 := Lib.hid k1
  have HY0 := Lib.hid k2
  obtain ⟨av, cv, rfl⟩ := hr.form
  clear hr rok hb0 k1 k2 hne
  go_enter Tryd.func12, Tryd.ntmps12
  go_wp2_with fail
  generalize ((w.alloc (.cells #[.int .i64 R.tracks, .slice av R.rows.length cv] 24)).alloc zRoll) = W0 at *
  refine (rcheck_roll R HO.out _ g _ (HR.out.later HB0.out)).mono ?_
  rintro e W1 ⟨rfl, hb1⟩
  have HB1 := Lib.hid (below_step HB0.out hb1)
  have HY1 := Lib.hid (HY0.out.below hb1)
  clear hb1 HB0 HX0 HY0
  have z0 := HY1.out.cell 0
  have z1 := HY1.out.cell 1
  have g0 := HY1.out.frozen 0
  have g1 := HY1.out.frozen 1
  have HZ := Lib.hid ((HY1.out.set 0 (.int .i64 0)).set 1 (.slice none 0 0))
  have HB5 := Lib.hid ((HB1.out.setCell (p := ⟨w.heap.size + 1, 0, none⟩) (by simp only; omega) (.int .i64 0)).setCell (p := ⟨w.heap.size + 1, 1, none⟩) (by simp only; omega) (.slice none 0 0))
  obtain ⟨er, her⟩ : ∃ er, rollErr R true = er := ⟨_, rfl⟩
  rw [her]
  by_cases he : er = 0
  · subst he
    have hq := HNE.out.resolve_left (fun h => h her)
    have HQ := Lib.hid (bridgeP_range her hq)
    have hq2 : 1 ≤ mo → mo ≤ 100 → 1 ≤ wi → ¬ wi ≤ 100 := by omega
    clear hq her
    go_wp2_with fail
    all_goals first
      | (exfalso; omega)
      | (have c0 := HZ.out.cell 0; have c1 := HZ.out.cell 1; exact bodyPost_ret (v := .tuple #[.agg #[.int .i64 0, .slice none 0 0], .int .i64 7]) (by simp [results, Tryd.results12, go_sem, c0, c1]) rfl (roEnds_bad HQ.out HB5.out))
  · have HQ := Lib.hid (show bridgeP R mo wi = (⟨0, []⟩, er) by rw [← her]; exact bridgeP_roll (by rw [her]; exact he))
    have he2 : (er == 0) = false := by rw [beq_eq_false_iff_ne]; exact he
    clear her
    go_wp2
    have c0 := HZ.out.cell 0
    have c1 := HZ.out.cell 1
    exact bodyPost_ret (v := .tuple #[.agg #[.int .i64 0, .slice none 0 0], .int .i64 er]) (by simp [results, Tryd.results12, go_sem, c0, c1]) rfl (roEnds_bad HQ.out HB5.out)
theorem rbridge_any (R : Ro) (rok : RoOk R) (rv : Value) (g : Nat → Value) (mo wi : Int) (w : World) (hr : RoRd w rv g R) :
    Calls Tryd.prog 12 #[.agg #[.int .i64 R.tracks, rv], .int .i64 mo, .int .i64 wi] w (RoEnds (bridgeP R mo wi) w) := by
  by_cases h1 : rollErr R true = 0
  · by_cases h2 : mo < 1 ∨ 100 < mo ∨ wi < 1 ∨ 100 < wi
    · exact rbridge_bad R rok rv g mo wi w hr (.inr h2)
    · obtain ⟨m, rfl⟩ : ∃ m : Nat, mo = m := ⟨mo.toNat, by omega⟩
      obtain ⟨k, rfl⟩ : ∃ k : Nat, wi = k := ⟨wi.toNat, by omega⟩
      rw [bridgeP_good h1 h2, Int.toNat_natCast, Int.toNat_natCast]
      exact rbridge_good R rok rv g m k w hr h1 (by omega) (by omega)
  · exact rbridge_bad R rok rv g mo wi w hr (.inl h1)
end Go.Proofs.YtppccacfdpkkgaaDoor
