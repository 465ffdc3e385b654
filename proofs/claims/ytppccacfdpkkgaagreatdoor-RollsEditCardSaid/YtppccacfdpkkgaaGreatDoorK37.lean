/-
  CONTRACTS: Punch.
-/
import Derived.Test.YtppccacfdpkkgaaGreatDoorK22
import Derived.Test.YtppccacfdpkkgaaGreatDoorK26
import Derived.Deep.QuietTactic
import Derived.BigQuiet
import Derived.BigRegion
import Derived.Deep.RegionWith
namespace Go.Proofs.YtppccacfdpkkgaaGreatDoor
open Go.RowKit
/-- In which rows a track has holes when those from a up to i are punched, or closed. -/
def hoPn (R : Ro) (k a i : Nat) (on : Bool) : List Bool := (List.range R.rows.length).map fun j => if a ≤ j ∧ j < i then on else rowB R (k : Int) j
theorem hoPn_len (R : Ro) (k a i : Nat) (on : Bool) : (hoPn R k a i on).length = R.rows.length := by simp [hoPn]
theorem hoPn_start (R : Ro) (k a : Nat) (on : Bool) : hoL R (k : Int) R.rows.length = hoPn R k a a on := by
  unfold hoL hoPn
  refine List.map_congr_left fun j hj => ?_
  rw [List.mem_range] at hj
  rw [decide_eq_true hj, Bool.true_and, if_neg (by omega)]
theorem hoPn_next {R : Ro} {k a i : Nat} {on : Bool} (ha : a ≤ i) : (hoPn R k a i on).set i on = hoPn R k a (i + 1) on := by
  apply List.ext_getElem
  · simp [hoPn]
  · intro j h1 h2
    rw [List.getElem_set]
    simp only [hoPn, List.getElem_map, List.getElem_range]
    by_cases e : i = j
    · subst e; rw [if_pos rfl, if_pos (by omega)]
    · rw [if_neg e]
      by_cases h : a ≤ j ∧ j < i
      · rw [if_pos h, if_pos (by omega)]
      · rw [if_neg h, if_neg (by omega)]
/-- What Punch returns. -/
def punchP (R : Ro) (track a b : Int) (on : Bool) : Ro × Int :=
  if rollErr R true = 0 then (if track < 1 ∨ R.tracks ≤ track then (⟨0, []⟩, 2) else if a < 0 ∨ b < a ∨ (R.rows.length : Int) < b then (⟨0, []⟩, 7) else (wiRo R track.toNat (hoPn R track.toNat a.toNat b.toNat on), 0)) else (⟨0, []⟩, rollErr R true)
theorem punchP_roll {R : Ro} {track a b : Int} {on : Bool} (h : rollErr R true ≠ 0) : punchP R track a b on = (⟨0, []⟩, rollErr R true) := by unfold punchP; rw [if_neg h]
theorem punchP_track {R : Ro} {track a b : Int} {on : Bool} (h : rollErr R true = 0) (h2 : track < 1 ∨ R.tracks ≤ track) : punchP R track a b on = (⟨0, []⟩, 2) := by unfold punchP; rw [if_pos h, if_pos h2]
theorem punchP_range {R : Ro} {track a b : Int} {on : Bool} (h : rollErr R true = 0) (h2 : ¬ (track < 1 ∨ R.tracks ≤ track)) (h3 : a < 0 ∨ b < a ∨ (R.rows.length : Int) < b) : punchP R track a b on = (⟨0, []⟩, 7) := by unfold punchP; rw [if_pos h, if_neg h2, if_pos h3]
theorem punchP_good {R : Ro} {k a b : Nat} {on : Bool} (h : rollErr R true = 0) (h2 : 1 ≤ k) (h3 : (k : Int) < R.tracks) (h4 : a ≤ b) (h5 : b ≤ R.rows.length) : punchP R (k : Int) (a : Int) (b : Int) on = (wiRo R k (hoPn R k a b on), 0) := by
  unfold punchP
  rw [if_pos h, if_neg (by omega), if_neg (by omega), Int.toNat_natCast, Int.toNat_natCast, Int.toNat_natCast]
/-- The rows while a track is punched. -/
structure PuInv (qs : List Rw) (k a i : Nat) (on : Bool) (qs' : List Rw) : Prop where
  len : qs'.length = qs.length
  ok : ∀ q ∈ qs', RwOk q
  row : ∀ j (h : j < qs.length) (h' : j < qs'.length) u, u < 128 → hole qs'[j] u = if (a ≤ j ∧ j < i) ∧ u = k then on else hole qs[j] u
theorem PuInv.start {qs : List Rw} (h : ∀ q ∈ qs, RwOk q) (k a : Nat) (on : Bool) : PuInv qs k a a on qs := ⟨rfl, h, fun j _ _ u _ => by rw [if_neg (by omega)]⟩
theorem PuInv.next {qs qs' : List Rw} {k a i : Nat} {on : Bool} (h : PuInv qs k a i on qs') (ha : a ≤ i) (hi : i < qs'.length) (hk : k < 128) : PuInv qs k a (i + 1) on (qs'.set i (putR qs'[i] k on)) := by
  refine ⟨by rw [List.length_set, h.len], fun q hq => ?_, fun j h1 h2 u hu => ?_⟩
  · obtain ⟨j, hj, rfl⟩ := List.getElem_of_mem hq
    rw [List.getElem_set]
    split
    · exact putR_ok (h.ok _ (List.getElem_mem hi)) hk
    · exact h.ok _ (List.getElem_mem _)
  · rw [List.length_set] at h2
    rw [List.getElem_set]
    by_cases e : i = j
    · subst e
      rw [if_pos rfl, putR_hole hk hu, h.row i h1 hi u hu]
      by_cases e2 : u = k
      · rw [if_pos e2, if_pos ⟨⟨ha, by omega⟩, e2⟩]
      · rw [if_neg e2, if_neg (fun q => e2 q.2), if_neg (fun q => e2 q.2)]
    · rw [if_neg e, h.row j h1 h2 u hu]
      by_cases c : (a ≤ j ∧ j < i) ∧ u = k
      · rw [if_pos c, if_pos ⟨⟨c.1.1, by omega⟩, c.2⟩]
      · rw [if_neg c, if_neg (fun q => c ⟨⟨q.1.1, by omega⟩, q.2⟩)]
/-- What is told of them. -/
theorem PuInv.told {R : Ro} {qs qs' : List Rw} {k a b n : Nat} {on : Bool} (h : PuInv qs k a b on qs') (hqs : QsOf qs R) (hn : (n : Int) = R.tracks) (hn2 : n ≤ 128) : (⟨(n : Int), qs'.map fun q => told (hole q) n⟩ : Ro) = wiRo R k (hoPn R k a b on) := by
  unfold wiRo
  rw [hn]
  congr 1
  apply List.ext_getElem
  · rw [List.length_map, List.length_map, List.length_range, h.len, hqs.len]
  · intro j h1 h2
    have hj : j < R.rows.length := by simpa using h2
    have hj2 : j < qs.length := by rw [hqs.len]; exact hj
    have hj3 : j < qs'.length := by rw [h.len]; exact hj2
    rw [List.getElem_map, List.getElem_map, List.getElem_range]
    unfold wiRow
    rw [show R.tracks.toNat = n by omega]
    refine told_congr fun u hu => ?_
    rw [h.row j hj2 hj3 u (by omega), (hqs.at' j hj2 hj).2 u (by omega), getD_at hj, getD_at (show j < (hoPn R k a b on).length by rw [hoPn_len]; exact hj)]
    simp only [hoPn, List.getElem_map, List.getElem_range, withF, rowB, getD_at hj]
    by_cases e : u = k
    · subst e
      by_cases c : a ≤ j ∧ j < b
      · rw [if_pos ⟨c, rfl⟩, if_pos c]; simp
      · rw [if_neg (fun q => c q.1), if_neg c]; simp
    · rw [if_neg (fun q => e q.2)]; simp [e]
/-- A row of the paper is punched. -/
theorem PapB.punched {W w' : World} {base P G cap : Nat} {tr : Int} {qs qs' : List Rw} (h : PapB W base P tr G cap qs) (hl : qs'.length = qs.length) (hr : RwB w' G cap qs') (hg : W.grownBy w' (some G)) (ok : ∀ q ∈ qs', RwOk q) : PapB w' base P tr G cap qs' := by
  obtain ⟨⟨cur, hb, _⟩, _⟩ := h.r
  have hne : some G ≠ some P := fun e => by
    rw [Option.some.inj e] at hb
    have := (show W.heap[P]? = _ from h.p).symm.trans (show W.heap[P]? = _ from hb)
    simp at this
  exact ⟨by rw [hl]; exact h.p.grown hg hne, hr, h.pb, h.gb, h.c, ok⟩
set_option maxRecDepth 100000 in
set_option maxHeartbeats 6400000 in
theorem punch_good' (R : Ro) (rok : RoOk R) (rv : Value) (g : Nat → Value) (k a b : Nat) (on : Bool) (w : World) (hr : RoRd w rv g R)
    (he : rollErr R true = 0) (h1 : 1 ≤ k) (h2 : (k : Int) < R.tracks) (h3 : a ≤ b) (h4 : b ≤ R.rows.length) :
    Calls Tryz.prog 21 #[.agg #[.int .i64 R.tracks, rv], .int .i64 k, .int .i64 a, .int .i64 b, .bool on] w (RoEnds (punchP R k a b on) w) := by
  have hb0 : Below w.heap.size w ((w.alloc (.cells #[.int .i64 R.tracks, rv] 36)).alloc (.cells #[.int .i64 0, .slice none 0 0] 36)) := (((Below.refl w.heap.size w).alloc (Nat.le_refl _) _).alloc (by simp) _)
  have k1 := (Blk.new w 36 #[.int .i64 R.tracks, rv]).alloc (.cells #[.int .i64 0, .slice none 0 0] 36)
  have k2 := Blk.new (w.alloc (.cells #[.int .i64 R.tracks, rv] 36)) 36 #[.int .i64 0, .slice none 0 0]
  rw [World.size_alloc] at k2
  have HR := Lib.hid hr
  have HO := Lib.hid rok
  have HG := Lib.hid (rollGood he)
  have HRE := Lib.hid he
  have HB0 := Lib.hid hb0
  have HX0 := Lib.hid k1
  have HY0 := Lib.hid k2
  have HPG := Lib.hid (punchP_good (on := on) he h1 h2 h3 h4)
  obtain ⟨av, cv, rfl⟩ := hr.form
  have hn2 := (rollGood he).len
  have ht2 := (rollGood he).lo
  have ht3 := (rollGood he).hi
  have hk1 : (1 : Int) ≤ (k : Int) := by omega
  have ha1 : (0 : Int) ≤ (a : Int) := by omega
  have hab : (a : Int) ≤ (b : Int) := by omega
  have hbn : (b : Int) ≤ (R.rows.length : Int) := by omega
  clear hr rok hb0 k1 k2 he
  go_enter Tryz.func21, Tryz.ntmps21
  go_wp2_with fail
  generalize ((w.alloc (.cells #[.int .i64 R.tracks, .slice av R.rows.length cv] 36)).alloc (.cells #[.int .i64 0, .slice none 0 0] 36)) = W0 at *
  refine (load_any R true HO.out _ g _ (HR.out.later HB0.out)).mono ?_
  rintro e W1 ⟨hb1, ⟨hne, rfl⟩ | ⟨he, P, pv, qs, rfl, hp, hqs⟩⟩
  · exact absurd HRE.out hne
  · have HB1 := Lib.hid (below_step HB0.out hb1)
    have HX1 := Lib.hid (HX0.out.below hb1)
    have HY1 := Lib.hid (HY0.out.below hb1)
    have HW1 := Lib.hid hb1
    have x0 := HX1.out.cell 0
    have x1 := HX1.out.cell 1
    obtain ⟨pa, pc, rfl⟩ := hp.form
    have HPP := Lib.hid hp
    have HQS := Lib.hid hqs
    have HQL := Lib.hid hqs.len
    clear hb1 he hp hqs
    go_wp2
    rename (_ ∧ ¬ _) ∧ ¬ _ => p2
    clear p2
    have hb20 : b ≤ 20000 := by omega
    have H3 := Lib.hid h3
    have H4 := Lib.hid h4
    clear x0 x1 hab hbn ha1 hk1 h3 h4
    go_loopw [14] (fun y wr => ∃ (i : Nat) (qs2 : List Rw), a ≤ i ∧ i ≤ b ∧ y = .int .i64 i ∧ RowKit.Hid (Pap wr W0.heap.size P R.tracks (.slice pa qs.length pc) qs2) ∧ RowKit.Hid (PuInv qs k a i on qs2) ∧ RowKit.Hid (Below W0.heap.size W0 wr)) (fun y _ => b - (intOf y).toNat)
    case atStart => exact ⟨a, qs, Nat.le_refl _, H3.out, rfl, HPP, Lib.hid (PuInv.start HPP.out.ok k a on), HW1⟩
    obtain ⟨i, qs2, hai, hib, rfl, hP, hI, hW⟩ := hrel
    have hq1 : qs2.length = qs.length := hI.out.len
    by_cases hlt : i < b
    · have hi2 : (i : Int) < (b : Int) := by omega
      have hqi : i < qs2.length := by rw [hq1, HQL.out]; have := H4.out; omega
      have hqi2 : (i : Int) < (qs.length : Int) := by rw [HQL.out]; have := H4.out; omega
      obtain ⟨PG, pcap, epv, hpb⟩ := hP.out.b (by omega)
      simp only [Value.slice.injEq] at epv
      obtain ⟨rfl, -, rfl⟩ := epv
      have y1 := hP.out.p.cell 1
      have HPB := Lib.hid hpb
      have HQ1 := Lib.hid hq1
      have hk0 : (0 : Int) ≤ (k : Int) := by omega
      have hk128 : (k : Int) < 128 := by omega
      clear hpb hq1
      go_wp2_with fail
      refine (put_row HPB.out.r hqi (HPB.out.ok _ (List.getElem_mem hqi)) (k : Int) hk0 hk128 on).mono ?_
      rintro e w' ⟨rfl, hr2, hg2, -⟩
      rw [Int.toNat_natCast] at hr2
      have hI2 := hI.out.next hai hqi (by omega)
      have hpb2 := HPB.out.punched (by rw [List.length_set]) hr2 hg2 hI2.ok
      have HP2 : RowKit.Hid (Pap w' W0.heap.size P R.tracks (.slice (some ⟨PG, 0, none⟩) qs.length pc) (qs2.set i (putR qs2[i] k on))) := by
        have := hpb2.pap
        rw [List.length_set, HQ1.out] at this
        exact Lib.hid this
      have HI2 := Lib.hid hI2
      have HW2 := Lib.hid (hW.out.grown hg2 hW.out.size (fun j e => by cases e; exact HPB.out.gb))
      clear hr2 hg2 hI2 hpb2 y1
      go_wp2
      go_roundw
      case rel => exact ⟨i + 1, _, by omega, by omega, by go_num, HP2, HI2, HW2⟩
      case measure => simp [intOf]; omega
    · have hi2 : ¬ ((i : Int) < (b : Int)) := by omega
      obtain ⟨n, hn⟩ : ∃ n : Nat, (n : Int) = R.tracks := ⟨R.tracks.toNat, by omega⟩
      have hn128 : n ≤ 128 := by omega
      have HT : RowKit.Hid ((⟨(n : Int), qs2.map fun q => told (hole q) n⟩ : Ro) = wiRo R k (hoPn R k a b on)) := Lib.hid (PuInv.told (show PuInv qs k a b on qs2 by have := hI.out; rwa [show i = b by omega] at this) HQS.out hn hn128)
      have HYk := Lib.hid (HY0.out.below hW.out)
      have HBW := Lib.hid (below_step HB0.out hW.out)
      have hql2 : qs2.length ≤ 20000 := by rw [hq1, HQL.out]; exact hn2
      have HP := Lib.hid (show Pap wr W0.heap.size P (n : Int) (.slice pa qs.length pc) qs2 by rw [hn]; exact hP.out)
      have HN := Lib.hid hn
      have hlow : w.heap.size + 1 < W0.heap.size := HY0.out.lt
      have hlow2 : w.heap.size + 1 < wr.heap.size := HYk.out.lt
      clear hn hlt
      go_wp2_with fail
      refine (roll_any n hn128 W0.heap.size P (.slice pa qs.length pc) qs2 hql2 _ HP.out).mono ?_
      rintro e W7 ⟨rv7, rg, rfl, hrd, hb7, hrk⟩
      obtain ⟨ra, rc, rfl⟩ := hrd.form
      have HZ7 := Lib.hid (HYk.out.below hb7)
      have HW7 := Lib.hid (below_step HBW.out hb7)
      have z0 := HZ7.out.cell 0
      have z1 := HZ7.out.cell 1
      have g0 := HZ7.out.frozen 0
      have g1 := HZ7.out.frozen 1
      have hg8 := (set_grown W7 (w.heap.size + 1) 0 (.int .i64 (n : Int))).trans (set_grown _ (w.heap.size + 1) 1 (.slice ra (qs2.map fun q => told (hole q) n).length rc))
      have HRK := Lib.hid (hrk _ (sameFrom_grown hlow2 hg8))
      have HZ8 := Lib.hid ((HZ7.out.set 0 (.int .i64 (n : Int))).set 1 (.slice ra (qs2.map fun q => told (hole q) n).length rc))
      have HW8 := Lib.hid ((HW7.out.setCell (p := ⟨w.heap.size + 1, 0, none⟩) (by simp only; omega) (.int .i64 (n : Int))).setCell (p := ⟨w.heap.size + 1, 1, none⟩) (by simp only; omega) (.slice ra (qs2.map fun q => told (hole q) n).length rc))
      obtain ⟨rn, hrn⟩ : ∃ rn, (qs2.map fun q => told (hole q) n).length = rn := ⟨_, rfl⟩
      rw [hrn] at HRK HZ8 HW8 ⊢
      rw [HT.out] at HRK
      clear hb7 hrd hrk hrn hg8
      go_wp2
      have c0 := HZ8.out.cell 0
      have c1 := HZ8.out.cell 1
      refine bodyPost_ret (v := .tuple #[.agg #[.int .i64 (n : Int), .slice ra rn rc], .int .i64 0]) (by simp [results, Tryz.results21, go_sem, c0, c1]) rfl ?_
      rw [HPG.out]
      exact ⟨_, rg, by rw [HN.out]; rfl, HRK.out, HW8.out⟩
set_option maxRecDepth 100000 in
set_option maxHeartbeats 3200000 in
theorem punch_bad (R : Ro) (rok : RoOk R) (rv : Value) (g : Nat → Value) (track a b : Int) (on : Bool) (w : World) (hr : RoRd w rv g R)
    (hne : rollErr R true ≠ 0 ∨ (track < 1 ∨ R.tracks ≤ track) ∨ (a < 0 ∨ b < a ∨ (R.rows.length : Int) < b)) :
    Calls Tryz.prog 21 #[.agg #[.int .i64 R.tracks, rv], .int .i64 track, .int .i64 a, .int .i64 b, .bool on] w (RoEnds (punchP R track a b on) w) := by
  have hb0 : Below w.heap.size w ((w.alloc (.cells #[.int .i64 R.tracks, rv] 36)).alloc (.cells #[.int .i64 0, .slice none 0 0] 36)) := (((Below.refl w.heap.size w).alloc (Nat.le_refl _) _).alloc (by simp) _)
  have k1 := (Blk.new w 36 #[.int .i64 R.tracks, rv]).alloc (.cells #[.int .i64 0, .slice none 0 0] 36)
  have k2 := Blk.new (w.alloc (.cells #[.int .i64 R.tracks, rv] 36)) 36 #[.int .i64 0, .slice none 0 0]
  rw [World.size_alloc] at k2
  have HR := Lib.hid hr
  have HO := Lib.hid rok
  have HNE := Lib.hid hne
  have HB0 := Lib.hid hb0
  have HX0 := Lib.hid k1
  have HY0 := Lib.hid k2
  obtain ⟨av, cv, rfl⟩ := hr.form
  have hrl := rok.len
  clear hr rok hb0 k1 k2 hne
  go_enter Tryz.func21, Tryz.ntmps21
  go_wp2_with fail
  generalize ((w.alloc (.cells #[.int .i64 R.tracks, .slice av R.rows.length cv] 36)).alloc (.cells #[.int .i64 0, .slice none 0 0] 36)) = W0 at *
  refine (load_any R true HO.out _ g _ (HR.out.later HB0.out)).mono ?_
  rintro e W1 ⟨hb1, hld⟩
  have HB1 := Lib.hid (below_step HB0.out hb1)
  have HX1 := Lib.hid (HX0.out.below hb1)
  have HY1 := Lib.hid (HY0.out.below hb1)
  have x0 := HX1.out.cell 0
  have x1 := HX1.out.cell 1
  have z0 := HY1.out.cell 0
  have z1 := HY1.out.cell 1
  have g0 := HY1.out.frozen 0
  have g1 := HY1.out.frozen 1
  have HZ := Lib.hid ((HY1.out.set 0 (.int .i64 0)).set 1 (.slice none 0 0))
  have HB5 := Lib.hid ((HB1.out.setCell (p := ⟨w.heap.size + 1, 0, none⟩) (by simp only; omega) (.int .i64 0)).setCell (p := ⟨w.heap.size + 1, 1, none⟩) (by simp only; omega) (.slice none 0 0))
  clear hb1 HB0 HX0 HY0
  rcases hld with ⟨hne, rfl⟩ | ⟨he, P, pv, qs, rfl, hp, hqs⟩
  · have HQ := Lib.hid (punchP_roll (track := track) (a := a) (b := b) (on := on) hne)
    obtain ⟨er, her⟩ : ∃ er, rollErr R true = er := ⟨_, rfl⟩
    rw [her] at hne HQ ⊢
    have he2 : (er == 0) = false := by rw [beq_eq_false_iff_ne]; exact hne
    clear her
    go_wp2
    have c0 := HZ.out.cell 0
    have c1 := HZ.out.cell 1
    exact bodyPost_ret (v := .tuple #[.agg #[.int .i64 0, .slice none 0 0], .int .i64 er]) (by simp [results, Tryz.results21, go_sem, c0, c1]) rfl (roEnds_bad HQ.out HB5.out)
  · have HRE := Lib.hid he
    have hne2 := HNE.out.resolve_left (fun h => h he)
    clear he hp hqs
    by_cases htr : track < 1 ∨ R.tracks ≤ track
    · have HQ := Lib.hid (punchP_track (a := a) (b := b) (on := on) HRE.out htr)
      have htr2 : 1 ≤ track → ¬ track < R.tracks := by omega
      clear htr hne2
      go_wp2_with fail
      all_goals first
        | (exfalso; omega)
        | (have c0 := HZ.out.cell 0; have c1 := HZ.out.cell 1; exact bodyPost_ret (v := .tuple #[.agg #[.int .i64 0, .slice none 0 0], .int .i64 2]) (by simp [results, Tryz.results21, go_sem, c0, c1]) rfl (roEnds_bad HQ.out HB5.out))
    · have hsn := hne2.resolve_left htr
      have HQ := Lib.hid (punchP_range (on := on) HRE.out htr hsn)
      have ht1 : 1 ≤ track := by omega
      have ht2 : track < R.tracks := by omega
      have hs2 : 0 ≤ a → a ≤ b → ¬ b ≤ (R.rows.length : Int) := by omega
      clear htr hne2 hsn
      go_wp2_with fail
      all_goals first
        | (exfalso; omega)
        | (have c0 := HZ.out.cell 0; have c1 := HZ.out.cell 1; exact bodyPost_ret (v := .tuple #[.agg #[.int .i64 0, .slice none 0 0], .int .i64 7]) (by simp [results, Tryz.results21, go_sem, c0, c1]) rfl (roEnds_bad HQ.out HB5.out))
theorem punch_any (R : Ro) (rok : RoOk R) (rv : Value) (g : Nat → Value) (track a b : Int) (on : Bool) (w : World) (hr : RoRd w rv g R) :
    Calls Tryz.prog 21 #[.agg #[.int .i64 R.tracks, rv], .int .i64 track, .int .i64 a, .int .i64 b, .bool on] w (RoEnds (punchP R track a b on) w) := by
  by_cases h1 : rollErr R true = 0
  · by_cases h2 : track < 1 ∨ R.tracks ≤ track
    · exact punch_bad R rok rv g track a b on w hr (.inr (.inl h2))
    · by_cases h3 : a < 0 ∨ b < a ∨ (R.rows.length : Int) < b
      · exact punch_bad R rok rv g track a b on w hr (.inr (.inr h3))
      · obtain ⟨k, rfl⟩ := Int.eq_ofNat_of_zero_le (show 0 ≤ track by omega)
        obtain ⟨a, rfl⟩ := Int.eq_ofNat_of_zero_le (show 0 ≤ a by omega)
        obtain ⟨b, rfl⟩ := Int.eq_ofNat_of_zero_le (show 0 ≤ b by omega)
        exact punch_good' R rok rv g k a b on w hr h1 (by omega) (by omega) (by omega) (by omega)
  · exact punch_bad R rok rv g track a b on w hr (.inl h1)
end Go.Proofs.YtppccacfdpkkgaaGreatDoor
