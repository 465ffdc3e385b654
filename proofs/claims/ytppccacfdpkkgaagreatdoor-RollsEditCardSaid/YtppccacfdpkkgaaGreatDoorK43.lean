/-
  CONTRACTS: Splice.
-/
import Derived.Test.YtppccacfdpkkgaaGreatDoorK42
import Derived.Test.YtppccacfdpkkgaaGreatDoorK39
import Derived.Test.YtppccacfdpkkgaaGreatDoorK22
import Derived.Deep.CutRange
import Derived.StillTailTactics
namespace Go.Proofs.YtppccacfdpkkgaaGreatDoor
open Go.RowKit
/-- What Splice returns. -/
def spliceP (R M : Ro) (k : Int) : Ro × Int :=
  if rollErr R true = 0 then (if rollErr M true = 0 then (if R.tracks ≠ M.tracks then (⟨0, []⟩, 2) else if k < 0 ∨ (R.rows.length : Int) < k then (⟨0, []⟩, 7) else if 20000 < R.rows.length + M.rows.length then (⟨0, []⟩, 3) else (⟨R.tracks, R.rows.take k.toNat ++ (M.rows ++ R.rows.drop k.toNat)⟩, 0)) else (⟨0, []⟩, rollErr M true)) else (⟨0, []⟩, rollErr R true)
theorem spliceP_roll {R M : Ro} {k : Int} (h : rollErr R true ≠ 0) : spliceP R M k = (⟨0, []⟩, rollErr R true) := by unfold spliceP; rw [if_neg h]
theorem spliceP_more {R M : Ro} {k : Int} (h : rollErr R true = 0) (h2 : rollErr M true ≠ 0) : spliceP R M k = (⟨0, []⟩, rollErr M true) := by unfold spliceP; rw [if_pos h, if_neg h2]
theorem spliceP_tracks {R M : Ro} {k : Int} (h : rollErr R true = 0) (h2 : rollErr M true = 0) (h3 : R.tracks ≠ M.tracks) : spliceP R M k = (⟨0, []⟩, 2) := by unfold spliceP; rw [if_pos h, if_pos h2, if_pos h3]
theorem spliceP_at {R M : Ro} {k : Int} (h : rollErr R true = 0) (h2 : rollErr M true = 0) (h3 : R.tracks = M.tracks) (h4 : k < 0 ∨ (R.rows.length : Int) < k) : spliceP R M k = (⟨0, []⟩, 7) := by unfold spliceP; rw [if_pos h, if_pos h2, if_neg (fun q => q h3), if_pos h4]
theorem spliceP_long {R M : Ro} {k : Int} (h : rollErr R true = 0) (h2 : rollErr M true = 0) (h3 : R.tracks = M.tracks) (h4 : ¬ (k < 0 ∨ (R.rows.length : Int) < k)) (h5 : 20000 < R.rows.length + M.rows.length) : spliceP R M k = (⟨0, []⟩, 3) := by unfold spliceP; rw [if_pos h, if_pos h2, if_neg (fun q => q h3), if_neg h4, if_pos h5]
theorem spliceP_good {R M : Ro} {k : Nat} (h : rollErr R true = 0) (h2 : rollErr M true = 0) (h3 : R.tracks = M.tracks) (h4 : k ≤ R.rows.length) (h5 : R.rows.length + M.rows.length ≤ 20000) : spliceP R M (k : Int) = (⟨R.tracks, R.rows.take k ++ (M.rows ++ R.rows.drop k)⟩, 0) := by
  unfold spliceP
  rw [if_pos h, if_pos h2, if_neg (fun q => q h3), if_neg (by omega), if_neg (by omega), Int.toNat_natCast]
theorem rows_told {R : Ro} {qs : List Rw} {n : Nat} (hg : RollGood R true) (hqs : QsOf qs R) (hn : (n : Int) = R.tracks) : (qs.map fun q => told (hole q) n) = R.rows := by
  apply List.ext_getElem
  · rw [List.length_map, hqs.len]
  · intro j h1 h2
    have hj : j < qs.length := by rw [hqs.len]; exact h2
    rw [List.getElem_map]
    have h3 := (rowErr_zero (hg.row j h2)).1
    rw [← hn] at h3
    exact told_row (by have := hg.hi; omega) h3 (hqs.at' j hj h2)
theorem ins_fin {W0 W w' : World} {P G cap n : Nat} {tr : Int} {qs l : List Rw} {u' : Value} (h : PapB W W0.heap.size P tr G cap qs) (hn : qs.length = n) (hc : cap = n) (hW : Below W0.heap.size W0 W) (hrow : w'.ownsRow W0.heap.size 89 2 u' l.length (l.map rwC).flatten) (hg : W.grownBy w' (some G)) (hok : ∀ q ∈ l, RwOk q) :
    w'.cell? ⟨P, 1, none⟩ = some (.slice (some ⟨G, 0, none⟩) n n) ∧ w'.frozen? ⟨P, 1, none⟩ = false ∧ RowKit.Hid (∃ u, Pap (w'.setCell ⟨P, 1, none⟩ u') W0.heap.size P tr u l ∧ Below W0.heap.size W0 (w'.setCell ⟨P, 1, none⟩ u')) := by
  subst hc
  have hne : P ≠ G := rwB_ne h.r h.p (by decide)
  have hp := h.p.kept' hg hne
  have h1 : Blk (w'.setCell ⟨P, 1, none⟩ u') P 86 #[.int .i64 tr, u'] := hp.set 1 u'
  refine ⟨by rw [hp.cell, ← hn]; rfl, hp.frozen 1, Lib.hid ⟨u', ⟨h1, ?_, h.pb, hok⟩, ?_⟩⟩
  · exact hrow.kept (set_grown w' P 1 u') (.inr (blk_ne_row hp hrow (by decide)))
  · exact (hW.grown hg hW.size (fun j e => by cases e; exact h.gb)).grown (set_grown w' P 1 u') (Nat.le_trans hW.size hg.size) (fun j e => by cases e; exact h.pb)
set_option maxRecDepth 100000 in
set_option maxHeartbeats 6400000 in
theorem splice_good (R M : Ro) (rok : RoOk R) (mok : RoOk M) (rv mv : Value) (g f : Nat → Value) (k : Nat) (w : World) (hr : RoRd w rv g R) (hm : RoRd w mv f M)
    (he : rollErr R true = 0) (he2 : rollErr M true = 0) (h1 : R.tracks = M.tracks) (h2 : k ≤ R.rows.length) (h3 : R.rows.length + M.rows.length ≤ 20000) :
    Calls Tryz.prog 23 #[.agg #[.int .i64 R.tracks, rv], .agg #[.int .i64 M.tracks, mv], .int .i64 k] w (RoEnds (spliceP R M k) w) := by
  obtain ⟨av, cv, rfl⟩ := hr.form
  obtain ⟨bv, dv, rfl⟩ := hm.form
  have hb0 : Below w.heap.size w (((w.alloc (.cells #[.int .i64 R.tracks, .slice av R.rows.length cv] 36)).alloc (.cells #[.int .i64 M.tracks, .slice bv M.rows.length dv] 36)).alloc (.cells #[.int .i64 0, .slice none 0 0] 36)) := ((((Below.refl w.heap.size w).alloc (Nat.le_refl _) _).alloc (by simp) _).alloc (by simp; omega) _)
  have k1 := ((Blk.new w 36 #[.int .i64 R.tracks, .slice av R.rows.length cv]).alloc (.cells #[.int .i64 M.tracks, .slice bv M.rows.length dv] 36)).alloc (.cells #[.int .i64 0, .slice none 0 0] 36)
  have k2 := (Blk.new (w.alloc (.cells #[.int .i64 R.tracks, .slice av R.rows.length cv] 36)) 36 #[.int .i64 M.tracks, .slice bv M.rows.length dv]).alloc (.cells #[.int .i64 0, .slice none 0 0] 36)
  have k3 := Blk.new ((w.alloc (.cells #[.int .i64 R.tracks, .slice av R.rows.length cv] 36)).alloc (.cells #[.int .i64 M.tracks, .slice bv M.rows.length dv] 36)) 36 #[.int .i64 0, .slice none 0 0]
  rw [World.size_alloc] at k2
  rw [World.size_alloc, World.size_alloc] at k3
  have HR := Lib.hid hr
  have HM := Lib.hid hm
  have HO := Lib.hid rok
  have HO2 := Lib.hid mok
  have HG := Lib.hid (rollGood he)
  have HG2 := Lib.hid (rollGood he2)
  have HRE := Lib.hid he
  have HRE2 := Lib.hid he2
  have HB0 := Lib.hid hb0
  have HX0 := Lib.hid k1
  have HY0 := Lib.hid k2
  have HZ0 := Lib.hid k3
  have HPG := Lib.hid (spliceP_good he he2 h1 h2 h3)
  have hn2 := (rollGood he).len
  have ht2 := (rollGood he).lo
  have ht3 := (rollGood he).hi
  have htb : (R.tracks == M.tracks) = true := by rw [beq_iff_eq]; exact h1
  have HT := Lib.hid h1
  have hk0 : (0 : Int) ≤ (k : Int) := by omega
  have hk1 : (k : Int) ≤ (R.rows.length : Int) := by omega
  have hlen : (R.rows.length : Int) + (M.rows.length : Int) ≤ 20000 := by omega
  clear hr hm rok mok hb0 k1 k2 k3 he he2 h1
  go_enter Tryz.func23, Tryz.ntmps23
  go_wp2_with fail
  generalize (((w.alloc (.cells #[.int .i64 R.tracks, .slice av R.rows.length cv] 36)).alloc (.cells #[.int .i64 M.tracks, .slice bv M.rows.length dv] 36)).alloc (.cells #[.int .i64 0, .slice none 0 0] 36)) = W0 at *
  refine (load_cap R true HO.out _ g _ (HR.out.later HB0.out)).mono ?_
  rintro e W1 ⟨hb1, ⟨hne, rfl⟩ | ⟨he, P, G, qs, rfl, hp, hqs⟩⟩
  · exact absurd HRE.out hne
  have HB1 := Lib.hid (below_step HB0.out hb1)
  have HX1 := Lib.hid (HX0.out.below hb1)
  have HY1 := Lib.hid (HY0.out.below hb1)
  have HZ1 := Lib.hid (HZ0.out.below hb1)
  have HW1 := Lib.hid hb1
  have HP1 := Lib.hid hp
  have HQS := Lib.hid hqs
  have y0 := HY1.out.cell 0
  have y1 := HY1.out.cell 1
  clear hb1 he hp hqs
  go_wp2_with fail
  refine (load_cap M true HO2.out _ f _ (HM.out.later HB1.out)).mono ?_
  rintro e W2 ⟨hb2, ⟨hne, rfl⟩ | ⟨he, P2, G2, ms, rfl, hp2, hms⟩⟩
  · exact absurd HRE2.out hne
  have HB2 := Lib.hid (below_step HB1.out hb2)
  have HX2 := Lib.hid (HX1.out.below hb2)
  have HY2 := Lib.hid (HY1.out.below hb2)
  have HZ2 := Lib.hid (HZ1.out.below hb2)
  have HW2 := Lib.hid (below_step HW1.out hb2)
  have HP2 := Lib.hid (HP1.out.below hb2)
  have HQ2 := Lib.hid hp2
  have HMS := Lib.hid hms
  have hW1s := HW1.out.size
  clear hb2 he hp2 hms y0 y1
  have x0 := HX2.out.cell 0
  have x1 := HX2.out.cell 1
  have y0 := HY2.out.cell 0
  have y1 := HY2.out.cell 1
  go_wp2_with fail
  have hql : qs.length = R.rows.length := HQS.out.len
  have hml : ms.length = M.rows.length := HMS.out.len
  have hu := HP2.out.r.row rwC_len HP2.out.gb HP2.out.c
  have hv := row_base (HQ2.out.r.row rwC_len HQ2.out.gb HQ2.out.c) hW1s
  rw [← hql] at hu
  rw [← hml] at hv
  obtain ⟨n, hn⟩ : ∃ n, qs.length = n := ⟨_, rfl⟩
  obtain ⟨m, hmm⟩ : ∃ m, ms.length = m := ⟨_, rfl⟩
  have HN := Lib.hid hn
  have HMM := Lib.hid hmm
  have p1 : W2.cell? ⟨P, 1, none⟩ = some (.slice (some ⟨G, 0, none⟩) n n) := by have := HP2.out.p.cell 1; rw [← hql, hn] at this; exact this
  have q1 : W2.cell? ⟨P2, 1, none⟩ = some (.slice (some ⟨G2, 0, none⟩) m m) := by have := HQ2.out.p.cell 1; rw [← hml, hmm] at this; exact this
  have HU := Lib.hid hu
  have HV := Lib.hid hv
  have hkn : k ≤ n := by omega
  have hnm : n + m ≤ 40000 := by omega
  clear hu hv hql hml hn hmm x0 x1 y0 y1
  obtain ⟨l, hll⟩ : ∃ l, qs.take k ++ (ms ++ qs.drop k) = l := ⟨_, rfl⟩
  have HLL := Lib.hid hll
  clear hll
  go_cut [] from 11 (fun wx => RowKit.Hid (∃ u', Pap wx W0.heap.size P R.tracks u' l ∧ Below W0.heap.size W0 wx))
  case first =>
    have hb3 : Below W2.heap.size W2 W2.drew := (Below.refl _ _).drew
    have HP3 := Lib.hid (HP2.out.below hb3)
    have HU3 : RowKit.Hid (W2.drew.ownsRow W0.heap.size 89 2 (.slice (some ⟨G, 0, none⟩) qs.length qs.length) qs.length (qs.map rwC).flatten) := by
      have h9 := row_later HU.out hb3
      exact Lib.hid h9
    have HV3 : RowKit.Hid (W2.drew.ownsRow W0.heap.size 89 2 (.slice (some ⟨G2, 0, none⟩) ms.length ms.length) ms.length (ms.map rwC).flatten) := by
      have h9 := row_later HV.out hb3
      exact Lib.hid h9
    have HW3 := Lib.hid (below_step HW2.out hb3)
    have HIN : RowKit.Hid (Calls Tryz.prog 58 #[.slice (some ⟨G, 0, none⟩) n n, .int .i64 k, .slice (some ⟨G2, 0, none⟩) m m] W2.drew (InE W0.heap.size (.slice (some ⟨G, 0, none⟩) n n) l W2.drew)) := by
      have h9 := insert_any qs ms (by rw [HN.out, HMM.out]; exact hnm) W0.heap.size k (by rw [HN.out]; exact hkn) (some ⟨G, 0, none⟩) (some ⟨G2, 0, none⟩) ms.length W2.drew HW3.out.size HU3.out HV3.out
      rw [HN.out, HMM.out, HLL.out] at h9
      exact Lib.hid h9
    have HOK : RowKit.Hid (∀ q ∈ l, RwOk q) := Lib.hid fun q hq => by
      rw [← HLL.out, List.mem_append, List.mem_append] at hq
      rcases hq with hq | hq | hq
      · exact HP2.out.ok q (List.mem_of_mem_take hq)
      · exact HQ2.out.ok q hq
      · exact HP2.out.ok q (List.mem_of_mem_drop hq)
    clear hb3 HU HV HU3 HV3
    go_region_with (go_at_call 58; refine HIN.out.mono ?_; rintro e w' ⟨u', rfl, hrow, hg⟩; obtain ⟨ua, uc, eu⟩ := own_form hrow; subst eu; obtain ⟨p1', f1', HFIN⟩ := ins_fin HP3.out HN.out (by rw [← HN.out, HQS.out.len]) HW3.out hrow hg HOK.out; clear hrow hg)
    all_goals go_wp2_with fail
    all_goals go_meet
    all_goals exact HFIN
  case rest =>
    clear p1 q1 HU HV
    obtain ⟨u', hpap, hbw⟩ := hcut.out
    rename World => W4
    obtain ⟨n4, hn4⟩ : ∃ n4 : Nat, (n4 : Int) = R.tracks := ⟨R.tracks.toNat, by omega⟩
    have hn128 : n4 ≤ 128 := by omega
    have hl1 : l.length = n + m := by rw [← HLL.out, List.length_append, List.length_append, List.length_take, List.length_drop, HN.out, HMM.out]; omega
    have hql : n = R.rows.length := by rw [← HN.out]; exact HQS.out.len
    have hml : m = M.rows.length := by rw [← HMM.out]; exact HMS.out.len
    have hl2 : l.length ≤ 20000 := by omega
    have HTD : RowKit.Hid ((l.map fun q => told (hole q) n4) = R.rows.take k ++ (M.rows ++ R.rows.drop k)) := by
      have e1 := rows_told HG.out HQS.out hn4
      have e2 := rows_told HG2.out HMS.out (hn4.trans HT.out)
      rw [← HLL.out, List.map_append, List.map_append, List.map_take, List.map_drop, e1, e2]
      exact Lib.hid rfl
    have HP := Lib.hid (show Pap W4 W0.heap.size P (n4 : Int) u' l by rw [hn4]; exact hpap)
    have HYk := Lib.hid (HZ0.out.below hbw)
    have HBW := Lib.hid (below_step HB0.out hbw)
    have HN4 := Lib.hid hn4
    have hlow2 : w.heap.size + 1 + 1 < W4.heap.size := HYk.out.lt
    clear hcut hpap hbw hn4 hl1 hql hml
    go_wp2_with fail
    refine (roll_any n4 hn128 W0.heap.size P u' l hl2 _ HP.out).mono ?_
    rintro e W7 ⟨rv7, rg, rfl, hrd, hb7, hrk⟩
    obtain ⟨ra, rc, rfl⟩ := hrd.form
    have HZ7 := Lib.hid (HYk.out.below hb7)
    have HW7 := Lib.hid (below_step HBW.out hb7)
    have z0 := HZ7.out.cell 0
    have z1 := HZ7.out.cell 1
    have g0 := HZ7.out.frozen 0
    have g1 := HZ7.out.frozen 1
    have hg8 := (set_grown W7 (w.heap.size + 1 + 1) 0 (.int .i64 (n4 : Int))).trans (set_grown _ (w.heap.size + 1 + 1) 1 (.slice ra (l.map fun q => told (hole q) n4).length rc))
    have HRK := Lib.hid (hrk _ (sameFrom_grown hlow2 hg8))
    have HZ8 := Lib.hid ((HZ7.out.set 0 (.int .i64 (n4 : Int))).set 1 (.slice ra (l.map fun q => told (hole q) n4).length rc))
    have HW8 := Lib.hid ((HW7.out.setCell (p := ⟨w.heap.size + 1 + 1, 0, none⟩) (by simp only; omega) (.int .i64 (n4 : Int))).setCell (p := ⟨w.heap.size + 1 + 1, 1, none⟩) (by simp only; omega) (.slice ra (l.map fun q => told (hole q) n4).length rc))
    obtain ⟨rn, hrn⟩ : ∃ rn, (l.map fun q => told (hole q) n4).length = rn := ⟨_, rfl⟩
    rw [hrn] at HRK HZ8 HW8 ⊢
    rw [HTD.out] at HRK
    clear hb7 hrd hrk hrn hg8
    go_wp2
    have c0 := HZ8.out.cell 0
    have c1 := HZ8.out.cell 1
    refine bodyPost_ret (v := .tuple #[.agg #[.int .i64 (n4 : Int), .slice ra rn rc], .int .i64 0]) (by simp [results, Tryz.results23, go_sem, c0, c1]) rfl ?_
    rw [HPG.out]
    have h9 := HRK.out
    rw [HN4.out] at h9 ⊢
    exact ⟨_, rg, rfl, h9, by have := HW8.out; rw [HN4.out] at this; exact this⟩
set_option maxRecDepth 100000 in
set_option maxHeartbeats 6400000 in
theorem splice_bad (R M : Ro) (rok : RoOk R) (mok : RoOk M) (rv mv : Value) (g f : Nat → Value) (k : Int) (w : World) (hr : RoRd w rv g R) (hm : RoRd w mv f M)
    (hbad : rollErr R true ≠ 0 ∨ rollErr M true ≠ 0 ∨ R.tracks ≠ M.tracks ∨ (k < 0 ∨ (R.rows.length : Int) < k) ∨ 20000 < R.rows.length + M.rows.length) :
    Calls Tryz.prog 23 #[.agg #[.int .i64 R.tracks, rv], .agg #[.int .i64 M.tracks, mv], .int .i64 k] w (RoEnds (spliceP R M k) w) := by
  obtain ⟨av, cv, rfl⟩ := hr.form
  obtain ⟨bv, dv, rfl⟩ := hm.form
  have hb0 : Below w.heap.size w (((w.alloc (.cells #[.int .i64 R.tracks, .slice av R.rows.length cv] 36)).alloc (.cells #[.int .i64 M.tracks, .slice bv M.rows.length dv] 36)).alloc (.cells #[.int .i64 0, .slice none 0 0] 36)) := ((((Below.refl w.heap.size w).alloc (Nat.le_refl _) _).alloc (by simp) _).alloc (by simp; omega) _)
  have k1 := ((Blk.new w 36 #[.int .i64 R.tracks, .slice av R.rows.length cv]).alloc (.cells #[.int .i64 M.tracks, .slice bv M.rows.length dv] 36)).alloc (.cells #[.int .i64 0, .slice none 0 0] 36)
  have k2 := (Blk.new (w.alloc (.cells #[.int .i64 R.tracks, .slice av R.rows.length cv] 36)) 36 #[.int .i64 M.tracks, .slice bv M.rows.length dv]).alloc (.cells #[.int .i64 0, .slice none 0 0] 36)
  have k3 := Blk.new ((w.alloc (.cells #[.int .i64 R.tracks, .slice av R.rows.length cv] 36)).alloc (.cells #[.int .i64 M.tracks, .slice bv M.rows.length dv] 36)) 36 #[.int .i64 0, .slice none 0 0]
  rw [World.size_alloc] at k2
  rw [World.size_alloc, World.size_alloc] at k3
  have HR := Lib.hid hr
  have HM := Lib.hid hm
  have HO := Lib.hid rok
  have HO2 := Lib.hid mok
  have HB0 := Lib.hid hb0
  have HX0 := Lib.hid k1
  have HY0 := Lib.hid k2
  have HZ0 := Lib.hid k3
  have HBAD := Lib.hid hbad
  clear hr hm rok mok hb0 k1 k2 k3 hbad
  go_enter Tryz.func23, Tryz.ntmps23
  go_wp2_with fail
  generalize (((w.alloc (.cells #[.int .i64 R.tracks, .slice av R.rows.length cv] 36)).alloc (.cells #[.int .i64 M.tracks, .slice bv M.rows.length dv] 36)).alloc (.cells #[.int .i64 0, .slice none 0 0] 36)) = W0 at *
  refine (load_cap R true HO.out _ g _ (HR.out.later HB0.out)).mono ?_
  rintro e W1 ⟨hb1, hld⟩
  have HB1 := Lib.hid (below_step HB0.out hb1)
  have HX1 := Lib.hid (HX0.out.below hb1)
  have HY1 := Lib.hid (HY0.out.below hb1)
  have HZ1 := Lib.hid (HZ0.out.below hb1)
  clear hb1 HB0 HX0 HY0 HZ0
  rcases hld with ⟨hne, rfl⟩ | ⟨he, P, G, qs, rfl, hp, hqs⟩
  · have HQ := Lib.hid (spliceP_roll (M := M) (k := k) hne)
    obtain ⟨er, her⟩ : ∃ er, rollErr R true = er := ⟨_, rfl⟩
    rw [her] at hne HQ ⊢
    have he2 : (er == 0) = false := by rw [beq_eq_false_iff_ne]; exact hne
    clear her
    have z0 := HZ1.out.cell 0
    have z1 := HZ1.out.cell 1
    have g0 := HZ1.out.frozen 0
    have g1 := HZ1.out.frozen 1
    have HZ := Lib.hid ((HZ1.out.set 0 (.int .i64 0)).set 1 (.slice none 0 0))
    have HB5 := Lib.hid ((HB1.out.setCell (p := ⟨w.heap.size + 1 + 1, 0, none⟩) (by simp only; omega) (.int .i64 0)).setCell (p := ⟨w.heap.size + 1 + 1, 1, none⟩) (by simp only; omega) (.slice none 0 0))
    go_wp2
    (have c0 := HZ.out.cell 0; have c1 := HZ.out.cell 1; exact bodyPost_ret (v := .tuple #[.agg #[.int .i64 0, .slice none 0 0], .int .i64 er]) (by simp [results, Tryz.results23, go_sem, c0, c1]) rfl (roEnds_bad HQ.out HB5.out))
  · have HRE := Lib.hid he
    have HBAD2 := Lib.hid (HBAD.out.resolve_left (fun h => h he))
    have y0 := HY1.out.cell 0
    have y1 := HY1.out.cell 1
    clear he hp hqs HBAD
    go_wp2_with fail
    refine (load_cap M true HO2.out _ f _ (HM.out.later HB1.out)).mono ?_
    rintro e W2 ⟨hb2, hld⟩
    have HB2 := Lib.hid (below_step HB1.out hb2)
    have HX2 := Lib.hid (HX1.out.below hb2)
    have HY2 := Lib.hid (HY1.out.below hb2)
    have HZ2 := Lib.hid (HZ1.out.below hb2)
    clear hb2 HB1 HX1 HY1 HZ1 y0 y1
    have z0 := HZ2.out.cell 0
    have z1 := HZ2.out.cell 1
    have g0 := HZ2.out.frozen 0
    have g1 := HZ2.out.frozen 1
    have HZ := Lib.hid ((HZ2.out.set 0 (.int .i64 0)).set 1 (.slice none 0 0))
    have HB5 := Lib.hid ((HB2.out.setCell (p := ⟨w.heap.size + 1 + 1, 0, none⟩) (by simp only; omega) (.int .i64 0)).setCell (p := ⟨w.heap.size + 1 + 1, 1, none⟩) (by simp only; omega) (.slice none 0 0))
    rcases hld with ⟨hne, rfl⟩ | ⟨he2, P2, G2, ms, rfl, hp2, hms⟩
    · have HQ := Lib.hid (spliceP_more (k := k) HRE.out hne)
      obtain ⟨er, her⟩ : ∃ er, rollErr M true = er := ⟨_, rfl⟩
      rw [her] at hne HQ ⊢
      have he2 : (er == 0) = false := by rw [beq_eq_false_iff_ne]; exact hne
      clear her
      go_wp2
      (have c0 := HZ.out.cell 0; have c1 := HZ.out.cell 1; exact bodyPost_ret (v := .tuple #[.agg #[.int .i64 0, .slice none 0 0], .int .i64 er]) (by simp [results, Tryz.results23, go_sem, c0, c1]) rfl (roEnds_bad HQ.out HB5.out))
    · have HRE2 := Lib.hid he2
      have HBAD3 := Lib.hid (HBAD2.out.resolve_left (fun h => h he2))
      have x0 := HX2.out.cell 0
      have x1 := HX2.out.cell 1
      have y0 := HY2.out.cell 0
      have y1 := HY2.out.cell 1
      clear he2 hp2 hms HBAD2
      by_cases ht : R.tracks = M.tracks
      · have HT := Lib.hid ht
        have htb : (R.tracks == M.tracks) = true := by rw [beq_iff_eq]; exact ht
        have HBAD4 := Lib.hid (HBAD3.out.resolve_left (fun h => h ht))
        clear ht HBAD3
        by_cases hk : k < 0 ∨ (R.rows.length : Int) < k
        · have HQ := Lib.hid (spliceP_at HRE.out HRE2.out HT.out hk)
          have hk2 : 0 ≤ k → ¬ k ≤ (R.rows.length : Int) := by omega
          clear hk HBAD4
          go_wp2_with fail
          all_goals first
            | (exfalso; omega)
            | (have c0 := HZ.out.cell 0; have c1 := HZ.out.cell 1; exact bodyPost_ret (v := .tuple #[.agg #[.int .i64 0, .slice none 0 0], .int .i64 7]) (by simp [results, Tryz.results23, go_sem, c0, c1]) rfl (roEnds_bad HQ.out HB5.out))
        · have hlong := HBAD4.out.resolve_left hk
          have HQ := Lib.hid (spliceP_long HRE.out HRE2.out HT.out hk hlong)
          have hk0 : 0 ≤ k := by omega
          have hk1 : k ≤ (R.rows.length : Int) := by omega
          have hln : (20000 : Int) < (R.rows.length : Int) + (M.rows.length : Int) := by omega
          have hln2 : decide ((20000 : Int) < (R.rows.length : Int) + (M.rows.length : Int)) = true := decide_eq_true hln
          have hr1 := HO.out.len
          have hr2 := HO2.out.len
          clear hk hlong HBAD4
          go_wp2_with fail
          all_goals first
            | (exfalso; omega)
            | (have c0 := HZ.out.cell 0; have c1 := HZ.out.cell 1; exact bodyPost_ret (v := .tuple #[.agg #[.int .i64 0, .slice none 0 0], .int .i64 3]) (by simp [results, Tryz.results23, go_sem, c0, c1]) rfl (roEnds_bad HQ.out HB5.out))
      · have HQ := Lib.hid (spliceP_tracks (k := k) HRE.out HRE2.out ht)
        have htb : (R.tracks == M.tracks) = false := by rw [beq_eq_false_iff_ne]; exact ht
        have hr1 := HO.out.len
        clear ht HBAD3
        go_wp2_with fail
        all_goals first
          | (exfalso; omega)
          | (have c0 := HZ.out.cell 0; have c1 := HZ.out.cell 1; exact bodyPost_ret (v := .tuple #[.agg #[.int .i64 0, .slice none 0 0], .int .i64 2]) (by simp [results, Tryz.results23, go_sem, c0, c1]) rfl (roEnds_bad HQ.out HB5.out))
theorem splice_any (R M : Ro) (rok : RoOk R) (mok : RoOk M) (rv mv : Value) (g f : Nat → Value) (k : Int) (w : World) (hr : RoRd w rv g R) (hm : RoRd w mv f M) :
    Calls Tryz.prog 23 #[.agg #[.int .i64 R.tracks, rv], .agg #[.int .i64 M.tracks, mv], .int .i64 k] w (RoEnds (spliceP R M k) w) := by
  by_cases h : rollErr R true ≠ 0 ∨ rollErr M true ≠ 0 ∨ R.tracks ≠ M.tracks ∨ (k < 0 ∨ (R.rows.length : Int) < k) ∨ 20000 < R.rows.length + M.rows.length
  · exact splice_bad R M rok mok rv mv g f k w hr hm h
  · have h1 : rollErr R true = 0 := Decidable.byContradiction fun q => h (.inl q)
    have h2 : rollErr M true = 0 := Decidable.byContradiction fun q => h (.inr (.inl q))
    have h3 : R.tracks = M.tracks := Decidable.byContradiction fun q => h (.inr (.inr (.inl q)))
    have h4 : ¬ (k < 0 ∨ (R.rows.length : Int) < k) := fun q => h (.inr (.inr (.inr (.inl q))))
    have h5 : ¬ 20000 < R.rows.length + M.rows.length := fun q => h (.inr (.inr (.inr (.inr q))))
    obtain ⟨n, rfl⟩ := Int.eq_ofNat_of_zero_le (show 0 ≤ k by omega)
    exact splice_good R M rok mok rv mv g f n w hr hm h1 h2 h3 (by omega) (by omega)
end Go.Proofs.YtppccacfdpkkgaaGreatDoor
