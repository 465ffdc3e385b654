/-
  CONTRACTS: the reference's Splice: the walk.
-/
import Derived.Test.YtppccacfdpkkgaaGreatDoorK44
namespace Go.Proofs.YtppccacfdpkkgaaGreatDoor
open Go.RowKit Go.Shelf
/-- The result, its fields written. -/
theorem spl_fin {w W0 Wd : World} {Z X n : Nat} {R M : Ro} {a : Option Addr} {c k : Nat} {us : List Value} {rv mv : Value} {g f : Nat → Value} (hz : Blk Wd Z 36 #[.int .i64 0, .slice none 0 0]) (hs : SpX W0 X R.tracks (.slice a n c) us Wd) (hw : Below w.heap.size w Wd) (hzb : w.heap.size ≤ Z) (hr : RoRd w rv g R) (hm : RoRd w mv f M) (hus : (flR R g).take k ++ (flR M f ++ (flR R g).drop k) = us) :
    RoRd ((Wd.setCell ⟨Z, 0, none⟩ (.int .i64 R.tracks)).setCell ⟨Z, 1, none⟩ (.slice a n c)) (.slice a n c) (fun i => us.getD i (.slice none 0 0)) ⟨R.tracks, R.rows.take k ++ (M.rows ++ R.rows.drop k)⟩ ∧ Below w.heap.size w ((Wd.setCell ⟨Z, 0, none⟩ (.int .i64 R.tracks)).setCell ⟨Z, 1, none⟩ (.slice a n c)) := by
  have hg := (set_grown Wd Z 0 (.int .i64 R.tracks)).trans (set_grown _ Z 1 (.slice a n c))
  have hb := hw.grown hg hw.size (fun j e => by cases e; exact hzb)
  have hr2 := hr.later hb
  have hm2 := hm.later hb
  refine ⟨al_rd (base := W0.heap.size) ?_ (hs.row.kept hg (.inr (blk_ne_row hz hs.row (by decide)))), hb⟩
  rw [← hus]
  exact ((Al.of hr2).take k).append ((Al.of hm2).append ((Al.of hr2).drop k))
set_option maxRecDepth 100000 in
set_option maxHeartbeats 6400000 in
theorem rsplice_good (R M : Ro) (rok : RoOk R) (mok : RoOk M) (rv mv : Value) (g f : Nat → Value) (k : Nat) (w : World) (hr : RoRd w rv g R) (hm : RoRd w mv f M) (hcap : ∀ a n c, rv = .slice a n c → n ≤ c)
    (he : rollErr R true = 0) (he2 : rollErr M true = 0) (h1 : R.tracks = M.tracks) (h2 : k ≤ R.rows.length) (h3 : R.rows.length + M.rows.length ≤ 20000) :
    Calls Tryz.prog 24 #[.agg #[.int .i64 R.tracks, rv], .agg #[.int .i64 M.tracks, mv], .int .i64 k] w (RoEnds (spliceP R M k) w) := by
  obtain ⟨av, cv, rfl⟩ := hr.form
  obtain ⟨bv, dv, rfl⟩ := hm.form
  have hcv : R.rows.length ≤ cv := hcap _ _ _ rfl
  clear hcap
  have hb0 : Below w.heap.size w (((w.alloc (.cells #[.int .i64 R.tracks, .slice av R.rows.length cv] 36)).alloc (.cells #[.int .i64 M.tracks, .slice bv M.rows.length dv] 36)).alloc (.cells #[.int .i64 0, .slice none 0 0] 36)) := ((((Below.refl w.heap.size w).alloc (Nat.le_refl _) _).alloc (by simp) _).alloc (by simp; omega) _)
  have k1 := ((Blk.new w 36 #[.int .i64 R.tracks, .slice av R.rows.length cv]).alloc (.cells #[.int .i64 M.tracks, .slice bv M.rows.length dv] 36)).alloc (.cells #[.int .i64 0, .slice none 0 0] 36)
  have k2 := (Blk.new (w.alloc (.cells #[.int .i64 R.tracks, .slice av R.rows.length cv] 36)) 36 #[.int .i64 M.tracks, .slice bv M.rows.length dv]).alloc (.cells #[.int .i64 0, .slice none 0 0] 36)
  have k3 := Blk.new ((w.alloc (.cells #[.int .i64 R.tracks, .slice av R.rows.length cv] 36)).alloc (.cells #[.int .i64 M.tracks, .slice bv M.rows.length dv] 36)) 36 #[.int .i64 0, .slice none 0 0]
  rw [World.size_alloc] at k2
  rw [World.size_alloc, World.size_alloc] at k3
  have HR := Lib.hid hr
  have HM := Lib.hid hm
  have HO := Lib.hid rok
  have HO2 := Lib.hid mok
  have HRE := Lib.hid he
  have HRE2 := Lib.hid he2
  have HB0 := Lib.hid hb0
  have HX0 := Lib.hid k1
  have HY0 := Lib.hid k2
  have HZ0 := Lib.hid k3
  have HPG := Lib.hid (spliceP_good he he2 h1 h2 h3)
  have hn2 := (rollGood he).len
  have ht2 := (rollGood he).lo
  have ht3 := (rollGood he).hi
  have htb : (R.tracks == M.tracks) = true := by rw [beq_iff_eq]; exact h1
  have HT := Lib.hid h1
  have hk0 : (0 : Int) ≤ (k : Int) := by omega
  have hk1 : (k : Int) ≤ (R.rows.length : Int) := by omega
  have hlen : (R.rows.length : Int) + (M.rows.length : Int) ≤ 20000 := by omega
  clear hr hm rok mok hb0 k1 k2 k3 he he2 h1
  go_enter Tryz.func24, Tryz.ntmps24
  go_wp2_with fail
  generalize (((w.alloc (.cells #[.int .i64 R.tracks, .slice av R.rows.length cv] 36)).alloc (.cells #[.int .i64 M.tracks, .slice bv M.rows.length dv] 36)).alloc (.cells #[.int .i64 0, .slice none 0 0] 36)) = W0 at *
  refine (rcheck_roll R HO.out _ g _ (HR.out.later HB0.out)).mono ?_
  rintro e W1 ⟨rfl, hb1⟩
  rw [HRE.out]
  have HB1 := Lib.hid (below_step HB0.out hb1)
  have HX1 := Lib.hid (HX0.out.below hb1)
  have HY1 := Lib.hid (HY0.out.below hb1)
  have HZ1 := Lib.hid (HZ0.out.below hb1)
  have y0 := HY1.out.cell 0
  have y1 := HY1.out.cell 1
  clear hb1
  go_wp2_with fail
  refine (rcheck_roll M HO2.out _ f _ (HM.out.later HB1.out)).mono ?_
  rintro e W2 ⟨rfl, hb2⟩
  rw [HRE2.out]
  have HB2 := Lib.hid (below_step HB1.out hb2)
  have HX2 := Lib.hid (HX1.out.below hb2)
  have HY2 := Lib.hid (HY1.out.below hb2)
  have HZ2 := Lib.hid (HZ1.out.below hb2)
  clear hb2 y0 y1
  have x0 := HX2.out.cell 0
  have x1 := HX2.out.cell 1
  have y0 := HY2.out.cell 0
  have y1 := HY2.out.cell 1
  go_wp2_with fail
  have hmx : Tryz.prog.follows .mixedOrders = true := by kernel_rfl
  have hax : Below W2.heap.size W2 (W2.alloc (.cells #[.int .i64 R.tracks, .slice none 0 0] 36)) := (Below.refl _ _).alloc (Nat.le_refl _) _
  have HSA := Lib.hid (show SpX W2 W2.heap.size R.tracks (.slice none 0 0) [] (W2.alloc (.cells #[.int .i64 R.tracks, .slice none 0 0] 36)) from ⟨Blk.new W2 _ _, World.ownsRow_nil _ _ _ _, hax, Nat.le_refl _⟩)
  have HXA := Lib.hid (HX2.out.below hax)
  obtain ⟨X, hX⟩ : ∃ X, W2.heap.size = X := ⟨_, rfl⟩
  obtain ⟨Wa, hWa⟩ : ∃ Wa, W2.alloc (.cells #[.int .i64 R.tracks, .slice none 0 0] 36) = Wa := ⟨_, rfl⟩
  rw [hWa] at hax HSA HXA ⊢
  rw [hX] at HSA ⊢
  have HWA := Lib.hid (below_step HB2.out hax)
  clear hX hWa hax x0 x1 y0 y1
  -- the rows ahead
  have hn1 := flR_len R g
  have hdA : Below Wa.heap.size Wa Wa.drew := (Below.refl _ _).drew
  have HSA' := Lib.hid (HSA.out.low hdA)
  have hrA : ARd Wa.drew (.slice av R.rows.length cv) 1 ((flR R g).map vC) := by
    have h9 := (HR.out.later (below_step HWA.out hdA)).r
    rwa [flR_rows] at h9
  have halA := Al.of (HR.out.later (below_step HWA.out hdA))
  obtain ⟨V1, w1, hrun1, hrow1, hg1⟩ := append_ard Wa.drew W2.heap.size (.slice none 0 0) [] HSA'.out.row (.slice av k cv) ((flR R g).take k) (fun u hu => halA.one u (List.mem_of_mem_take hu)) (ard_take hrA (by rw [hn1]; exact h2) cv) (by rw [List.length_take, hn1]; simp only [List.length_nil]; omega) HSA'.out.b.size
  obtain ⟨a1, c1, e1⟩ := own_form hrow1
  obtain ⟨p1, f1, HF1⟩ := HSA'.out.push hrow1 hg1
  have HOW1 := Lib.hid hrow1
  clear hrA halA hrow1 hg1 hdA HSA'
  obtain ⟨n1, hn1'⟩ : ∃ n1, ([] ++ (flR R g).take k).length = n1 := ⟨_, rfl⟩
  rw [hn1'] at e1
  clear hn1'
  subst e1
  have hkc : (k : Int) ≤ (cv : Int) := by omega
  have hkc2 : k ≤ cv := by omega
  have b1 := HSA.out.x.cell 1
  have x1 := HXA.out.cell 1
  go_cut [] from 10 (fun wx => RowKit.Hid (SpX W2 X R.tracks (.slice a1 n1 c1) ([] ++ (flR R g).take k) wx))
  case first =>
    go_region_law_o (refine step_appendK rfl _ _ 34 34 rfl (.slice none 0 0) (.slice av k cv) (by simp [Act.eval, Act.put]) (by simp [Act.eval, Act.put]) hrun1 ?_)
    all_goals go_wp2
    all_goals go_meet
    all_goals exact HF1
  case rest =>
    rename World => Wb
    have HSB := hcut
    clear hrun1 p1 f1 HF1 HOW1 b1 x1 hcut HSA
    obtain ⟨us1, hus1⟩ : ∃ us1, [] ++ (flR R g).take k = us1 := ⟨_, rfl⟩
    rw [hus1] at HSB
    have HUS1 := Lib.hid hus1
    have hul1 : us1.length = k := by rw [← hus1, List.nil_append, List.length_take, hn1]; omega
    clear hus1
    have HWB := Lib.hid (below_step HB2.out HSB.out.b)
    have hn2' := flR_len M f
    have hrB : ARd Wb (.slice bv M.rows.length dv) 1 ((flR M f).map vC) := by
      have h9 := (HM.out.later HWB.out).r
      rwa [flR_rows] at h9
    have halB := Al.of (HM.out.later HWB.out)
    obtain ⟨V2, w2, hrun2, hrow2, hg2⟩ := append_ard Wb W2.heap.size _ us1 HSB.out.row (.slice bv M.rows.length dv) (flR M f) halB.one hrB (by omega) HSB.out.b.size
    obtain ⟨a2, c2, e2⟩ := own_form hrow2
    obtain ⟨p2, f2, HF2⟩ := HSB.out.push hrow2 hg2
    obtain ⟨us2, hus2⟩ : ∃ us2, us1 ++ flR M f = us2 := ⟨_, rfl⟩
    rw [hus2] at e2 HF2
    have HUS2 := Lib.hid hus2
    have hul2 : us2.length = k + M.rows.length := by rw [← hus2, List.length_append, hul1, hn2']
    clear hrB halB hrow2 hg2 hus2
    obtain ⟨n2, hn2⟩ : ∃ n2, us2.length = n2 := ⟨_, rfl⟩
    rw [hn2] at e2
    subst e2
    have HN2 := Lib.hid hn2
    clear hn2
    have b1 := HSB.out.x.cell 1
    have y1 := (HY2.out.below HSB.out.b).cell 1
    go_upto_region 14 with fail
    go_cut [] from 10 (fun wx => RowKit.Hid (SpX W2 X R.tracks (.slice a2 n2 c2) us2 wx))
    case first =>
      go_wp2_with (at_builtin; refine Lib.wpList_append_run _ rfl _ _ _ _ rfl _ _ rfl rfl _ _ hrun2 ?_)
      go_meet
      exact HF2
    case rest =>
      rename World => Wc
      have HSC := hcut
      clear hrun2 p2 f2 HF2 b1 y1 hcut HSB HWB
      have hdC : Below Wc.heap.size Wc Wc.drew := (Below.refl _ _).drew
      have HSC' := Lib.hid (HSC.out.low hdC)
      have HWC := Lib.hid (below_step HB2.out HSC'.out.b)
      have hrC : ARd Wc.drew (.slice av R.rows.length cv) 1 ((flR R g).map vC) := by
        have h9 := (HR.out.later HWC.out).r
        rwa [flR_rows] at h9
      have halC := Al.of (HR.out.later HWC.out)
      have hdl : ((flR R g).drop k).length = R.rows.length - k := by rw [List.length_drop, hn1]
      have b1 := HSC.out.x.cell 1
      have x1 := (HX2.out.below HSC.out.b).cell 1
      by_cases hck : cv = k
      · have hck2 := hck.symm
        clear hck
        subst hck2
        have hsrc : ARd Wc.drew (.slice av 0 0) 1 (((flR R g).drop k).map vC) := by
          have h9 : (flR R g).drop k = [] := List.drop_of_length_le (by rw [hn1]; omega)
          rw [h9]
          exact ⟨av, 0, rfl, fun i hi => absurd hi (Nat.not_lt_zero i)⟩
        obtain ⟨V3, w3, hrun3, hrow3, hg3⟩ := append_ard Wc.drew W2.heap.size _ us2 HSC'.out.row (.slice av 0 0) ((flR R g).drop k) (fun u hu => halC.one u (List.mem_of_mem_drop hu)) hsrc (by omega) HSC'.out.b.size
        obtain ⟨a3, c3, e3⟩ := own_form hrow3
        obtain ⟨p3, f3, HF3⟩ := HSC'.out.push hrow3 hg3
        obtain ⟨us3, hus3⟩ : ∃ us3, us2 ++ (flR R g).drop k = us3 := ⟨_, rfl⟩
        rw [hus3] at e3 HF3
        have HUS3 := Lib.hid hus3
        clear hrC halC hrow3 hg3 hus3 hsrc
        obtain ⟨n3, hn3⟩ : ∃ n3, us3.length = n3 := ⟨_, rfl⟩
        have HN3 := Lib.hid hn3
        rw [hn3] at e3
        subst e3
        clear hn3
        go_upto_region 15 with fail
        go_cut [] from 10 (fun wx => RowKit.Hid (SpX W2 X R.tracks (.slice a3 n3 c3) us3 wx))
        case first =>
          go_region_law_o (refine step_appendK rfl _ _ 34 34 rfl (.slice a2 n2 c2) (.slice av 0 0) (by simp [Act.eval, Act.put]) (by simp [Act.eval, Act.put]) hrun3 ?_)
          all_goals go_wp2
          all_goals go_meet
          all_goals exact HF3
        case rest =>
          rename World => Wd
          have HWD := Lib.hid (below_step HB2.out hcut.out.b)
          have HZd := Lib.hid (HZ2.out.below hcut.out.b)
          have HFIN := Lib.hid (spl_fin HZd.out hcut.out HWD.out (show w.heap.size ≤ w.heap.size + 1 + 1 by omega) HR.out HM.out (k := k) (by rw [← HUS3.out, ← HUS2.out, ← HUS1.out, List.nil_append, List.append_assoc]))
          have s0 := hcut.out.x.cell 0
          have s1 := hcut.out.x.cell 1
          have z0 := HZd.out.cell 0
          have z1 := HZd.out.cell 1
          have g0 := HZd.out.frozen 0
          have g1 := HZd.out.frozen 1
          have HZ8 := Lib.hid ((HZd.out.set 0 (.int .i64 R.tracks)).set 1 (.slice a3 n3 c3))
          clear hrun3 p3 f3 HF3 b1 x1
          go_wp2
          have c0 := HZ8.out.cell 0
          have c1 := HZ8.out.cell 1
          refine bodyPost_ret (v := .tuple #[.agg #[.int .i64 R.tracks, .slice a3 n3 c3], .int .i64 0]) (by simp [results, Tryz.results24, go_sem, c0, c1]) rfl ?_
          rw [HPG.out]
          exact ⟨_, _, rfl, HFIN.out.1, HFIN.out.2⟩
      · have hsrc := ard_drop hrC k (cv - k)
        rw [hn1] at hsrc
        obtain ⟨V3, w3, hrun3, hrow3, hg3⟩ := append_ard Wc.drew W2.heap.size _ us2 HSC'.out.row (.slice (av.map (·.add k)) (R.rows.length - k) (cv - k)) ((flR R g).drop k) (fun u hu => halC.one u (List.mem_of_mem_drop hu)) hsrc (by omega) HSC'.out.b.size
        obtain ⟨a3, c3, e3⟩ := own_form hrow3
        obtain ⟨p3, f3, HF3⟩ := HSC'.out.push hrow3 hg3
        obtain ⟨us3, hus3⟩ : ∃ us3, us2 ++ (flR R g).drop k = us3 := ⟨_, rfl⟩
        rw [hus3] at e3 HF3
        have HUS3 := Lib.hid hus3
        clear hrC halC hrow3 hg3 hus3 hsrc
        obtain ⟨n3, hn3⟩ : ∃ n3, us3.length = n3 := ⟨_, rfl⟩
        have HN3 := Lib.hid hn3
        rw [hn3] at e3
        subst e3
        clear hn3
        go_upto_region 15 with fail
        go_cut [] from 10 (fun wx => RowKit.Hid (SpX W2 X R.tracks (.slice a3 n3 c3) us3 wx))
        case first =>
          go_region_law_o (refine step_appendK rfl _ _ 34 34 rfl (.slice a2 n2 c2) (.slice (av.map (·.add k)) (R.rows.length - k) (cv - k)) (by simp [Act.eval, Act.put]) (by simp [Act.eval, Act.put]) hrun3 ?_)
          all_goals go_wp2
          all_goals go_meet
          all_goals exact HF3
        case rest =>
          rename World => Wd
          have HWD := Lib.hid (below_step HB2.out hcut.out.b)
          have HZd := Lib.hid (HZ2.out.below hcut.out.b)
          have HFIN := Lib.hid (spl_fin HZd.out hcut.out HWD.out (show w.heap.size ≤ w.heap.size + 1 + 1 by omega) HR.out HM.out (k := k) (by rw [← HUS3.out, ← HUS2.out, ← HUS1.out, List.nil_append, List.append_assoc]))
          have s0 := hcut.out.x.cell 0
          have s1 := hcut.out.x.cell 1
          have z0 := HZd.out.cell 0
          have z1 := HZd.out.cell 1
          have g0 := HZd.out.frozen 0
          have g1 := HZd.out.frozen 1
          have HZ8 := Lib.hid ((HZd.out.set 0 (.int .i64 R.tracks)).set 1 (.slice a3 n3 c3))
          clear hrun3 p3 f3 HF3 b1 x1
          go_wp2
          have c0 := HZ8.out.cell 0
          have c1 := HZ8.out.cell 1
          refine bodyPost_ret (v := .tuple #[.agg #[.int .i64 R.tracks, .slice a3 n3 c3], .int .i64 0]) (by simp [results, Tryz.results24, go_sem, c0, c1]) rfl ?_
          rw [HPG.out]
          exact ⟨_, _, rfl, HFIN.out.1, HFIN.out.2⟩
set_option maxRecDepth 100000 in
set_option maxHeartbeats 6400000 in
theorem rsplice_bad (R M : Ro) (rok : RoOk R) (mok : RoOk M) (rv mv : Value) (g f : Nat → Value) (k : Int) (w : World) (hr : RoRd w rv g R) (hm : RoRd w mv f M)
    (hbad : rollErr R true ≠ 0 ∨ rollErr M true ≠ 0 ∨ R.tracks ≠ M.tracks ∨ (k < 0 ∨ (R.rows.length : Int) < k) ∨ 20000 < R.rows.length + M.rows.length) :
    Calls Tryz.prog 24 #[.agg #[.int .i64 R.tracks, rv], .agg #[.int .i64 M.tracks, mv], .int .i64 k] w (RoEnds (spliceP R M k) w) := by
  obtain ⟨av, cv, rfl⟩ := hr.form
  obtain ⟨bv, dv, rfl⟩ := hm.form
  have hb0 : Below w.heap.size w (((w.alloc (.cells #[.int .i64 R.tracks, .slice av R.rows.length cv] 36)).alloc (.cells #[.int .i64 M.tracks, .slice bv M.rows.length dv] 36)).alloc (.cells #[.int .i64 0, .slice none 0 0] 36)) := ((((Below.refl w.heap.size w).alloc (Nat.le_refl _) _).alloc (by simp) _).alloc (by simp; omega) _)
  have k1 := ((Blk.new w 36 #[.int .i64 R.tracks, .slice av R.rows.length cv]).alloc (.cells #[.int .i64 M.tracks, .slice bv M.rows.length dv] 36)).alloc (.cells #[.int .i64 0, .slice none 0 0] 36)
  have k2 := (Blk.new (w.alloc (.cells #[.int .i64 R.tracks, .slice av R.rows.length cv] 36)) 36 #[.int .i64 M.tracks, .slice bv M.rows.length dv]).alloc (.cells #[.int .i64 0, .slice none 0 0] 36)
  have k3 := Blk.new ((w.alloc (.cells #[.int .i64 R.tracks, .slice av R.rows.length cv] 36)).alloc (.cells #[.int .i64 M.tracks, .slice bv M.rows.length dv] 36)) 36 #[.int .i64 0, .slice none 0 0]
  rw [World.size_alloc] at k2
  rw [World.size_alloc, World.size_alloc] at k3
  have HR := Lib.hid hr
  have HM := Lib.hid hm
  have HO := Lib.hid rok
  have HO2 := Lib.hid mok
  have HB0 := Lib.hid hb0
  have HX0 := Lib.hid k1
  have HY0 := Lib.hid k2
  have HZ0 := Lib.hid k3
  have HBAD := Lib.hid hbad
  clear hr hm rok mok hb0 k1 k2 k3 hbad
  go_enter Tryz.func24, Tryz.ntmps24
  go_wp2_with fail
  generalize (((w.alloc (.cells #[.int .i64 R.tracks, .slice av R.rows.length cv] 36)).alloc (.cells #[.int .i64 M.tracks, .slice bv M.rows.length dv] 36)).alloc (.cells #[.int .i64 0, .slice none 0 0] 36)) = W0 at *
  refine (rcheck_roll R HO.out _ g _ (HR.out.later HB0.out)).mono ?_
  rintro e W1 ⟨rfl, hb1⟩
  have HB1 := Lib.hid (below_step HB0.out hb1)
  have HX1 := Lib.hid (HX0.out.below hb1)
  have HY1 := Lib.hid (HY0.out.below hb1)
  have HZ1 := Lib.hid (HZ0.out.below hb1)
  clear hb1 HB0 HX0 HY0 HZ0
  by_cases he : rollErr R true = 0
  rotate_left
  · have hne := he
    have HQ := Lib.hid (spliceP_roll (M := M) (k := k) hne)
    obtain ⟨er, her⟩ : ∃ er, rollErr R true = er := ⟨_, rfl⟩
    rw [her] at hne HQ he ⊢
    have he2 : (er == 0) = false := by rw [beq_eq_false_iff_ne]; exact hne
    clear her he
    have z0 := HZ1.out.cell 0
    have z1 := HZ1.out.cell 1
    have g0 := HZ1.out.frozen 0
    have g1 := HZ1.out.frozen 1
    have HZ := Lib.hid ((HZ1.out.set 0 (.int .i64 0)).set 1 (.slice none 0 0))
    have HB5 := Lib.hid ((HB1.out.setCell (p := ⟨w.heap.size + 1 + 1, 0, none⟩) (by simp only; omega) (.int .i64 0)).setCell (p := ⟨w.heap.size + 1 + 1, 1, none⟩) (by simp only; omega) (.slice none 0 0))
    go_wp2
    (have c0 := HZ.out.cell 0; have c1 := HZ.out.cell 1; exact bodyPost_ret (v := .tuple #[.agg #[.int .i64 0, .slice none 0 0], .int .i64 er]) (by simp [results, Tryz.results24, go_sem, c0, c1]) rfl (roEnds_bad HQ.out HB5.out))
  · have HRE := Lib.hid he
    have HBAD2 := Lib.hid (HBAD.out.resolve_left (fun h => h he))
    have y0 := HY1.out.cell 0
    have y1 := HY1.out.cell 1
    rw [he]
    clear he HBAD
    go_wp2_with fail
    refine (rcheck_roll M HO2.out _ f _ (HM.out.later HB1.out)).mono ?_
    rintro e W2 ⟨rfl, hb2⟩
    have HB2 := Lib.hid (below_step HB1.out hb2)
    have HX2 := Lib.hid (HX1.out.below hb2)
    have HY2 := Lib.hid (HY1.out.below hb2)
    have HZ2 := Lib.hid (HZ1.out.below hb2)
    clear hb2 HB1 HX1 HY1 HZ1 y0 y1
    have z0 := HZ2.out.cell 0
    have z1 := HZ2.out.cell 1
    have g0 := HZ2.out.frozen 0
    have g1 := HZ2.out.frozen 1
    have HZ := Lib.hid ((HZ2.out.set 0 (.int .i64 0)).set 1 (.slice none 0 0))
    have HB5 := Lib.hid ((HB2.out.setCell (p := ⟨w.heap.size + 1 + 1, 0, none⟩) (by simp only; omega) (.int .i64 0)).setCell (p := ⟨w.heap.size + 1 + 1, 1, none⟩) (by simp only; omega) (.slice none 0 0))
    by_cases he2 : rollErr M true = 0
    rotate_left
    · have hne := he2
      have HQ := Lib.hid (spliceP_more (k := k) HRE.out hne)
      obtain ⟨er, her⟩ : ∃ er, rollErr M true = er := ⟨_, rfl⟩
      rw [her] at hne HQ he2 ⊢
      have he3 : (er == 0) = false := by rw [beq_eq_false_iff_ne]; exact hne
      clear her he2
      go_wp2
      (have c0 := HZ.out.cell 0; have c1 := HZ.out.cell 1; exact bodyPost_ret (v := .tuple #[.agg #[.int .i64 0, .slice none 0 0], .int .i64 er]) (by simp [results, Tryz.results24, go_sem, c0, c1]) rfl (roEnds_bad HQ.out HB5.out))
    · have HRE2 := Lib.hid he2
      have HBAD3 := Lib.hid (HBAD2.out.resolve_left (fun h => h he2))
      have x0 := HX2.out.cell 0
      have x1 := HX2.out.cell 1
      have y0 := HY2.out.cell 0
      have y1 := HY2.out.cell 1
      rw [he2]
      clear he2 HBAD2
      by_cases ht : R.tracks = M.tracks
      · have HT := Lib.hid ht
        have htb : (R.tracks == M.tracks) = true := by rw [beq_iff_eq]; exact ht
        have HBAD4 := Lib.hid (HBAD3.out.resolve_left (fun h => h ht))
        clear ht HBAD3
        by_cases hk : k < 0 ∨ (R.rows.length : Int) < k
        · have HQ := Lib.hid (spliceP_at HRE.out HRE2.out HT.out hk)
          have hk2 : 0 ≤ k → ¬ k ≤ (R.rows.length : Int) := by omega
          clear hk HBAD4
          go_wp2_with fail
          all_goals first
            | (exfalso; omega)
            | (have c0 := HZ.out.cell 0; have c1 := HZ.out.cell 1; exact bodyPost_ret (v := .tuple #[.agg #[.int .i64 0, .slice none 0 0], .int .i64 7]) (by simp [results, Tryz.results24, go_sem, c0, c1]) rfl (roEnds_bad HQ.out HB5.out))
        · have hlong := HBAD4.out.resolve_left hk
          have HQ := Lib.hid (spliceP_long HRE.out HRE2.out HT.out hk hlong)
          have hk0 : 0 ≤ k := by omega
          have hk1 : k ≤ (R.rows.length : Int) := by omega
          have hln : (20000 : Int) < (R.rows.length : Int) + (M.rows.length : Int) := by omega
          have hln2 : decide ((20000 : Int) < (R.rows.length : Int) + (M.rows.length : Int)) = true := decide_eq_true hln
          have hr1 := HO.out.len
          have hr2 := HO2.out.len
          clear hk hlong HBAD4
          go_wp2_with fail
          all_goals first
            | (exfalso; omega)
            | (have c0 := HZ.out.cell 0; have c1 := HZ.out.cell 1; exact bodyPost_ret (v := .tuple #[.agg #[.int .i64 0, .slice none 0 0], .int .i64 3]) (by simp [results, Tryz.results24, go_sem, c0, c1]) rfl (roEnds_bad HQ.out HB5.out))
      · have HQ := Lib.hid (spliceP_tracks (k := k) HRE.out HRE2.out ht)
        have htb : (R.tracks == M.tracks) = false := by rw [beq_eq_false_iff_ne]; exact ht
        have hr1 := HO.out.len
        clear ht HBAD3
        go_wp2_with fail
        all_goals first
          | (exfalso; omega)
          | (have c0 := HZ.out.cell 0; have c1 := HZ.out.cell 1; exact bodyPost_ret (v := .tuple #[.agg #[.int .i64 0, .slice none 0 0], .int .i64 2]) (by simp [results, Tryz.results24, go_sem, c0, c1]) rfl (roEnds_bad HQ.out HB5.out))
theorem rsplice_any (R M : Ro) (rok : RoOk R) (mok : RoOk M) (rv mv : Value) (g f : Nat → Value) (k : Int) (w : World) (hr : RoRd w rv g R) (hm : RoRd w mv f M) (hcap : ∀ a n c, rv = .slice a n c → n ≤ c) :
    Calls Tryz.prog 24 #[.agg #[.int .i64 R.tracks, rv], .agg #[.int .i64 M.tracks, mv], .int .i64 k] w (RoEnds (spliceP R M k) w) := by
  by_cases h : rollErr R true ≠ 0 ∨ rollErr M true ≠ 0 ∨ R.tracks ≠ M.tracks ∨ (k < 0 ∨ (R.rows.length : Int) < k) ∨ 20000 < R.rows.length + M.rows.length
  · exact rsplice_bad R M rok mok rv mv g f k w hr hm h
  · have h1 : rollErr R true = 0 := Decidable.byContradiction fun q => h (.inl q)
    have h2 : rollErr M true = 0 := Decidable.byContradiction fun q => h (.inr (.inl q))
    have h3 : R.tracks = M.tracks := Decidable.byContradiction fun q => h (.inr (.inr (.inl q)))
    have h4 : ¬ (k < 0 ∨ (R.rows.length : Int) < k) := fun q => h (.inr (.inr (.inr (.inl q))))
    have h5 : ¬ 20000 < R.rows.length + M.rows.length := fun q => h (.inr (.inr (.inr (.inr q))))
    obtain ⟨n, rfl⟩ := Int.eq_ofNat_of_zero_le (show 0 ≤ k by omega)
    exact rsplice_good R M rok mok rv mv g f n w hr hm hcap h1 h2 h3 (by omega) (by omega)
end Go.Proofs.YtppccacfdpkkgaaGreatDoor
