/-
  CONTRACTS: the reference's Read.
-/
import Derived.Test.YtppccacfdpkkgaaGreatDoorKR
import Derived.Deep.CutRange
import Derived.StillTailTactics
import Derived.Lib.AppendZeros
import Derived.Deep.QuietTactic
import Derived.BigQuiet
import Derived.BigRegion
import Derived.Deep.RegionWith
namespace Go.Proofs.YtppccacfdpkkgaaGreatDoor
open Go.RowKit
theorem evsT_lenB {rt least : Int} {sl : Nat → List (Nat × Nat)} {N : Nat} (h : ∀ t, (sl t).length ≤ N) : ∀ (k : Nat) (l : List Th), (evsT rt least sl k l).length ≤ 2 * N * l.length
  | _, [] => Nat.zero_le _
  | k, x :: l => by
    have h1 := evsL_len rt least x (sl k)
    have h2 := h k
    have h3 := evsT_lenB (rt := rt) (least := least) h (k + 1) l
    rw [evsT, List.length_append, List.length_cons, Nat.mul_add, Nat.mul_one]
    omega
theorem evsR_len {R : Ro} {rt least gap : Int} {l : List Th} (hq : R.rows.length ≤ 20000) (hl : l.length ≤ 127) : (evsR R rt least gap l).length ≤ 5080000 := by
  have h := evsT_lenB (rt := rt) (least := least) (sl := fun t => slotsR R t gap) (N := R.rows.length) (fun t => slotsP_len _) 1 l
  have h2 : 2 * R.rows.length * l.length ≤ 2 * 20000 * 127 := Nat.mul_le_mul (by omega) hl
  unfold evsR
  omega
theorem evsR_next {R : Ro} {rt least gap : Int} {th : List Th} {k : Nat} (h : k < th.length) : evsR R rt least gap (th.take (k + 1)) = evsR R rt least gap (th.take k) ++ evsL rt least th[k] (slotsR R (k + 1) gap) := evsT_take rt least _ h
/-- How the reference's Read ends on the road without errors. -/
def RvR (E : List Ev) (w : World) (e : Ending) (w' : World) : Prop := ∃ v m c, e = .returned (.tuple #[v, .int .i64 c]) ∧ RdP E m c ∧ ARd w' v 5 (m.map evC5) ∧ Below w.heap.size w w'
set_option maxRecDepth 100000 in
set_option maxHeartbeats 64000000 in
theorem rread_in (v1 v2 v3 v4 : Value) (S : Sp) (ok : SpOk S) (f : Nat → Value) (R : Ro) (rok : RoOk R) (rv : Value) (g : Nat → Value) (rt : Int) (th : List Th) (vt : Value) (least gap : Int) (w : World) (hsp : SpRd w v1 v2 v3 v4 f S) (hr : RoRd w rv g R) (hl : th.length ≤ 1000000) (hth : ARd w vt 3 (th.map thC))
    (hre : rollErr R true = 0) (hsc : scE S rt th = 0) (htr : R.tracks = th.length + 1) (hle : 1 ≤ least ∧ least ≤ 100) (hga : 0 ≤ gap ∧ gap ≤ 100) :
    Calls Tryz.prog 16 #[.agg #[v1, v2, v3, v4], .agg #[.int .i64 R.tracks, rv], .agg #[.int .i64 rt, vt], .agg #[.int .i64 least, .int .i64 gap]] w (RvR (evsR R rt least gap th) w) := by
  obtain ⟨at', ct, rfl⟩ := hth.thForm
  have HR := Lib.hid hr
  have HSP := Lib.hid hsp
  have HOK := Lib.hid ok
  have HRO := Lib.hid rok
  have HTH := Lib.hid hth
  have HRE := Lib.hid hre
  have HSC := Lib.hid hsc
  have htb : (R.tracks == (th.length : Int) + 1) = true := by rw [beq_iff_eq]; exact htr
  obtain ⟨hle1, hle2⟩ := hle
  obtain ⟨hga1, hga2⟩ := hga
  have hth127 := (scE_ok hsc).th2
  have hrl := (rollGood hre).len
  have hb0 : Below w.heap.size w ((((w.alloc (.cells #[v1, v2, v3, v4] 27)).alloc (.cells #[.int .i64 R.tracks, rv] 36)).alloc (.cells #[.int .i64 rt, .slice at' th.length ct] 31)).alloc (.cells #[.int .i64 least, .int .i64 gap] 43)) := (((((Below.refl w.heap.size w).alloc (Nat.le_refl _) _).alloc (by simp) _).alloc (by simp; omega) _).alloc (by simp; omega) _)
  have k1 := (((Blk.new w 27 #[v1, v2, v3, v4]).alloc (.cells #[.int .i64 R.tracks, rv] 36)).alloc (.cells #[.int .i64 rt, .slice at' th.length ct] 31)).alloc (.cells #[.int .i64 least, .int .i64 gap] 43)
  have k2 := ((Blk.new (w.alloc (.cells #[v1, v2, v3, v4] 27)) 36 #[.int .i64 R.tracks, rv]).alloc (.cells #[.int .i64 rt, .slice at' th.length ct] 31)).alloc (.cells #[.int .i64 least, .int .i64 gap] 43)
  have k3 := (Blk.new ((w.alloc (.cells #[v1, v2, v3, v4] 27)).alloc (.cells #[.int .i64 R.tracks, rv] 36)) 31 #[.int .i64 rt, .slice at' th.length ct]).alloc (.cells #[.int .i64 least, .int .i64 gap] 43)
  have k4 := Blk.new (((w.alloc (.cells #[v1, v2, v3, v4] 27)).alloc (.cells #[.int .i64 R.tracks, rv] 36)).alloc (.cells #[.int .i64 rt, .slice at' th.length ct] 31)) 43 #[.int .i64 least, .int .i64 gap]
  rw [World.size_alloc] at k2
  rw [World.size_alloc, World.size_alloc] at k3
  rw [World.size_alloc, World.size_alloc, World.size_alloc] at k4
  have HB0 := Lib.hid hb0
  have K1 := Lib.hid k1
  have K2 := Lib.hid k2
  have K3 := Lib.hid k3
  have K4 := Lib.hid k4
  clear hb0 k1 k2 k3 k4 hr hsp ok rok hth hre hsc htr
  go_enter Tryz.func16, Tryz.ntmps16
  go_wp2_with fail
  generalize (((w.alloc (.cells #[v1, v2, v3, v4] 27)).alloc (.cells #[.int .i64 R.tracks, rv] 36)).alloc (.cells #[.int .i64 rt, .slice at' th.length ct] 31)).alloc (.cells #[.int .i64 least, .int .i64 gap] 43) = W0 at *
  refine (rcheck_roll R HRO.out rv g _ (HR.out.later HB0.out)).mono ?_
  rintro e W1 ⟨rfl, hb1⟩
  rw [HRE.out]
  have HB1 := Lib.hid (below_step HB0.out hb1)
  have L1 := Lib.hid (K1.out.below hb1)
  have L2 := Lib.hid (K2.out.below hb1)
  have L3 := Lib.hid (K3.out.below hb1)
  have L4 := Lib.hid (K4.out.below hb1)
  have x0 : W1.cell? ⟨w.heap.size, 0, none⟩ = some v1 := L1.out.cell 0
  have x1 : W1.cell? ⟨w.heap.size, 1, none⟩ = some v2 := L1.out.cell 1
  have x2 : W1.cell? ⟨w.heap.size, 2, none⟩ = some v3 := L1.out.cell 2
  have x3 : W1.cell? ⟨w.heap.size, 3, none⟩ = some v4 := L1.out.cell 3
  have y0 : W1.cell? ⟨w.heap.size + 1 + 1, 0, none⟩ = some (.int .i64 rt) := L3.out.cell 0
  have y1 : W1.cell? ⟨w.heap.size + 1 + 1, 1, none⟩ = some (.slice at' th.length ct) := L3.out.cell 1
  clear hb1
  go_wp2_with fail
  refine (rscale_any v1 v2 v3 v4 S HOK.out f rt th _ _ (HSP.out.later HB1.out) hl (HTH.out.later HB1.out)).mono ?_
  rintro e W2 ⟨rfl, hb2⟩
  rw [HSC.out]
  have HB2 := Lib.hid (below_step HB1.out hb2)
  have M2 := Lib.hid (L2.out.below hb2)
  have M3 := Lib.hid (L3.out.below hb2)
  have M4 := Lib.hid (L4.out.below hb2)
  clear hb2 x0 x1 x2 x3 y0 y1
  have z0 : W2.cell? ⟨w.heap.size + 1, 0, none⟩ = some (.int .i64 R.tracks) := M2.out.cell 0
  have y1 : W2.cell? ⟨w.heap.size + 1 + 1, 1, none⟩ = some (.slice at' th.length ct) := M3.out.cell 1
  have t0 : W2.cell? ⟨w.heap.size + 1 + 1 + 1, 0, none⟩ = some (.int .i64 least) := M4.out.cell 0
  have t1 : W2.cell? ⟨w.heap.size + 1 + 1 + 1, 1, none⟩ = some (.int .i64 gap) := M4.out.cell 1
  go_wp2
  clear y1 t0 t1 z0
  go_loopw [11, 12] (fun u x wr => ∃ k : Nat, k ≤ th.length ∧ x = .int .i64 k ∧ RowKit.Hid (EvRow wr W2.heap.size u (evsR R rt least gap (th.take k))) ∧ RowKit.Hid (Below W2.heap.size W2 wr)) (fun _ x _ => th.length - (intOf x).toNat)
  case atStart => exact ⟨0, Nat.zero_le _, rfl, Lib.hid (World.ownsRow_nil _ _ _ _), Lib.hid (Below.refl _ _)⟩
  obtain ⟨k, hk, rfl, hrow, hW⟩ := hrel
  have y1 : wr.cell? ⟨w.heap.size + 1 + 1, 1, none⟩ = some (.slice at' th.length ct) := (M3.out.below hW.out).cell 1
  have HBW := Lib.hid (below_step HB2.out hW.out)
  by_cases hlt : k < th.length
  · have hlt2 : (k : Int) < (th.length : Int) := by omega
    have z0 : wr.cell? ⟨w.heap.size + 1, 0, none⟩ = some (.int .i64 R.tracks) := (M2.out.below hW.out).cell 0
    have z1 : wr.cell? ⟨w.heap.size + 1, 1, none⟩ = some rv := (M2.out.below hW.out).cell 1
    have t1 : wr.cell? ⟨w.heap.size + 1 + 1 + 1, 1, none⟩ = some (.int .i64 gap) := (M4.out.below hW.out).cell 1
    go_wp2_with fail
    refine (rslots_any R HRO.out hrl rv g ((k : Int) + 1) gap wr (HR.out.later HBW.out)).mono ?_
    rintro e W4 ⟨lv, rfl, hsl, hb4⟩
    have hnx := evsR_next (R := R) (rt := rt) (least := least) (gap := gap) hlt
    obtain ⟨x, hx⟩ : ∃ x : Th, th[k] = x := ⟨_, rfl⟩
    rw [hx] at hnx
    have HNX := Lib.hid hnx
    clear hnx
    obtain ⟨sl, hsl0⟩ : ∃ sl, slotsR R (k + 1) gap = sl := ⟨_, rfl⟩
    have HSI := Lib.hid (show ∀ s ∈ sl, s.1 ≤ s.2 ∧ s.2 < R.rows.length from fun s hs => by rw [← hsl0] at hs; exact slotsP_in s hs)
    have hsln : sl.length ≤ R.rows.length := by rw [← hsl0]; exact slotsP_len _
    rw [show slotsP (rowB R ((k : Int) + 1)) gap R.rows.length = sl from hsl0] at hsl
    rw [hsl0] at HNX
    obtain ⟨E, hE⟩ : ∃ E, evsR R rt least gap (th.take k) = E := ⟨_, rfl⟩
    have hEl : E.length ≤ 5080000 := by rw [← hE]; exact evsR_len hrl (by rw [List.length_take]; omega)
    rw [hE] at hrow HNX
    have h0 := RvInv.start hrow.out hW.out hb4 hsl
    obtain ⟨bl, hbl⟩ : ∃ bl, wr.heap.size = bl := ⟨_, rfl⟩
    rw [hbl] at h0
    obtain ⟨la, lc, elv⟩ := own_form hsl
    subst elv
    have H0 := Lib.hid h0
    clear h0 hsl hb4 hsl0 hE hbl z0 z1 t1 y1 hrow
    go_wp2
    go_loopw [11, 14] (fun u y wr => ∃ i : Nat, i ≤ sl.length ∧ y = .int .i64 i ∧ RowKit.Hid (RvInv W2 bl u (.slice la sl.length lc) (E ++ evsL rt least x (sl.take i)) sl wr)) (fun _ y _ => sl.length - (intOf y).toNat)
    case atStart => exact ⟨0, Nat.zero_le _, rfl, by rw [List.take_zero, evsL, List.append_nil]; exact H0⟩
    obtain ⟨i, hi, rfl, hI⟩ := hrel
    have HBI := Lib.hid (below_step HB2.out hI.out.b)
    by_cases hil : i < sl.length
    · have hil2 : (i : Int) < (sl.length : Int) := by omega
      obtain ⟨gs, cap, ev, hgb, hglt⟩ := hI.out.sl.form (by omega)
      simp only [Value.slice.injEq] at ev
      obtain ⟨rfl, -, rfl⟩ := ev
      have hEn := (EnB.of_row (enc := slC) (m := sl) hI.out.sl).1
      have q0 := (hEn.cell slC_len hil (j := 0) (u := .int .i64 sl[i].1) rfl).1
      have q1 := (hEn.cell slC_len hil (j := 1) (u := .int .i64 sl[i].2) rfl).1
      rw [Nat.add_zero] at q0
      have HTK := Lib.hid (show sl.take (i + 1) = sl.take i ++ [sl[i]] from List.take_succ_eq_append_getElem hil)
      obtain ⟨a, ha⟩ : ∃ a, sl[i].1 = a := ⟨_, rfl⟩
      obtain ⟨d, hd⟩ : ∃ d, sl[i].2 = d := ⟨_, rfl⟩
      have had : sl[i] = (a, d) := by rw [← ha, ← hd]
      have hs2 := HSI.out sl[i] (List.getElem_mem hil)
      rw [ha] at q0 hs2
      rw [hd] at q1 hs2
      rw [had] at HTK
      have t0 : wr.cell? ⟨w.heap.size + 1 + 1 + 1, 0, none⟩ = some (.int .i64 least) := (M4.out.below hI.out.b).cell 0
      have had1 : a ≤ d := hs2.1
      have had2 : d < 20000 := by omega
      have ha2 := ha
      have hd2 := hd
      obtain ⟨L, hL⟩ : ∃ L, (E ++ evsL rt least x (sl.take i)).length = L := ⟨_, rfl⟩
      have hLb : L ≤ 5120000 := by
        have h2 := evsL_len rt least x (sl.take i)
        rw [List.length_take] at h2
        rw [← hL, List.length_append]
        omega
      have HL := Lib.hid hL
      clear hEn hs2 had ha hd hL
      by_cases hs : (d : Int) - (a : Int) + 1 < least
      · go_wp2_with fail
        go_quiet (fail)
        go_wp2
        go_roundw
        case rel =>
          refine ⟨i + 1, by omega, by go_num, ?_⟩
          rw [HTK.out, evsL_snoc, if_pos hs, List.append_nil]
          exact Lib.hid (hI.out.low (below_drewN (Below.refl _ _) nq))
        case measure => simp [intOf]; omega
      · have HSL := Lib.hid hs
        go_wp2_with fail
        go_quiet (fail)
        have HIq := Lib.hid (hI.out.low (below_drewN (Below.refl wr.heap.size wr) nq))
        obtain ⟨Wq, hWq⟩ : ∃ Wq, wr.drewN nq = Wq := ⟨_, rfl⟩
        rw [hWq] at HIq ⊢
        clear hWq q0 q1 t0 hI HBI
        have HBI := Lib.hid (below_step HB2.out HIq.out.b)
        have y1 : Wq.cell? ⟨w.heap.size + 1 + 1, 1, none⟩ = some (.slice at' th.length ct) := (M3.out.below HIq.out.b).cell 1
        obtain ⟨b, o, c', ev', hbl', k0, k1, k2⟩ := (HTH.out.later HBI.out).thAt k hlt
        cases ev'
        rw [hx] at k0 k1 k2
        have y1' := cell_alloc y1
        have k0' := cell_alloc k0
        have k1' := cell_alloc k1
        have k2' := cell_alloc k2
        obtain ⟨i0, hi0, hz0, hz1, hz2⟩ := info_parts ev_info
        obtain ⟨hm1, hm2⟩ := mul_small (a := (a : Int)) (rt := rt) (by omega) (by omega) (scE_ok HSC.out).rt1 (scE_ok HSC.out).rt2
        obtain ⟨hm3, hm4⟩ := mul_small (a := (d : Int) + 1) (rt := rt) (by omega) (by omega) (scE_ok HSC.out).rt1 (scE_ok HSC.out).rt2
        go_wp2_with fail
        clear hs
        go_cut [15] from 67 to 135 (fun x15 wx => ∃ X : Nat, x15 = .pointer (some ⟨X, 0, none⟩) ∧ RowKit.Hid (RvX W2 bl u11 (.slice (some ⟨gs, 0, none⟩) sl.length lc) (E ++ evsL rt least x (sl.take i)) sl X (0, x.1, x.2.1, x.2.2, 0) wx))
        case first =>
          as_aux_lemma =>
          go_region
          all_goals go_wp2_with fail
          go_meet
          exact ⟨_, rfl, Lib.hid (RvX.new HIq.out (0, x.1, x.2.1, x.2.2, 0))⟩
        case rest =>
          obtain ⟨X, rfl, HX⟩ := hcut
          clear y1 y1' k0 k1 k2 k0' k1' k2' HIq HBI
          rename World => W3
          obtain ⟨hq0, hq1⟩ := HX.out.slot hil
          rw [ha2] at hq0
          rw [hd2] at hq1
          have y0 : W3.cell? ⟨w.heap.size + 1 + 1, 0, none⟩ = some (.int .i64 rt) := (M3.out.below HX.out.inv.b).cell 0
          have x0 : W3.cell? ⟨X, 0, none⟩ = some (.int .i64 0) := HX.out.x.cell 0
          have x4 : W3.cell? ⟨X, 4, none⟩ = some (.int .i64 0) := HX.out.x.cell 4
          have f0 := HX.out.x.frozen 0
          have f4 := HX.out.x.frozen 4
          go_wp2_with fail
          go_cut [] from 67 to 135 (fun wx => RowKit.Hid (RvX W2 bl u11 (.slice (some ⟨gs, 0, none⟩) sl.length lc) (E ++ evsL rt least x (sl.take i)) sl X ((a : Int) * rt, x.1, x.2.1, x.2.2, 1) wx))
          case first =>
            as_aux_lemma =>
            go_region
            all_goals go_wp2_with fail
            go_meet
            exact Lib.hid (HX.out.set ((a : Int) * rt) 1)
          case rest =>
            clear hq0 hq1 y0 x0 x4 f0 f4 HX
            rename World => W5
            have c0 : W5.cell? ⟨X, 0, none⟩ = some (.int .i64 ((a : Int) * rt)) := hcut.out.x.cell 0
            have c1 : W5.cell? ⟨X, 1, none⟩ = some (.int .i64 x.1) := hcut.out.x.cell 1
            have c2 : W5.cell? ⟨X, 2, none⟩ = some (.int .i64 x.2.1) := hcut.out.x.cell 2
            have c3 : W5.cell? ⟨X, 3, none⟩ = some (.int .i64 x.2.2) := hcut.out.x.cell 3
            have c4 : W5.cell? ⟨X, 4, none⟩ = some (.int .i64 1) := hcut.out.x.cell 4
            have HROW := Lib.hid (hcut.out.len HL.out)
            have hW25 := hcut.out.inv.b.size
            obtain ⟨gg, cap3, w3, hrun, hown3, hgrow, hat3, _⟩ := run_append_lies (P := Tryz.prog) (W5.alloc (.cells #[.int .i64 ((a : Int) * rt), .int .i64 x.1, .int .i64 x.2.1, .int .i64 x.2.2, .int .i64 1] 68)) 28 28 W2.heap.size 68 i0 _ 5 40 Tryz.underlying28 hi0 hz0 hz1 hz2 rfl (by omega) u11 (L) _ (HROW.out.alloc _) ⟨W5.heap.size, 0, none⟩ 1 1 [.int .i64 ((a : Int) * rt), .int .i64 x.1, .int .i64 x.2.1, .int .i64 x.2.2, .int .i64 1] rfl (World.news_of_block (cs := #[.int .i64 ((a : Int) * rt), .int .i64 x.1, .int .i64 x.2.1, .int .i64 x.2.2, .int .i64 1]) (t := 68) (fr := (0, 0)) (heap_alloc_new W5 _)) (by simp [Value.oneCell']) (by omega) (by unfold maxLen; omega) (by omega) (by simp; omega) (W5.heap.size + 1) (by simp)
            have HX1 := Lib.hid (hcut.out.push (by rw [HL.out]) hown3 hgrow hat3)
            go_upto_region 21 with fail
            go_cut [11] from 67 to 135 (fun x11 wx => RowKit.Hid (RvX W2 bl x11 (.slice (some ⟨gs, 0, none⟩) sl.length lc) ((E ++ evsL rt least x (sl.take i)) ++ [((a : Int) * rt, x.1, x.2.1, x.2.2, 1)]) sl X ((a : Int) * rt, x.1, x.2.1, x.2.2, 1) wx))
            case first =>
              clear hown3 hgrow hat3
              go_wp2_with (at_builtin; refine Lib.wpList_append_run _ rfl _ _ _ _ rfl _ _ rfl rfl _ _ hrun ?_)
              go_meet
              exact HX1
            case rest =>
              clear hrun hown3 hgrow hat3 HX1 c0 c1 c2 c3 c4 HROW hW25
              have HX := hcut
              clear hcut
              rename World => W6
              obtain ⟨hq0, hq1⟩ := HX.out.slot hil
              rw [hd2] at hq1
              have y0 : W6.cell? ⟨w.heap.size + 1 + 1, 0, none⟩ = some (.int .i64 rt) := (M3.out.below HX.out.inv.b).cell 0
              have x0 : W6.cell? ⟨X, 0, none⟩ = some (.int .i64 ((a : Int) * rt)) := HX.out.x.cell 0
              have x4 : W6.cell? ⟨X, 4, none⟩ = some (.int .i64 1) := HX.out.x.cell 4
              have f0 := HX.out.x.frozen 0
              have f4 := HX.out.x.frozen 4
              clear hq0
              go_wp2_with fail
              go_cut [] from 67 to 135 (fun wx => RowKit.Hid (RvX W2 bl u11 (.slice (some ⟨gs, 0, none⟩) sl.length lc) ((E ++ evsL rt least x (sl.take i)) ++ [((a : Int) * rt, x.1, x.2.1, x.2.2, 1)]) sl X (((d : Int) + 1) * rt, x.1, x.2.1, x.2.2, 0) wx))
              case first =>
                as_aux_lemma =>
                go_region
                all_goals go_wp2_with fail
                go_meet
                exact Lib.hid (HX.out.set (((d : Int) + 1) * rt) 0)
              case rest =>
                clear hq1 y0 x0 x4 f0 f4 HX
                rename World => W7
                have c0 : W7.cell? ⟨X, 0, none⟩ = some (.int .i64 (((d : Int) + 1) * rt)) := hcut.out.x.cell 0
                have c1 : W7.cell? ⟨X, 1, none⟩ = some (.int .i64 x.1) := hcut.out.x.cell 1
                have c2 : W7.cell? ⟨X, 2, none⟩ = some (.int .i64 x.2.1) := hcut.out.x.cell 2
                have c3 : W7.cell? ⟨X, 3, none⟩ = some (.int .i64 x.2.2) := hcut.out.x.cell 3
                have c4 : W7.cell? ⟨X, 4, none⟩ = some (.int .i64 0) := hcut.out.x.cell 4
                have HL1 := Lib.hid (show ((E ++ evsL rt least x (sl.take i)) ++ [((a : Int) * rt, x.1, x.2.1, x.2.2, 1)]).length = L + 1 by rw [List.length_append, HL.out, List.length_singleton])
                have HROW := Lib.hid (hcut.out.len HL1.out)
                have hW25 := hcut.out.inv.b.size
                obtain ⟨gg, cap3, w3, hrun, hown3, hgrow, hat3, _⟩ := run_append_lies (P := Tryz.prog) (W7.alloc (.cells #[.int .i64 (((d : Int) + 1) * rt), .int .i64 x.1, .int .i64 x.2.1, .int .i64 x.2.2, .int .i64 0] 68)) 28 28 W2.heap.size 68 i0 _ 5 40 Tryz.underlying28 hi0 hz0 hz1 hz2 rfl (by omega) u11 (L + 1) _ (HROW.out.alloc _) ⟨W7.heap.size, 0, none⟩ 1 1 [.int .i64 (((d : Int) + 1) * rt), .int .i64 x.1, .int .i64 x.2.1, .int .i64 x.2.2, .int .i64 0] rfl (World.news_of_block (cs := #[.int .i64 (((d : Int) + 1) * rt), .int .i64 x.1, .int .i64 x.2.1, .int .i64 x.2.2, .int .i64 0]) (t := 68) (fr := (0, 0)) (heap_alloc_new W7 _)) (by simp [Value.oneCell']) (by omega) (by unfold maxLen; omega) (by omega) (by simp; omega) (W7.heap.size + 1) (by simp)
                have HX1 := hcut.out.push (by rw [HL1.out]) hown3 hgrow hat3
                have HI9 : RowKit.Hid (RvInv W2 bl (.slice (some ⟨gg, 0, none⟩) (L + 1 + 1) cap3) (.slice (some ⟨gs, 0, none⟩) sl.length lc) (E ++ evsL rt least x (sl.take (i + 1))) sl w3) := by
                  have h9 := HX1.inv
                  rw [List.append_assoc, List.append_assoc] at h9
                  rw [HTK.out, evsL_snoc, if_neg (by have := HSL.out; omega)]
                  exact Lib.hid h9
                clear hown3 hgrow hat3 HX1 hcut
                go_wp2_with (at_builtin; refine Lib.wpList_append_run _ rfl _ _ _ _ rfl _ _ rfl rfl _ _ hrun ?_)
                go_roundw
                case rel => exact ⟨i + 1, by omega, by go_num, HI9⟩
                case measure => simp [intOf]; omega
    · have hil2 : ¬ (i : Int) < (sl.length : Int) := by omega
      have HE9 : RowKit.Hid (EvRow wr W2.heap.size u11 (evsR R rt least gap (th.take (k + 1)))) := by
        have h9 := hI.out.out
        rw [List.take_of_length_le (show sl.length ≤ i by omega)] at h9
        rw [HNX.out]
        exact Lib.hid h9
      have HW9 := Lib.hid hI.out.b
      go_wp2
      go_roundw
      case rel => exact ⟨k + 1, by omega, by go_num, HE9, HW9⟩
      case measure => simp [intOf]; omega
  · have hlt2 : ¬ (k : Int) < (th.length : Int) := by omega
    have HE1 : RowKit.Hid (EvRow wr W2.heap.size u11 (evsR R rt least gap th)) := by
      have h9 := hrow.out
      rw [List.take_of_length_le (show th.length ≤ k by omega)] at h9
      exact Lib.hid h9
    obtain ⟨E, hE⟩ : ∃ E, evsR R rt least gap th = E := ⟨_, rfl⟩
    rw [hE] at HE1
    obtain ⟨ua, uc, eu⟩ := own_form HE1.out
    subst eu
    obtain ⟨n, hn⟩ : ∃ n, E.length = n := ⟨_, rfl⟩
    have HN := Lib.hid hn
    rw [hn]
    have he1 := HE1.out
    unfold EvRow at he1
    rw [hn] at he1
    clear HE1
    have HE1 := Lib.hid he1
    clear he1
    have HW9 := Lib.hid (below_step HB2.out hW.out)
    have HE0 := Lib.hid hE
    clear hE hrow HRE HSC hlt hk htb hn
    by_cases hlong : (20000 : Int) < (n : Int)
    · go_wp2
      go_ret2
      exact ⟨_, [], 3, rfl, .inl ⟨by rw [HE0.out, HN.out]; omega, rfl, rfl⟩, ARd.empty _ _, HW9.out⟩
    · have hn2 : n ≤ 20000 := by omega
      go_wp2
      clear y1
      go_loopw [16] (fun y wr => ∃ (i : Nat) (m : List Ev), 1 ≤ i ∧ i ≤ n + 1 ∧ y = .int .i64 i ∧ RowKit.Hid (wr.ownsRow W2.heap.size 68 5 (.slice ua n uc) n (m.map evC5).flatten) ∧ RowKit.Hid (m.Perm E) ∧ RowKit.Hid (UpTo i m) ∧ RowKit.Hid (Below W2.heap.size W2 wr)) (fun y _ => n + 1 - (intOf y).toNat)
      case atStart => exact ⟨1, E, by omega, by omega, rfl, HE1, Lib.hid (List.Perm.refl _), Lib.hid (upTo_one _), hW⟩
      obtain ⟨i, m, hi1, hi2, rfl, hR, hP, hU, hB⟩ := hrel
      have hml : m.length = n := by rw [hP.out.length_eq]; exact HN.out
      have HML := Lib.hid hml
      by_cases hin : i < n
      · have hin2 : (i : Int) < (n : Int) := by omega
        obtain ⟨gs, cap, ev, hgb, hglt⟩ := hR.out.form (by omega)
        simp only [Value.slice.injEq] at ev
        obtain ⟨rfl, -, rfl⟩ := ev
        obtain ⟨hen, hge, hcm, -⟩ := EnB.of_row (enc := evC5) (m := m) (n := n) (by rw [hml]; exact hR.out)
        have HS := Lib.hid (show SoB W2 gs uc m wr from ⟨hen, hge, hB.out⟩)
        have HCM := Lib.hid hcm
        have HSW := Lib.hid (swInv_start hU.out (by rw [hml]; exact hin))
        clear hen hge hcm hml hR hU hB hgb hglt
        go_wp2
        go_loopw [17] (fun y wr => ∃ (k : Nat) (m : List Ev), k ≤ i ∧ y = .int .i64 k ∧ RowKit.Hid (SoB W2 gs uc m wr) ∧ RowKit.Hid (m.Perm E) ∧ RowKit.Hid (SwInv i k m)) (fun y _ => (intOf y).toNat)
        case atStart => exact ⟨i, m, Nat.le_refl _, rfl, HS, hP, HSW⟩
        obtain ⟨k, m, hki, rfl, hS, hP, hSW⟩ := hrel
        have hml : m.length = n := by rw [hP.out.length_eq]; exact HN.out
        rcases Nat.eq_zero_or_pos k with hk0 | hk0
        · subst hk0
          have HU2 := Lib.hid (swInv_end hSW.out (.inl rfl))
          go_wp2_with fail
          go_quiet (fail)
          have HS4 := Lib.hid (hS.out.low (below_drewN (Below.refl wr.heap.size wr) nq))
          have HR4 : RowKit.Hid ((wr.drewN nq).ownsRow W2.heap.size 68 5 (.slice (some ⟨gs, 0, none⟩) n uc) n (m.map evC5).flatten) := by
            have h9 := HS4.out.ev hml HCM.out
            unfold EvRow at h9
            rw [hml] at h9
            exact Lib.hid h9
          have HB4 := Lib.hid HS4.out.b
          go_wp2
          go_roundw
          case rel => exact ⟨i + 1, m, by omega, by omega, by go_num, HR4, hP, HU2, HB4⟩
          case measure => simp [intOf]; omega
        · obtain ⟨q, rfl⟩ : ∃ q, k = q + 1 := ⟨k - 1, by omega⟩
          have hkm : q + 1 < m.length := by omega
          have hqm : q < m.length := by omega
          have hkn : ((q : Int) + 1) < (n : Int) := by omega
          have hqn : (q : Int) < (n : Int) := by omega
          have hk1 : (0 : Int) ≤ (q : Int) + 1 := by omega
          have hk2 : ¬ ((q : Int) + 1 < 0) := by omega
          have hk3 : ((q : Int) + 1).toNat = q + 1 := by omega
          have hk5 : (q : Int) + 1 - 1 = (q : Int) := by omega
          have hk6 : IntKind.i64.wrap (q : Int) = (q : Int) := by rw [IntKind.wrap_i64]; omega
          obtain ⟨⟨a0, a1, a2, a3, a4⟩, -⟩ := hS.out.at hkm
          obtain ⟨⟨b0, b1, b2, b3, b4⟩, -⟩ := hS.out.at hqm
          obtain ⟨x, hx⟩ : ∃ x, m[q + 1] = x := ⟨_, rfl⟩
          obtain ⟨y, hy⟩ : ∃ y, m[q] = y := ⟨_, rfl⟩
          rw [hx] at a0 a1 a2 a3 a4
          rw [hy] at b0 b1 b2 b3 b4
          obtain ⟨r, hr⟩ : ∃ r, decide (evLt x y) = r := ⟨_, rfl⟩
          have HX := Lib.hid hx
          have HY := Lib.hid hy
          have HR := Lib.hid hr
          have HML2 := Lib.hid hml
          clear hx hy hr hml
          go_wp2_with fail
          go_cut [159] from 146 to 178 (fun x159 wx => x159 = .bool r ∧ RowKit.Hid (Below wr.heap.size wr wx))
          case first =>
            go_still_tail 12, (by kernel_rfl)
            change wpList _ _ _ _ _ wr.drew
            obtain ⟨W3, hW3⟩ : ∃ W3, wr.drew = W3 := ⟨_, rfl⟩
            have hb3 : Below wr.heap.size wr W3 := by rw [← hW3]; exact below_drew (Below.refl _ _)
            rw [hW3]
            clear hW3 a0 a1 a2 a3 a4 b0 b1 b2 b3 b4
            go_wp2_with fail
            refine (rbefore_any x.1 x.2.1 x.2.2.1 x.2.2.2.1 x.2.2.2.2 y.1 y.2.1 y.2.2.1 y.2.2.2.1 y.2.2.2.2 W3 r HR.out).mono ?_
            rintro e w' ⟨rfl, hb4⟩
            have HB4 := Lib.hid (below_step hb3 hb4)
            clear hb4 hb3
            go_wp2
            go_meet
            exact ⟨rfl, HB4⟩
          case rest =>
            obtain ⟨rfl, hB4⟩ := hcut
            rename World => W4
            have HS4 := Lib.hid (hS.out.low hB4.out)
            clear a0 a1 a2 a3 a4 b0 b1 b2 b3 b4 hS hB4
            cases r with
            | false =>
              have HU2 : RowKit.Hid (UpTo (i + 1) m) := Lib.hid (swInv_end hSW.out (.inr ⟨hkm, hqm, by rw [HX.out]; show ¬ evLt x m[q]; rw [HY.out]; exact of_decide_eq_false HR.out⟩))
              have HR4 : RowKit.Hid (W4.ownsRow W2.heap.size 68 5 (.slice (some ⟨gs, 0, none⟩) n uc) n (m.map evC5).flatten) := by
                have h9 := HS4.out.ev HML2.out HCM.out
                unfold EvRow at h9
                rw [HML2.out] at h9
                exact Lib.hid h9
              have HB4 := Lib.hid HS4.out.b
              go_wp2
              go_roundw
              case rel => exact ⟨i + 1, m, by omega, by omega, by go_num, HR4, hP, HU2, HB4⟩
              case measure => simp [intOf]; omega
            | true =>
              have HLT := Lib.hid (of_decide_eq_true HR.out)
              obtain ⟨⟨a0, a1, a2, a3, a4⟩, -⟩ := HS4.out.at hkm
              rw [HX.out] at a0 a1 a2 a3 a4
              go_upto_region 32 with fail
              go_cut [18] from 146 to 178 (fun x18 wx => ∃ X : Nat, x18 = .pointer (some ⟨X, 0, none⟩) ∧ RowKit.Hid (SoX W2 gs uc m X x wx))
              case first =>
                go_wp2
                go_meet
                exact ⟨_, rfl, Lib.hid (SoX.new HS4.out x)⟩
              case rest =>
                obtain ⟨X, rfl, HSX⟩ := hcut
                rename World => W5
                clear a0 a1 a2 a3 a4 HS4
                obtain ⟨⟨a0, a1, a2, a3, a4⟩, ⟨f0, f1, f2, f3, f4⟩⟩ := HSX.out.s.at hkm
                obtain ⟨⟨b0, b1, b2, b3, b4⟩, -⟩ := HSX.out.s.at hqm
                rw [HY.out] at b0 b1 b2 b3 b4
                go_upto_region 33 with fail
                go_cut [] from 146 to 178 (fun wx => RowKit.Hid (SoX W2 gs uc (m.set (q + 1) y) X x wx))
                case first =>
                  go_wp2
                  go_meet
                  exact Lib.hid (HSX.out.put hkm y)
                case rest =>
                  clear a0 a1 a2 a3 a4 b0 b1 b2 b3 b4 f0 f1 f2 f3 f4 HSX
                  rename World => W6
                  have hqs : q < (m.set (q + 1) y).length := by rw [List.length_set]; exact hqm
                  obtain ⟨⟨a0, a1, a2, a3, a4⟩, ⟨f0, f1, f2, f3, f4⟩⟩ := hcut.out.s.at hqs
                  have x0 : W6.cell? ⟨X, 0, none⟩ = some (.int .i64 x.1) := hcut.out.x.cell 0
                  have x1 : W6.cell? ⟨X, 1, none⟩ = some (.int .i64 x.2.1) := hcut.out.x.cell 1
                  have x2 : W6.cell? ⟨X, 2, none⟩ = some (.int .i64 x.2.2.1) := hcut.out.x.cell 2
                  have x3 : W6.cell? ⟨X, 3, none⟩ = some (.int .i64 x.2.2.2.1) := hcut.out.x.cell 3
                  have x4 : W6.cell? ⟨X, 4, none⟩ = some (.int .i64 x.2.2.2.2) := hcut.out.x.cell 4
                  have hswp : (m.set (q + 1) y).set q x = swap m (q + 1) := by
                    have h9 := swap_is hkm (show q + 1 - 1 < m.length from hqm)
                    rw [HX.out] at h9
                    rw [← HY.out]
                    exact h9
                  have HS7 : RowKit.Hid (SoB W2 gs uc (swap m (q + 1)) (put5 W6 gs q x)) := by
                    rw [← hswp]
                    exact Lib.hid (hcut.out.s.put hqs x)
                  have HP7 := Lib.hid ((swap_perm (Nat.succ_pos q) hkm).trans hP.out)
                  have HSW7 : RowKit.Hid (SwInv i q (swap m (q + 1))) := Lib.hid (swInv_step hSW.out (Nat.succ_pos q) hkm hqm (by rw [HX.out]; show evLt x m[q]; rw [HY.out]; exact HLT.out))
                  clear hswp hcut
                  go_wp2
                  go_roundw
                  case rel => exact ⟨q, _, by omega, by go_num, HS7, HP7, HSW7⟩
                  case measure => simp [intOf]
      · have hin2 : ¬ (i : Int) < (n : Int) := by omega
        have HA : RowKit.Hid (ARd wr (.slice ua n uc) 5 (m.map evC5)) := Lib.hid (ev_ard (by rw [hml]; exact hR.out))
        have HSo := Lib.hid (upTo_all hU.out (by omega))
        have HB9 := Lib.hid (below_step HB2.out hB.out)
        go_wp2
        go_ret2
        exact ⟨_, m, 0, rfl, .inr ⟨by rw [HE0.out, HN.out]; exact hn2, by rw [HE0.out]; exact hP.out, HSo.out, rfl⟩, HA.out, HB9.out⟩
theorem rread_any (v1 v2 v3 v4 : Value) (S : Sp) (ok : SpOk S) (f : Nat → Value) (R : Ro) (rok : RoOk R) (rv : Value) (g : Nat → Value) (rt : Int) (th : List Th) (vt : Value) (least gap : Int) (w : World) (hsp : SpRd w v1 v2 v3 v4 f S) (hr : RoRd w rv g R) (hl : th.length ≤ 1000000) (hth : ARd w vt 3 (th.map thC)) :
    Calls Tryz.prog 16 #[.agg #[v1, v2, v3, v4], .agg #[.int .i64 R.tracks, rv], .agg #[.int .i64 rt, vt], .agg #[.int .i64 least, .int .i64 gap]] w (RdEnds S R rt th least gap w) := by
  by_cases hne : rdErr S R rt th least gap = 0
  · obtain ⟨h1, h2, h3, h4, h5, h6, h7⟩ := rdErr_zero hne
    refine (rread_in v1 v2 v3 v4 S ok f R rok rv g rt th vt least gap w hsp hr hl hth h1 h2 h3 ⟨h4, h5⟩ ⟨h6, h7⟩).mono ?_
    rintro e w' ⟨v, m, c, rfl, hp, ha, hb⟩
    exact ⟨v, m, c, rfl, .inr ⟨hne, hp⟩, ha, hb⟩
  · refine (rread_bad v1 v2 v3 v4 S ok f R rok rv g rt th vt least gap w hsp hr hl hth hne).mono ?_
    rintro e w' ⟨rfl, hb⟩
    exact ⟨_, [], _, rfl, .inl ⟨hne, rfl, rfl⟩, ARd.empty _ _, hb⟩
end Go.Proofs.YtppccacfdpkkgaaGreatDoor
