/-
  CONTRACTS: Bridge. CONTRACTS: Bridge, errors and all.
-/
import Derived.Test.YtppccacfdpkkgaaGreatDoorKB
import Derived.Test.YtppccacfdpkkgaaGreatDoorKF
import Derived.Sort.CutIn
import Derived.BigQuiet
import Derived.Deep.QuietTactic
import Derived.Sort.BigQuietIn
import Derived.Deep.RegionWith
import Derived.BigRegion
import Derived.Shelf.RegionOpen
namespace Go.Proofs.YtppccacfdpkkgaaGreatDoor
open Go.RowKit Go.Shelf
attribute [local go_sem] Oper.semAt_some
theorem wpIn_plain {F : Fence} {n : Nat} {P : Program} {c : Code} {K : Act → World → Prop} {Q' : Exit → Act → World → Prop} {a : Act} {w : World} (h : c.wpIn F n P (Exit.then K (fun _ _ _ => False)) a w) : c.wpIn F n P (Exit.then K Q') a w := by
  refine wpIn_mono h ?_
  intro e a' w' hq
  cases e with
  | normal => exact hq
  | exit id => exact hq.elim
  | goto l => exact hq.elim
  | ret => exact hq.elim
  | panic ch => exact hq.elim
  | outgrown => exact hq.elim
/-- The number in a box. -/
def boxN (v : Value) (w : World) : Nat := match v with
  | .pointer (some p) => match w.cell? p with
    | some (.int _ n) => n.toNat
    | _ => 0
  | _ => 0
theorem boxN_is {T : Nat} {w : World} {k : Nat} (h : Boxed w T 3 (.int .i64 k)) : boxN (.pointer (some ⟨T, 0, none⟩)) w = k := by
  simp only [boxN, h.cell, Int.toNat_natCast]
set_option maxRecDepth 100000 in
set_option maxHeartbeats 6400000 in
theorem bridge_in (n : Nat) (hn : 6 ≤ n) (R : Ro) (rok : RoOk R) (rv : Value) (g : Nat → Value) (mo wi : Nat) (w : World) (hr : RoRd w rv g R)
    (hre : rollErr R true = 0) (hm : 1 ≤ mo ∧ mo ≤ 100) (hw : 1 ≤ wi ∧ wi ≤ 100) :
    CallsIn Fence.wide n Tryz.prog 30 #[.agg #[.int .i64 R.tracks, rv], .int .i64 mo, .int .i64 wi] w (BgR (brRo R mo wi R.tracks.toNat) w) := by
  refine callsIn_of_wp_marks Tryz.func30 rfl trivial ?_ rfl
  simp only [Tryz.ntmps30, List.size_toArray, List.length_cons, List.length_nil, Nat.reduceAdd, Nat.reduceSub, Array.replicate_succ, Array.replicate_zero, List.push_toArray, List.append_toArray, List.nil_append, List.cons_append]
  have HR := Lib.hid hr
  have HRO := Lib.hid rok
  have HRE := Lib.hid hre
  obtain ⟨hm1, hm2⟩ := hm
  obtain ⟨hw1, hw2⟩ := hw
  have hm3 : (1 : Int) ≤ (mo : Int) := by omega
  have hm4 : (mo : Int) ≤ 100 := by omega
  have hw3 : (1 : Int) ≤ (wi : Int) := by omega
  have hw4 : (wi : Int) ≤ 100 := by omega
  clear hr rok hre
  have hb0 : Below w.heap.size w ((((w.alloc (.cells #[.int .i64 R.tracks, rv] 36)).alloc (.cells #[.int .i64 mo] 3)).alloc (.cells #[.int .i64 wi] 3)).alloc (.cells #[.int .i64 0, .slice none 0 0] 36)) := (((((Below.refl w.heap.size w).alloc (Nat.le_refl _) _).alloc (by simp) _).alloc (by simp; omega) _).alloc (by simp; omega) _)
  have k1 := (((Blk.new w 36 #[.int .i64 R.tracks, rv]).alloc (.cells #[.int .i64 mo] 3)).alloc (.cells #[.int .i64 wi] 3)).alloc (.cells #[.int .i64 0, .slice none 0 0] 36)
  have k2 := ((Boxed.new (w.alloc (.cells #[.int .i64 R.tracks, rv] 36)) 3 (.int .i64 mo)).alloc (.cells #[.int .i64 wi] 3)).alloc (.cells #[.int .i64 0, .slice none 0 0] 36)
  have k3 := (Boxed.new ((w.alloc (.cells #[.int .i64 R.tracks, rv] 36)).alloc (.cells #[.int .i64 mo] 3)) 3 (.int .i64 wi)).alloc (.cells #[.int .i64 0, .slice none 0 0] 36)
  have k4 := Blk.new (((w.alloc (.cells #[.int .i64 R.tracks, rv] 36)).alloc (.cells #[.int .i64 mo] 3)).alloc (.cells #[.int .i64 wi] 3)) 36 #[.int .i64 0, .slice none 0 0]
  rw [World.size_alloc] at k2
  rw [World.size_alloc, World.size_alloc] at k3
  rw [World.size_alloc, World.size_alloc, World.size_alloc] at k4
  have HB0 := Lib.hid hb0
  have K1 := Lib.hid k1
  have K2 := Lib.hid k2
  have K3 := Lib.hid k3
  have K4 := Lib.hid k4
  clear hb0 k1 k2 k3 k4
  gi_wp2_with fail
  refine ⟨trivial, ?_⟩
  generalize (((w.alloc (.cells #[.int .i64 R.tracks, rv] 36)).alloc (.cells #[.int .i64 mo] 3)).alloc (.cells #[.int .i64 wi] 3)).alloc (.cells #[.int .i64 0, .slice none 0 0] 36) = W0 at *
  refine ⟨(fun _ => (by omega)), ?_⟩
  refine (callsIn_wide.2 (load_any R true HRO.out rv g _ (HR.out.later HB0.out))).mono ?_
  rintro e W1 ⟨hb1, ⟨he, rfl⟩ | ⟨he, P, pv, qs, rfl, hp, hqs⟩⟩
  · exact absurd HRE.out he
  · have HB1 := Lib.hid (below_step HB0.out hb1)
    have L1 := Lib.hid (K1.out.below hb1)
    have L2 := Lib.hid ((hb1.block _ K2.out.lt).trans K2.out)
    have L3 := Lib.hid ((hb1.block _ K3.out.lt).trans K3.out)
    have L4 := Lib.hid (K4.out.below hb1)
    have x0 : W1.cell? ⟨w.heap.size + 1, 0, none⟩ = some (.int .i64 mo) := Boxed.cell L2.out
    have x1 : W1.cell? ⟨w.heap.size + 1 + 1, 0, none⟩ = some (.int .i64 wi) := Boxed.cell L3.out
    obtain ⟨pa, pc, rfl⟩ := hp.form
    have HPP := Lib.hid hp
    have HQS := Lib.hid hqs
    have HQL := Lib.hid (show qs.length ≤ 20000 by rw [hqs.len]; exact (rollGood HRE.out).len)
    have HT1 := (rollGood HRE.out).lo
    have HT2 := (rollGood HRE.out).hi
    have p0 : W1.cell? ⟨P, 0, none⟩ = some (.int .i64 R.tracks) := hp.p.cell 0
    have p1 : W1.cell? ⟨P, 1, none⟩ = some (.slice pa qs.length pc) := hp.p.cell 1
    clear hb1 he hp hqs
    gi_upto_region 6 with fail
    gi_cut [10] from 40 (fun x10 wx => ∃ OB PO, x10 = .pointer (some ⟨OB, 0, none⟩) ∧ RowKit.Hid (ClP W1 R.tracks qs OB PO wx))
    case first =>
      refine wpIn_plain (wpIn_wide.2 ?_)
      have hbd : Below W1.heap.size W1 W1.drew := below_drewN (Below.refl _ _) 1
      have hbo : Below W1.heap.size W1 (W1.drew.alloc (.cells #[.pointer none] 83)) := hbd.alloc (Nat.le_refl _) _
      have hko : Boxed (W1.drew.alloc (.cells #[.pointer none] 83)) W1.heap.size 83 (.pointer none) := Boxed.new W1.drew _ _
      have p0d : W1.drew.cell? ⟨P, 0, none⟩ = some (.int .i64 R.tracks) := (HPP.out.p.below hbd).cell 0
      have p1d : W1.drew.cell? ⟨P, 1, none⟩ = some (.slice pa qs.length pc) := (HPP.out.p.below hbd).cell 1
      have p0a := cell_alloc p0
      have p1a := cell_alloc p1
      go_region_with (first | (go_at_call 59; refine (clone_any qs HQL.out W0.heap.size (.slice pa qs.length pc) (W1.drew.alloc (.cells #[.pointer none] 83)) (row_later HPP.out.r hbo)).mono ?_; rintro e w' ⟨u, rfl, hu, hbu⟩; obtain ⟨au, cu, rfl⟩ := own_form hu; have hk2 : Boxed w' W1.heap.size 83 (.pointer none) := (hbu.block _ hko.lt).trans hko; have hc0 := hk2.cell; have hf0 := hk2.frozen; have hsu := hbu.size; have e0 : w'.cell? ⟨P, 0, none⟩ = some (.int .i64 R.tracks) := (HPP.out.p.below (below_step hbo hbu)).cell 0; have e0a := cell_alloc e0; have hc1 := fun o => (hk2.alloc o).cell; have hf1 := fun o => (hk2.alloc o).frozen) | (go_at_call 59; refine (clone_any qs HQL.out W0.heap.size (.slice pa qs.length pc) W1.drew (row_later HPP.out.r hbd)).mono ?_; rintro e w' ⟨u, rfl, hu, hbu⟩; obtain ⟨au, cu, rfl⟩ := own_form hu; have e0 : w'.cell? ⟨P, 0, none⟩ = some (.int .i64 R.tracks) := (HPP.out.p.below (below_step hbd hbu)).cell 0; have e0a := cell_alloc e0; have hc1 := fun o => ((Boxed.new w' 83 (.pointer none)).alloc o).cell; have hf1 := fun o => ((Boxed.new w' 83 (.pointer none)).alloc o).frozen))
      all_goals (gi_wp2_with fail; gi_meet; first | exact ⟨_, _, rfl, Lib.hid (cl_a HPP.out.ok (below_step hbo hbu) hu hbo.size hk2)⟩ | exact ⟨_, _, rfl, Lib.hid (cl_b HPP.out.ok (below_step hbd hbu) hu hbd.size)⟩ | exact ⟨_, _, rfl, Lib.hid (cl_c HPP.out.ok (below_step hbd hbu) hu hbd.size)⟩)
    case rest =>
      obtain ⟨OB, PO, rfl, HC⟩ := hcut
      have HST := Lib.hid (show BgI qs R.tracks W1 OB PO wc.heap.size 1 [] (gK (slQ qs) mo wi 1) (wc.alloc (.cells #[.int .i64 1] 3)) from bg_start HC.out)
      gi_wp2
      refine wpIn_loop (fun a wr => ∃ (u11 u51 u52 u53 u54 u55 u56 u57 u58 u59 u60 u61 u92 : Value) (Ds : List Nat), (∃ k T : Nat, 1 ≤ k ∧ (k : Int) ≤ R.tracks ∧ u11 = .pointer (some ⟨T, 0, none⟩) ∧ RowKit.Hid (BgI qs R.tracks W1 OB PO T k Ds (gK (slQ qs) mo wi k) wr)) ∧ a = { tmps := #[.agg #[.int .i64 R.tracks, rv], .int .i64 (mo : Int), .int .i64 (wi : Int), .pointer (some ⟨w.heap.size, 0, none⟩), .pointer (some ⟨w.heap.size + 1, 0, none⟩), .pointer (some ⟨w.heap.size + 1 + 1, 0, none⟩), .pointer (some ⟨w.heap.size + 1 + 1 + 1, 0, none⟩), .int .i64 0, .pointer (some ⟨P, 0, none⟩), .int .i64 0, .pointer (some ⟨OB, 0, none⟩), u11, undef, undef, undef, undef, .tuple #[.pointer (some ⟨P, 0, none⟩), .int .i64 0], .agg #[.int .i64 R.tracks, rv], .tuple #[.pointer (some ⟨P, 0, none⟩), .int .i64 0], .pointer (some ⟨P, 0, none⟩), .int .i64 0, .int .i64 0, .bool false, undef, undef, .int .i64 (mo : Int), .bool (decide ((mo : Int) < 1)), .bool (decide ((mo : Int) < 1)), .int .i64 (mo : Int), .bool (decide (100 < (mo : Int))), .bool (decide ((mo : Int) < 1) || decide (100 < (mo : Int))), .bool (decide ((mo : Int) < 1) || decide (100 < (mo : Int))), .int .i64 (wi : Int), .bool (decide ((wi : Int) < 1)), .bool (decide ((mo : Int) < 1) || decide (100 < (mo : Int)) || decide ((wi : Int) < 1)), .bool (decide ((mo : Int) < 1) || decide (100 < (mo : Int)) || decide ((wi : Int) < 1)), .int .i64 (wi : Int), .bool (decide (100 < (wi : Int))), .bool (decide ((mo : Int) < 1) || decide (100 < (mo : Int)) || decide ((wi : Int) < 1) || decide (100 < (wi : Int))), undef, u40, u41, u42, u43, u44, u45, u46, u47, u48, u49, u50, u51, u52, u53, u54, u55, u56, u57, u58, u59, u60, u61, u62, u63, u64, u65, u66, u67, u68, u69, u70, u71, u72, u73, u74, u75, u76, u77, u78, u79, u80, u81, u82, u83, u84, u85, u86, u87, u88, u89, u90, u91, u92, u93, u94], defers := marks Ds }) (fun a wr => R.tracks.toNat - boxN (a.tmps.getD 11 undef) wr) ?_ ?_
      · repeat apply Exists.intro
        exact ⟨⟨1, _, Nat.le_refl _, by omega, rfl, HST⟩, rfl⟩
      · intro _ wr hinv
        obtain ⟨u11, u51, u52, u53, u54, u55, u56, u57, u58, u59, u60, u61, u92, Ds, ⟨k, T, hk1, hk2, rfl, hI⟩, ha⟩ := hinv
        subst ha
        have tk0 : wr.cell? ⟨T, 0, none⟩ = some (.int .i64 k) := hI.out.tk.cell
        have p0r : wr.cell? ⟨P, 0, none⟩ = some (.int .i64 R.tracks) := (HPP.out.p.below hI.out.b).cell 0
        clear p0 p1 x0 x1
        by_cases hlt : (k : Int) < R.tracks
        · gi_upto_region 8 with fail
          refine wpIn_wide.2 ?_
          go_quiet (fail)
          have hb3 : Below wr.heap.size wr (wr.drewN nq) := below_drewN (Below.refl _ _) nq
          have hbox : boxN (.pointer (some ⟨T, 0, none⟩)) wr = k := boxN_is hI.out.tk
          generalize wr.drewN nq = W3 at hb3 ⊢
          have HI3 := Lib.hid (hI.out.below hb3)
          have HBX := Lib.hid hbox
          have tk3 : W3.cell? ⟨T, 0, none⟩ = some (.int .i64 k) := HI3.out.tk.cell
          clear hb3 tk0 p0r hI hbox
          gi_wp2_with fail
          refine ⟨trivial, (fun _ => (by omega)), ?_⟩
          refine (callsIn_wide.2 (slots_any P _ _ _)).mono ?_
          rintro e W4 ⟨rfl, hbp, hbt, hbg, hb4⟩
          have hsz4 := hb4.size
          have hsz2 := HI3.out.b.size
          have hszb := hbg.lt
          have H0 := Lib.hid (show BxI qs R.tracks W1 OB PO T k Ds P W3.heap.size (W3.heap.size + 1) (W3.heap.size + 1 + 1) (gP (slQ qs) mo wi k (([] : List (SlP qs.length)).map (·.1))) W4 from ⟨(HI3.out.to fun _ h => h.p0).below hb4, hbp, hbt, hbg⟩)
          have HD := Lib.hid (fun D (hD : D ∈ Ds) => Nat.lt_of_lt_of_le (HI3.out.marks.lt hD) hsz4)
          have hmx : Tryz.prog.follows .mixedOrders = true := by kernel_rfl
          clear hbp hbt hbg hb4 tk3
          gi_wp2_with fail
          refine' wpIn_rangeFunc_ownG (a₁ := _) rfl (by omega) (gf := 81) (lb := #[.pointer (some ⟨W3.heap.size, 0, none⟩), .pointer (some ⟨W3.heap.size + 1, 0, none⟩), .pointer (some ⟨W3.heap.size + 1 + 1, 0, none⟩)]) rfl trivial (enters_of Tryz.func81 (by kernel_rfl) rfl)
            (slots_stops (n - 1) (by omega) W0.heap.size W3.heap.size (W3.heap.size + 1) (W3.heap.size + 1 + 1) P R.tracks (.slice pa qs.length pc) qs (k : Int) 0 HQL.out (fun A B => SlIn A W0.heap.size W3.heap.size (W3.heap.size + 1) (W3.heap.size + 1 + 1) P R.tracks (.slice pa qs.length pc) qs (k : Int) 0 → SlIn B W0.heap.size W3.heap.size (W3.heap.size + 1) (W3.heap.size + 1 + 1) P R.tracks (.slice pa qs.length pc) qs (k : Int) 0) (fun _ _ h => h) W4 (H0.out.slIn HPP.out))
            (fun h k s => k (h s)) (fun _ _ _ o' _ h1 h2 _ s => s.putObj o' h1 h2) (Below.refl _ _) (fun _ => rfl)
            (fun pre W => BxI qs R.tracks W1 OB PO T k Ds P W3.heap.size (W3.heap.size + 1) (W3.heap.size + 1 + 1) (gP (slQ qs) mo wi k (pre.map (·.1))) W) (fun _ _ _ => False) (BxI.ownFrom HD.out (by omega)) (fun _ _ _ _ _ hs _ _ => hs) H0.out ?assign ?body ?done ?stop
          case assign =>
            intro l x W K hK
            dsimp only [slE]
            gi_wp2
            exact hK
          case body =>
            rintro l pre x W hR hlp
            obtain ⟨a, ha⟩ : ∃ a, x.1.1 = a := ⟨_, rfl⟩
            obtain ⟨d, hd⟩ : ∃ d, x.1.2 = d := ⟨_, rfl⟩
            have hx1 : a ≤ d := by rw [← ha, ← hd]; exact x.2.1
            have hx2 : d < qs.length := by rw [← hd]; exact x.2.2
            have hql := HQL.out
            have HXE := Lib.hid (show (pre ++ [x]).map (·.1) = pre.map (·.1) ++ [(a, d)] by rw [List.map_append, List.map_cons, List.map_nil, show x.1 = (a, d) from Prod.ext ha hd])
            have y0 : W.cell? ⟨w.heap.size + 1, 0, none⟩ = some (.int .i64 mo) := Boxed.cell ((hR.i.b.block _ (Boxed.lt L2.out)).trans L2.out)
            have HR0 := Lib.hid (hR.to fun _ h => h.j0 (s := (a, d)))
            have HRR := Lib.hid hR
            rw [ha, hd]
            clear ha hd hR
            gi_wp2
            gi_loopw [14] (fun y wr2 => ∃ (j q r : Nat), q = j * (mo + wi) ∧ r = a + mo + q ∧ y = .int .i64 (r : Int) ∧ (q = 0 ∨ a + q ≤ d) ∧ (j = 0 ∨ a + (j - 1) * (mo + wi) + mo + wi ≤ d) ∧ RowKit.Hid (BxI qs R.tracks W1 OB PO T k Ds P W3.heap.size (W3.heap.size + 1) (W3.heap.size + 1 + 1) (gJ (slQ qs) mo wi k (pre.map (·.1)) (a, d) j) wr2) ∧ RowKit.Hid (KeepsOthers W wr2)) (fun y _ => 40000 - (intOf y).toNat)
            case atStart => exact ⟨0, 0, a + mo, by omega, by omega, by go_num, .inl rfl, .inl rfl, HR0, Lib.hid (KeepsOthers.refl _)⟩
            case round =>
              obtain ⟨j, q, r, hq, hr, rfl, hqb, hjd, hB, hKO⟩ := hrel
              have HQ := Lib.hid hq
              have HJ := Lib.hid hjd
              have hr1 : a + mo + q ≤ r := by omega
              have hr2 : r ≤ a + mo + q := by omega
              clear hq hjd hr
              have y0' : wr.cell? ⟨w.heap.size + 1, 0, none⟩ = some (.int .i64 mo) := Boxed.cell ((hB.out.i.b.block _ (Boxed.lt L2.out)).trans L2.out)
              have y1' : wr.cell? ⟨w.heap.size + 1 + 1, 0, none⟩ = some (.int .i64 wi) := Boxed.cell ((hB.out.i.b.block _ (Boxed.lt L3.out)).trans L3.out)
              by_cases hc : r + wi ≤ d
              · have hc2 : (r : Int) + (wi : Int) ≤ (d : Int) := by omega
                gi_wp2
                gi_loopw [78] (fun z wr3 => ∃ (c : Nat), c ≤ wi ∧ z = .int .i64 (c : Int) ∧ RowKit.Hid (BxI qs R.tracks W1 OB PO T k Ds P W3.heap.size (W3.heap.size + 1) (W3.heap.size + 1 + 1) (gI (slQ qs) mo wi k (pre.map (·.1)) (a, d) j c) wr3) ∧ RowKit.Hid (KeepsOthers W wr3)) (fun z _ => wi - (intOf z).toNat)
                case atStart => exact ⟨0, Nat.zero_le _, rfl, Lib.hid (hB.out.to fun _ h => h.i0), hKO⟩
                case round =>
                  obtain ⟨c, hcw, rfl, hC, hKC⟩ := hrel
                  by_cases hcl : c < wi
                  · have hcl2 : (c : Int) < (wi : Int) := by omega
                    have hd0 : Below wr.heap.size wr wr.drew := (Below.refl _ _).drew
                    have hCd := hC.out.below hd0
                    obtain ⟨v, qs', hp, hh⟩ := hCd.i.pap
                    have hlq : qs'.length = qs.length := hh.len
                    obtain ⟨Gb, cap, rfl, hpb⟩ := hp.b (by omega)
                    have o0 : wr.cell? ⟨OB, 0, none⟩ = some (.pointer (some ⟨PO, 0, none⟩)) := hC.out.i.ob.cell
                    have o1 : wr.cell? ⟨PO, 1, none⟩ = some (.slice (some ⟨Gb, 0, none⟩) qs'.length cap) := hpb.p.cell 1
                    have o2 : wr.cell? ⟨T, 0, none⟩ = some (.int .i64 k) := hC.out.i.tk.cell
                    have hi1 : (r : Int) + (c : Int) < (qs'.length : Int) := by omega
                    have hi2 : r + c < qs'.length := by omega
                    have hi3 : (0 : Int) ≤ (r : Int) + (c : Int) := by omega
                    have hi4 : ((r : Int) + (c : Int)).toNat = r + c := by omega
                    have hput := put_row hpb.r hi2 (hh.ok _ (List.getElem_mem hi2)) (k : Int) (by omega) (by omega) false
                    have hnext := fun w5 hr5 hg5 => hCd.put (W' := w5) hpb List.length_set hr5 hg5 (hh.i1 hi2 (by rw [← HQ.out]; omega) (by omega))
                    have hr3 : r + c ≤ 20000 := by omega
                    have hr4 : IntKind.i64.wrap ((r : Int) + (c : Int)) = (r : Int) + (c : Int) := IntWalk.i64_in _ (by omega)
                    have HPUT := Lib.hid hput
                    have HNEXT := Lib.hid hnext
                    have HKD := Lib.hid (hKC.out.trans (KeepsOthers.drew wr))
                    clear hput hnext hp hh hCd hpb hC hKC hlq
                    gi_upto_region 19 with fail
                    refine wpIn_region_still_round 9 hmx (by kernel_rfl) (by kernel_rfl) ?_
                    simp only [List.take_succ_cons, List.take_zero, List.drop_succ_cons, List.drop_zero]
                    repeat still_step
                    refine wpStill_nil ?_
                    change wpList _ _ _ _ _ wr.drew
                    go_wp2_with (go_at_call 37; refine HPUT.out.mono ?_; rintro e w5 ⟨rfl, hr5, hg5, hs5⟩; have HB5 := Lib.hid (HNEXT.out _ hr5 hg5); clear hr5 hg5 hs5)
                    gi_wp2
                    go_roundw
                    case rel => exact ⟨c + 1, by omega, by go_num, Lib.hid HB5.out.1, Lib.hid (HKD.out.trans HB5.out.2)⟩
                    case measure => simp [intOf]; omega
                  · have hcl2 : ¬ ((c : Int) < (wi : Int)) := by omega
                    have hcw2 : c = wi := by omega
                    have HJ1 := Lib.hid (show BxI qs R.tracks W1 OB PO T k Ds P W3.heap.size (W3.heap.size + 1) (W3.heap.size + 1 + 1) (gJ (slQ qs) mo wi k (pre.map (·.1)) (a, d) (j + 1)) wr from hC.out.to fun _ h => (hcw2 ▸ h).j1 hw1 (by simp only; rw [← HQ.out]; omega))
                    have z0 : wr.cell? ⟨w.heap.size + 1, 0, none⟩ = some (.int .i64 mo) := Boxed.cell ((HJ1.out.i.b.block _ (Boxed.lt L2.out)).trans L2.out)
                    have z1 : wr.cell? ⟨w.heap.size + 1 + 1, 0, none⟩ = some (.int .i64 wi) := Boxed.cell ((HJ1.out.i.b.block _ (Boxed.lt L3.out)).trans L3.out)
                    have HQ1 := Lib.hid (show q + (mo + wi) = (j + 1) * (mo + wi) by rw [Nat.add_mul, ← HQ.out, Nat.one_mul])
                    have HJ2 := Lib.hid (show j + 1 = 0 ∨ a + (j + 1 - 1) * (mo + wi) + mo + wi ≤ d from .inr (by rw [Nat.add_sub_cancel, ← HQ.out]; omega))
                    clear hC hcw2 y0' y1'
                    gi_wp2
                    go_roundw
                    case rel => exact ⟨j + 1, q + (mo + wi), r + (mo + wi), HQ1.out, by omega, by go_num, .inr (by omega), HJ2.out, HJ1, hKC⟩
                    case measure => simp [intOf]; omega
              · have hc2 : ¬ (r : Int) + (wi : Int) ≤ (d : Int) := by omega
                have HP1 := Lib.hid (hB.out.to fun _ h => h.p1 hx1 (by rcases HJ.out with h | h; exact .inl h; exact .inr h) (by simp only; rw [← HQ.out]; omega))
                rw [← HXE.out] at HP1
                gi_wp2
                exact ⟨hKO.out.from _, fun _ => HP1.out.slIn HPP.out, HP1.out⟩
          case done =>
            rintro D ys W hD hys hR hK
            have HI2 := Lib.hid (BxI.next hk1 hR hys (fun hm => by have := HD.out D hm; omega) (by omega) hK)
            have tkW : W.cell? ⟨T, 0, none⟩ = some (.int .i64 k) := hR.i.tk.cell
            have hszW : boxN (.pointer (some ⟨W.heap.size, 0, none⟩)) (W.alloc (.cells #[.int .i64 ((k : Int) + 1)] 3)) = k + 1 := boxN_is (k := k + 1) (by have := Boxed.new W 3 (.int .i64 ((k : Int) + 1)); rw [show ((k + 1 : Nat) : Int) = (k : Int) + 1 by omega]; exact this)
            have HSW := Lib.hid hszW
            clear hR hK hszW
            gi_wp2_with fail
            refine ⟨?_, ?_⟩
            · repeat apply Exists.intro
              exact ⟨⟨k + 1, W.heap.size, by omega, by omega, rfl, Lib.hid (by have := HI2.out.track' ((k : Int) + 1); rw [show ((k + 1 : Nat) : Int) = (k : Int) + 1 by omega]; exact this)⟩, rfl⟩
            · show R.tracks.toNat - boxN (.pointer (some ⟨W.heap.size, 0, none⟩)) (W.alloc (.cells #[.int .i64 ((k : Int) + 1)] 3)) < R.tracks.toNat - boxN (.pointer (some ⟨T, 0, none⟩)) wr
              rw [HSW.out, HBX.out]
              omega
          case stop =>
            rintro D c pre W _ _ h _
            exact h.elim
        · gi_upto_region 8 with fail
          refine wpIn_wide.2 ?_
          go_quiet (fail)
          have hb3 : Below wr.heap.size wr (wr.drewN nq) := below_drewN (Below.refl _ _) nq
          generalize wr.drewN nq = W3 at hb3 ⊢
          have HI3 := Lib.hid (hI.out.below hb3)
          have ob3 : W3.cell? ⟨OB, 0, none⟩ = some (.pointer (some ⟨PO, 0, none⟩)) := HI3.out.ob.cell
          obtain ⟨K, hK⟩ : ∃ K : Nat, R.tracks = K := ⟨R.tracks.toNat, by omega⟩
          obtain ⟨v, qs', hp, hh⟩ := HI3.out.pap
          have hlq : qs'.length = qs.length := hh.len
          have hql := HQL.out
          have hkK : k = K := by omega
          subst hkK
          have HBR := Lib.hid (bridge_rows HQS.out hh hK (by omega))
          rw [hK] at hp
          have HP := Lib.hid hp
          have HM3 := Lib.hid HI3.out.marks
          have HW3 := Lib.hid (below_step HB1.out HI3.out.b)
          have HZ3 := Lib.hid (L4.out.below HI3.out.b)
          have hlow : w.heap.size + 1 + 1 + 1 < W3.heap.size := HZ3.out.lt
          have hlow1 : w.heap.size + 1 + 1 + 1 < W1.heap.size := L4.out.lt
          clear hb3 tk0 p0r hI hp hh
          gi_wp2_with fail
          refine ⟨trivial, (fun _ => (by omega)), ?_⟩
          refine (callsIn_wide.2 (roll_any k (by omega) W1.heap.size PO v qs' (by omega) _ HP.out)).mono ?_
          rintro e W7 ⟨rv7, rg, rfl, hrd, hb7, hrk⟩
          obtain ⟨ra, rc, rfl⟩ := hrd.form
          have HZ7 := Lib.hid (HZ3.out.below hb7)
          have HW7 := Lib.hid (below_step HW3.out hb7)
          have HM7 := Lib.hid (HM3.out.below hb7)
          have z0 := HZ7.out.cell 0
          have z1 := HZ7.out.cell 1
          have g0 := HZ7.out.frozen 0
          have g1 := HZ7.out.frozen 1
          have hg8 := (set_grown W7 (w.heap.size + 1 + 1 + 1) 0 (.int .i64 (k : Int))).trans (set_grown _ (w.heap.size + 1 + 1 + 1) 1 (.slice ra (qs'.map fun q => told (hole q) k).length rc))
          have HRK := Lib.hid (hrk _ (sameFrom_grown hlow hg8))
          have HZ8 := Lib.hid ((HZ7.out.set 0 (.int .i64 (k : Int))).set 1 (.slice ra (qs'.map fun q => told (hole q) k).length rc))
          have HW8 := Lib.hid ((HW7.out.setCell (p := ⟨w.heap.size + 1 + 1 + 1, 0, none⟩) (by simp only; omega) (.int .i64 (k : Int))).setCell (p := ⟨w.heap.size + 1 + 1 + 1, 1, none⟩) (by simp only; omega) (.slice ra (qs'.map fun q => told (hole q) k).length rc))
          have HM8 := Lib.hid (HM7.out.keeps fun D hD => hg8.block D (HM7.out.lt hD) (fun e => by have := (HM7.out.at' D hD).1; cases e; omega))
          obtain ⟨rn, hrn⟩ : ∃ rn, (qs'.map fun q => told (hole q) k).length = rn := ⟨_, rfl⟩
          rw [hrn] at HRK HZ8 HW8 HM8 ⊢
          clear hb7 hrd hrk hrn hg8
          gi_wp2_with fail
          have hz9 := cleared_blk HM8.out HZ8.out
          have c0 := hz9.cell 0
          have c1 := hz9.cell 1
          refine marks_ret' (v := .tuple #[.agg #[.int .i64 (k : Int), .slice ra rn rc], .int .i64 0]) HM8.out rfl (by simp [results, Tryz.results30, go_sem, c0, c1]) (bgR_of (by rw [hK]; exact HBR.out) ⟨_, rg, rfl, HRK.out.cleared HM8.out, HW8.out.trans (below_cleared fun D hD => by have := (HM8.out.at' D hD).1; omega)⟩)
theorem bridgeP_roll {R : Ro} {m w : Int} (h : rollErr R true ≠ 0) : bridgeP R m w = (⟨0, []⟩, rollErr R true) := by unfold bridgeP; rw [if_neg h]
theorem bridgeP_range {R : Ro} {m w : Int} (h : rollErr R true = 0) (h2 : m < 1 ∨ 100 < m ∨ w < 1 ∨ 100 < w) : bridgeP R m w = (⟨0, []⟩, 7) := by unfold bridgeP; rw [if_pos h, if_pos h2]
theorem bridgeP_good {R : Ro} {m w : Int} (h : rollErr R true = 0) (h2 : ¬ (m < 1 ∨ 100 < m ∨ w < 1 ∨ 100 < w)) : bridgeP R m w = (brRo R m.toNat w.toNat R.tracks.toNat, 0) := by unfold bridgeP; rw [if_pos h, if_neg h2]
/-- How a function ends that returns a roll and an error. -/
def RoEnds (r : Ro × Int) (w : World) (e : Ending) (w' : World) : Prop := ∃ v g, e = .returned (.tuple #[.agg #[.int .i64 r.1.tracks, v], .int .i64 r.2]) ∧ RoRd w' v g r.1 ∧ Below w.heap.size w w'
theorem roRd_none (w : World) (g : Nat → Value) : RoRd w (.slice none 0 0) g ⟨0, []⟩ := ⟨⟨none, 0, rfl, fun i hi => absurd hi (Nat.not_lt_zero i)⟩, fun i hi => absurd hi (Nat.not_lt_zero i)⟩
theorem roEnds_bad {r : Ro × Int} {n : Int} (h : r = (⟨0, []⟩, n)) {w w' : World} (hb : Below w.heap.size w w') : RoEnds r w (.returned (.tuple #[.agg #[.int .i64 0, .slice none 0 0], .int .i64 n])) w' := by
  subst h
  exact ⟨_, fun _ => .slice none 0 0, rfl, roRd_none _ _, hb⟩
set_option maxRecDepth 100000 in
set_option maxHeartbeats 3200000 in
theorem bridge_bad (R : Ro) (rok : RoOk R) (rv : Value) (g : Nat → Value) (mo wi : Int) (w : World) (hr : RoRd w rv g R)
    (hne : rollErr R true ≠ 0 ∨ (mo < 1 ∨ 100 < mo ∨ wi < 1 ∨ 100 < wi)) :
    Calls Tryz.prog 30 #[.agg #[.int .i64 R.tracks, rv], .int .i64 mo, .int .i64 wi] w (RoEnds (bridgeP R mo wi) w) := by
  have HR := Lib.hid hr
  have HRO := Lib.hid rok
  have HNE := Lib.hid hne
  clear hr rok hne
  have hb0 : Below w.heap.size w ((((w.alloc (.cells #[.int .i64 R.tracks, rv] 36)).alloc (.cells #[.int .i64 mo] 3)).alloc (.cells #[.int .i64 wi] 3)).alloc (.cells #[.int .i64 0, .slice none 0 0] 36)) := (((((Below.refl w.heap.size w).alloc (Nat.le_refl _) _).alloc (by simp) _).alloc (by simp; omega) _).alloc (by simp; omega) _)
  have k1 := (((Blk.new w 36 #[.int .i64 R.tracks, rv]).alloc (.cells #[.int .i64 mo] 3)).alloc (.cells #[.int .i64 wi] 3)).alloc (.cells #[.int .i64 0, .slice none 0 0] 36)
  have k2 := ((Blk.new (w.alloc (.cells #[.int .i64 R.tracks, rv] 36)) 3 #[.int .i64 mo]).alloc (.cells #[.int .i64 wi] 3)).alloc (.cells #[.int .i64 0, .slice none 0 0] 36)
  have k3 := (Blk.new ((w.alloc (.cells #[.int .i64 R.tracks, rv] 36)).alloc (.cells #[.int .i64 mo] 3)) 3 #[.int .i64 wi]).alloc (.cells #[.int .i64 0, .slice none 0 0] 36)
  have k4 := Blk.new (((w.alloc (.cells #[.int .i64 R.tracks, rv] 36)).alloc (.cells #[.int .i64 mo] 3)).alloc (.cells #[.int .i64 wi] 3)) 36 #[.int .i64 0, .slice none 0 0]
  rw [World.size_alloc] at k2
  rw [World.size_alloc, World.size_alloc] at k3
  rw [World.size_alloc, World.size_alloc, World.size_alloc] at k4
  have HB0 := Lib.hid hb0
  have K1 := Lib.hid k1
  have K2 := Lib.hid k2
  have K3 := Lib.hid k3
  have K4 := Lib.hid k4
  clear hb0 k1 k2 k3 k4
  go_enter Tryz.func30, Tryz.ntmps30
  go_wp2_with fail
  generalize (((w.alloc (.cells #[.int .i64 R.tracks, rv] 36)).alloc (.cells #[.int .i64 mo] 3)).alloc (.cells #[.int .i64 wi] 3)).alloc (.cells #[.int .i64 0, .slice none 0 0] 36) = W0 at *
  refine (load_any R true HRO.out rv g _ (HR.out.later HB0.out)).mono ?_
  have fin : ∀ (W1 : World), Below W0.heap.size W0 W1 → Below w.heap.size w ((W1.setCell ⟨w.heap.size + 1 + 1 + 1, 0, none⟩ (.int .i64 0)).setCell ⟨w.heap.size + 1 + 1 + 1, 1, none⟩ (.slice none 0 0)) := fun W1 h => ((below_step HB0.out h).setCell (p := ⟨w.heap.size + 1 + 1 + 1, 0, none⟩) (by simp only; omega) (.int .i64 0)).setCell (p := ⟨w.heap.size + 1 + 1 + 1, 1, none⟩) (by simp only; omega) (.slice none 0 0)
  have FIN := Lib.hid fin
  clear fin
  rintro e W1 ⟨hb1, ⟨he, rfl⟩ | ⟨he, P, pv, qs, rfl, hp, hqs⟩⟩
  · have HE := Lib.hid (bridgeP_roll (m := mo) (w := wi) he)
    have HB1 := Lib.hid hb1
    have L4 := Lib.hid (K4.out.below hb1)
    have he2 : (rollErr R true == 0) = false := by rw [beq_eq_false_iff_ne]; exact he
    have z0 := L4.out.cell 0
    have z1 := L4.out.cell 1
    have g0 := L4.out.frozen 0
    have g1 := L4.out.frozen 1
    have HZ := Lib.hid ((L4.out.set 0 (.int .i64 0)).set 1 (.slice none 0 0))
    clear he hb1
    go_wp2
    have c0 := HZ.out.cell 0
    have c1 := HZ.out.cell 1
    exact bodyPost_ret (v := .tuple #[.agg #[.int .i64 0, .slice none 0 0], .int .i64 (rollErr R true)]) (by simp [results, Tryz.results30, go_sem, c0, c1]) rfl (roEnds_bad HE.out (FIN.out _ HB1.out))
  · rcases HNE.out with h | hq
    · exact absurd he h
    · have HQ := Lib.hid (bridgeP_range he hq)
      have HB1 := Lib.hid hb1
      have L2 := Lib.hid (K2.out.below hb1)
      have L3 := Lib.hid (K3.out.below hb1)
      have L4 := Lib.hid (K4.out.below hb1)
      have x0 : W1.cell? ⟨w.heap.size + 1, 0, none⟩ = some (.int .i64 mo) := L2.out.cell 0
      have x1 : W1.cell? ⟨w.heap.size + 1 + 1, 0, none⟩ = some (.int .i64 wi) := L3.out.cell 0
      have z0 := L4.out.cell 0
      have z1 := L4.out.cell 1
      have g0 := L4.out.frozen 0
      have g1 := L4.out.frozen 1
      have HZ := Lib.hid ((L4.out.set 0 (.int .i64 0)).set 1 (.slice none 0 0))
      have hq2 : 1 ≤ mo → mo ≤ 100 → 1 ≤ wi → ¬ wi ≤ 100 := by omega
      clear he hb1 hq hp hqs
      go_wp2_with fail
      all_goals first
        | (exfalso; omega)
        | (have c0 := HZ.out.cell 0; have c1 := HZ.out.cell 1; exact bodyPost_ret (v := .tuple #[.agg #[.int .i64 0, .slice none 0 0], .int .i64 7]) (by simp [results, Tryz.results30, go_sem, c0, c1]) rfl (roEnds_bad HQ.out (FIN.out _ HB1.out)))
theorem bridge_any (R : Ro) (rok : RoOk R) (rv : Value) (g : Nat → Value) (mo wi : Int) (w : World) (hr : RoRd w rv g R) :
    Calls Tryz.prog 30 #[.agg #[.int .i64 R.tracks, rv], .int .i64 mo, .int .i64 wi] w (RoEnds (bridgeP R mo wi) w) := by
  by_cases h1 : rollErr R true = 0
  · by_cases h2 : mo < 1 ∨ 100 < mo ∨ wi < 1 ∨ 100 < wi
    · exact bridge_bad R rok rv g mo wi w hr (.inr h2)
    · obtain ⟨m, rfl⟩ : ∃ m : Nat, mo = m := ⟨mo.toNat, by omega⟩
      obtain ⟨k, rfl⟩ : ∃ k : Nat, wi = k := ⟨wi.toNat, by omega⟩
      rw [bridgeP_good h1 h2, Int.toNat_natCast, Int.toNat_natCast]
      refine (callsIn_wide.1 (bridge_in 6 (Nat.le_refl _) R rok rv g m k w hr h1 (by omega) (by omega))).mono ?_
      rintro e w' ⟨v, f, rfl, hrd, hb⟩
      exact ⟨v, f, rfl, hrd, hb⟩
  · exact bridge_bad R rok rv g mo wi w hr (.inl h1)
end Go.Proofs.YtppccacfdpkkgaaGreatDoor
