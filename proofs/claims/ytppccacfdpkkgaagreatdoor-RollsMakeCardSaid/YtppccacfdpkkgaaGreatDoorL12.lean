/-
  THE LAW RollsMake: the walk.
-/
import Derived.Test.YtppccacfdpkkgaaGreatDoorL3
import Derived.Test.YtppccacfdpkkgaaGreatDoorKP
import Derived.Test.YtppccacfdpkkgaaGreatDoorOpenM
import Derived.Deep.QuietTactic
import Derived.BigQuiet
namespace Go.Proofs.YtppccacfdpkkgaaGreatDoor
open Go.RowKit
theorem onRow_len (f : Th → Int) (th : List Th) : (onRow f th).length ≤ th.length + 1 := told_len _ _
theorem makeP_small (S : Sp) (l : List Ev) (rt : Int) (th : List Th) : (makeP S l rt th).1.rows.length ≤ 1000000 ∧ ∀ r ∈ (makeP S l rt th).1.rows, r.length ≤ th.length + 1 := by
  unfold makeP
  split
  · split
    · split
      · exact ⟨Nat.zero_le _, fun r hr => by cases hr⟩
      · split
        · exact ⟨Nat.zero_le _, fun r hr => by cases hr⟩
        · split
          · exact ⟨Nat.zero_le _, fun r hr => by cases hr⟩
          · refine ⟨?_, fun r hr => ?_⟩
            · simp only [List.length_map, List.length_range]
              omega
            · obtain ⟨i, _, rfl⟩ := List.mem_map.1 hr
              exact onRow_len _ _
    · exact ⟨Nat.zero_le _, fun r hr => by cases hr⟩
  · exact ⟨Nat.zero_le _, fun r hr => by cases hr⟩
set_option maxRecDepth 100000 in
set_option maxHeartbeats 12800000 in
theorem rollsMake_walk (v1 v2 v3 v4 : Value) (S : Sp) (l : List Ev) (vl : Value) (rt : Int) (th : List Th) (vt : Value) (w : World) (t : Tabs w) (g : Nat → Value) (hsp : SpRd w v1 v2 v3 v4 g S) (hre : ReB w l vl) (hp : HoB w th vt) :
    Calls Tryz.prog 3 #[.agg #[v1, v2, v3, v4], vl, .agg #[.int .i64 rt, vt]] w fun e w' => e = .returned (.bool true) ∧ Below w.heap.size w w' := by
  obtain ⟨⟨e1, n1, rfl⟩, ⟨e2, n2, rfl⟩, ⟨e3, n3, rfl⟩, ⟨e4, n4, rfl⟩⟩ := hsp.forms
  obtain ⟨ta, tc, rfl⟩ := hp.th.thForm
  obtain ⟨la, lc, rfl⟩ := hre.l.evForm
  obtain ⟨d1, hd1⟩ : ∃ d1, S.ds.length = d1 := ⟨_, rfl⟩
  obtain ⟨d2, hd2⟩ : ∃ d2, S.rs.length = d2 := ⟨_, rfl⟩
  obtain ⟨d3, hd3⟩ : ∃ d3, S.ss.length = d3 := ⟨_, rfl⟩
  obtain ⟨d4, hd4⟩ : ∃ d4, S.cs.length = d4 := ⟨_, rfl⟩
  rw [hd1, hd2, hd3, hd4] at hsp ⊢
  have hb0 : Below w.heap.size w ((w.alloc (.cells #[.slice e1 d1 n1, .slice e2 d2 n2, .slice e3 d3 n3, .slice e4 d4 n4] 27)).alloc (.cells #[.int .i64 rt, .slice ta th.length tc] 31)) := below_two w _ _
  have k1 := (Blk.new w 27 #[.slice e1 d1 n1, .slice e2 d2 n2, .slice e3 d3 n3, .slice e4 d4 n4]).alloc (.cells #[.int .i64 rt, .slice ta th.length tc] 31)
  have k2 := Blk.new (w.alloc (.cells #[.slice e1 d1 n1, .slice e2 d2 n2, .slice e3 d3 n3, .slice e4 d4 n4] 27)) 31 #[.int .i64 rt, .slice ta th.length tc]
  rw [World.size_alloc] at k2
  have HSP := Lib.hid hsp
  have HPA := Lib.hid hp
  have HRE := Lib.hid hre
  have HT := Lib.hid t
  have HB0 := Lib.hid hb0
  have HX0 := Lib.hid k1
  have HY0 := Lib.hid k2
  clear t hb0 hsp hp hre k1 k2 hd1 hd2 hd3 hd4
  go_enter Tryz.func3, Tryz.ntmps3
  go_upto_region 1 with fail
  generalize (w.alloc (.cells #[.slice e1 d1 n1, .slice e2 d2 n2, .slice e3 d3 n3, .slice e4 d4 n4] 27)).alloc (.cells #[.int .i64 rt, .slice ta th.length tc] 31) = W0 at *
  have x0 := HX0.out.cell 0
  have x1 := HX0.out.cell 1
  have x2 := HX0.out.cell 2
  have x3 := HX0.out.cell 3
  have y0 := HY0.out.cell 0
  have y1 := HY0.out.cell 1
  go_wp2_with fail
  refine (deep_l _ _ _ _ S g l _ rt th _ W0 (HSP.out.later HB0.out) (HRE.out.l.later HB0.out) (HPA.out.th.later HB0.out)).mono ?_
  rintro e W1 ⟨q, rfl, hdk, hb1⟩
  have HB1 := Lib.hid (below_step HB0.out hb1)
  have HX1 := Lib.hid (HX0.out.below hb1)
  have HY1 := Lib.hid (HY0.out.below hb1)
  clear hb1 x0 x1 x2 x3 y0 y1 HB0 HX0 HY0
  cases q with
  | true =>
    clear hdk
    go_wp2_with fail
    refine (shown32_any _ (HT.out.below HB1.out)).mono ?_
    rintro e w9 ⟨rfl, hb9⟩
    have HB9 := Lib.hid (below_step HB1.out hb9)
    clear hb9
    go_wp2
    go_ret
    exact ⟨rfl, HB9.out⟩
  | false =>
    obtain ⟨sok, h60, h200⟩ := hdk rfl
    have SOK := Lib.hid sok
    clear sok hdk
    obtain ⟨R, hR⟩ : ∃ R, (makeP S l rt th).1 = R := ⟨_, rfl⟩
    obtain ⟨er, her⟩ : ∃ er, (makeP S l rt th).2 = er := ⟨_, rfl⟩
    have hsm := makeP_small S l rt th
    rw [hR] at hsm
    obtain ⟨hs1, hs2⟩ := hsm
    have HS2 := Lib.hid (show ∀ r ∈ R.rows, r.length ≤ 1000000 from fun r hr => by have := hs2 r hr; omega)
    have HMK : RowKit.Hid (∀ {w e w'}, MkS (makeP S l rt th) w e w' → ∃ v g, e = .returned (.tuple #[.agg #[.int .i64 R.tracks, v], .int .i64 er]) ∧ RoRd w' v g R ∧ Below w.heap.size w w') := Lib.hid (fun h => by
      obtain ⟨v, g, h1, h2, h3⟩ := h
      rw [hR, her] at h1
      rw [hR] at h2
      exact ⟨v, g, h1, h2, h3⟩)
    clear hs2 hR her
    have x0 := HX1.out.cell 0
    have x1 := HX1.out.cell 1
    have x2 := HX1.out.cell 2
    have x3 := HX1.out.cell 3
    have y0 := HY1.out.cell 0
    have y1 := HY1.out.cell 1
    go_wp2_with fail
    refine (make_any _ _ _ _ S SOK.out g l _ rt th _ W1 (HT.out.below HB1.out) (HSP.out.later HB1.out) (by omega) (HRE.out.l.later HB1.out) HRE.out.cap (by omega) (HPA.out.th.later HB1.out) HPA.out.ct).mono ?_
    intro e W2 hmk
    obtain ⟨v6, g6, rfl, hrd, hb2⟩ := HMK.out hmk
    obtain ⟨ra, rcp, rfl⟩ := hrd.form
    obtain ⟨rn, hrn⟩ : ∃ rn, R.rows.length = rn := ⟨_, rfl⟩
    have HRN := Lib.hid hrn
    rw [hrn] at hrd ⊢
    have HR2 := Lib.hid (hrd.later ((Below.refl _ W2).alloc (Nat.le_refl _) (.cells #[.int .i64 R.tracks, .slice ra rn rcp] 36)))
    have HB2 := Lib.hid (below_step (below_step HB1.out hb2) ((Below.refl _ W2).alloc (Nat.le_refl _) (.cells #[.int .i64 R.tracks, .slice ra rn rcp] 36)))
    have HX2 := Lib.hid ((HX1.out.below hb2).alloc (.cells #[.int .i64 R.tracks, .slice ra rn rcp] 36))
    have HY2 := Lib.hid ((HY1.out.below hb2).alloc (.cells #[.int .i64 R.tracks, .slice ra rn rcp] 36))
    have HA2 := Lib.hid (Blk.new W2 36 #[.int .i64 R.tracks, .slice ra rn rcp])
    clear hmk hrd hb2 x0 x1 x2 x3 y0 y1 HX1 HY1 HB1 hrn
    go_upto_region 4 with fail
    obtain ⟨A, hA⟩ : ∃ A, W2.heap.size = A := ⟨_, rfl⟩
    rw [hA] at HA2 ⊢
    generalize W2.alloc (.cells #[.int .i64 R.tracks, .slice ra rn rcp] 36) = W3 at *
    clear hA
    have x0 := HX2.out.cell 0
    have x1 := HX2.out.cell 1
    have x2 := HX2.out.cell 2
    have x3 := HX2.out.cell 3
    have y0 := HY2.out.cell 0
    have y1 := HY2.out.cell 1
    go_wp2_with fail
    refine (rmake_any _ _ _ _ S SOK.out g l _ rt th _ W3 (HSP.out.later HB2.out) (by omega) (HRE.out.l.later HB2.out) (by omega) (HPA.out.th.later HB2.out)).mono ?_
    intro e W4 hmk
    obtain ⟨v7, g7, rfl, hrd, hb4⟩ := HMK.out hmk
    obtain ⟨sa, scp, rfl⟩ := hrd.form
    rw [HRN.out] at hrd ⊢
    have hal : Below W4.heap.size W4 (W4.alloc (.cells #[.int .i64 R.tracks, .slice sa rn scp] 36)) := (Below.refl _ W4).alloc (Nat.le_refl _) _
    have HR4 := Lib.hid (hrd.later hal)
    have HQ4 := Lib.hid ((HR2.out.later hb4).later hal)
    have HB4 := Lib.hid (below_step (below_step HB2.out hb4) hal)
    have HX4 := Lib.hid ((HX2.out.below hb4).alloc (.cells #[.int .i64 R.tracks, .slice sa rn scp] 36))
    have HY4 := Lib.hid ((HY2.out.below hb4).alloc (.cells #[.int .i64 R.tracks, .slice sa rn scp] 36))
    have HA4 := Lib.hid ((HA2.out.below hb4).alloc (.cells #[.int .i64 R.tracks, .slice sa rn scp] 36))
    have HC4 := Lib.hid (Blk.new W4 36 #[.int .i64 R.tracks, .slice sa rn scp])
    clear hmk hrd hb4 hal x0 x1 x2 x3 y0 y1 HX2 HY2 HA2 HB2 HR2 HMK
    obtain ⟨sc, hsc⟩ : ∃ sc, scE S rt th = sc := ⟨_, rfl⟩
    have HSC := Lib.hid hsc
    clear hsc
    go_upto_region 5 with fail
    obtain ⟨C, hC⟩ : ∃ C, W4.heap.size = C := ⟨_, rfl⟩
    rw [hC] at HC4 ⊢
    generalize W4.alloc (.cells #[.int .i64 R.tracks, .slice sa rn scp] 36) = W5 at *
    clear hC
    have hmxx : Tryz.prog.follows .mixedOrders = true := by kernel_rfl
    refine wp_plain (wp_region_flow (fun x => { tmps := #[.agg #[.slice e1 d1 n1, .slice e2 d2 n2, .slice e3 d3 n3, .slice e4 d4 n4], .slice la l.length lc, .agg #[.int .i64 rt, .slice ta th.length tc], .pointer (some ⟨w.heap.size, 0, none⟩), undef, .pointer (some ⟨w.heap.size + 1, 0, none⟩), (x 6), .pointer (some ⟨A, 0, none⟩), .int .i64 er, .pointer (some ⟨C, 0, none⟩), .int .i64 er, .agg #[.slice e1 d1 n1, .slice e2 d2 n2, .slice e3 d3 n3, .slice e4 d4 n4], .slice la l.length lc, .agg #[.int .i64 rt, .slice ta th.length tc], .bool false, undef, .tuple #[.agg #[.int .i64 R.tracks, .slice ra rn rcp], .int .i64 er], .agg #[.slice e1 d1 n1, .slice e2 d2 n2, .slice e3 d3 n3, .slice e4 d4 n4], .slice la l.length lc, .agg #[.int .i64 rt, .slice ta th.length tc], .tuple #[.agg #[.int .i64 R.tracks, .slice ra rn rcp], .int .i64 er], .agg #[.int .i64 R.tracks, .slice ra rn rcp], .int .i64 er, .tuple #[.agg #[.int .i64 R.tracks, .slice sa rn scp], .int .i64 er], .agg #[.slice e1 d1 n1, .slice e2 d2 n2, .slice e3 d3 n3, .slice e4 d4 n4], .slice la l.length lc, .agg #[.int .i64 rt, .slice ta th.length tc], .tuple #[.agg #[.int .i64 R.tracks, .slice sa rn scp], .int .i64 er], .agg #[.int .i64 R.tracks, .slice sa rn scp], .int .i64 er, (x 30), (x 31), (x 32), (x 33), (x 34), (x 35), (x 36), (x 37), (x 38), (x 39), (x 40), (x 41), (x 42), (x 43), (x 44), (x 45), (x 46), (x 47), (x 48), (x 49)], defers := [] }) (fun i v z => match i with
      | 0 => v = .agg #[.slice e1 d1 n1, .slice e2 d2 n2, .slice e3 d3 n3, .slice e4 d4 n4]
      | 1 => v = .agg #[.int .i64 rt, .slice ta th.length tc]
      | 2 => v = .int .i64 sc
      | 3 => v = .agg #[.slice e1 d1 n1, .slice e2 d2 n2, .slice e3 d3 n3, .slice e4 d4 n4]
      | 4 => v = .agg #[.int .i64 rt, .slice ta th.length tc]
      | 5 => v = .int .i64 sc
      | 6 => v = .bool true
      | 7 => v = .bool true
      | 8 => v = .agg #[.int .i64 R.tracks, .slice ra rn rcp]
      | 9 => v = .agg #[.int .i64 R.tracks, .slice sa rn scp]
      | 10 => v = .bool true
      | 11 => v = .bool true
      | 12 => v = .bool true
      | 13 => v = .int .i64 er
      | 14 => v = .int .i64 er
      | 15 => v = .bool true
      | 16 => v = .bool true
      | 17 => v = .bool true
      | 18 => v = .bool true
      | 19 => v = .bool true
      | 20 => v = .bool true
      | _ => True) (fun n => (#[.agg #[.slice e1 d1 n1, .slice e2 d2 n2, .slice e3 d3 n3, .slice e4 d4 n4], .slice la l.length lc, .agg #[.int .i64 rt, .slice ta th.length tc], .pointer (some ⟨w.heap.size, 0, none⟩), undef, .pointer (some ⟨w.heap.size + 1, 0, none⟩), .bool false, .pointer (some ⟨A, 0, none⟩), .int .i64 er, .pointer (some ⟨C, 0, none⟩), .int .i64 er, .agg #[.slice e1 d1 n1, .slice e2 d2 n2, .slice e3 d3 n3, .slice e4 d4 n4], .slice la l.length lc, .agg #[.int .i64 rt, .slice ta th.length tc], .bool false, undef, .tuple #[.agg #[.int .i64 R.tracks, .slice ra rn rcp], .int .i64 er], .agg #[.slice e1 d1 n1, .slice e2 d2 n2, .slice e3 d3 n3, .slice e4 d4 n4], .slice la l.length lc, .agg #[.int .i64 rt, .slice ta th.length tc], .tuple #[.agg #[.int .i64 R.tracks, .slice ra rn rcp], .int .i64 er], .agg #[.int .i64 R.tracks, .slice ra rn rcp], .int .i64 er, .tuple #[.agg #[.int .i64 R.tracks, .slice sa rn scp], .int .i64 er], .agg #[.slice e1 d1 n1, .slice e2 d2 n2, .slice e3 d3 n3, .slice e4 d4 n4], .slice la l.length lc, .agg #[.int .i64 rt, .slice ta th.length tc], .tuple #[.agg #[.int .i64 R.tracks, .slice sa rn scp], .int .i64 er], .agg #[.int .i64 R.tracks, .slice sa rn scp], .int .i64 er, undef, undef, undef, undef, undef, undef, undef, undef, undef, undef, undef, undef, undef, undef, undef, undef, undef, undef, undef, undef] : Array Value).getD n undef) rfl hmxx (by kernel_rfl) (by kernel_rfl) ?mono ?put ?step ?done)
    case mono =>
      intro i v z z' h hb
      match i, h with
      | 0, h => exact h
      | 1, h => exact h
      | 2, h => exact h
      | 3, h => exact h
      | 4, h => exact h
      | 5, h => exact h
      | 6, h => exact h
      | 7, h => exact h
      | 8, h => exact h
      | 9, h => exact h
      | 10, h => exact h
      | 11, h => exact h
      | 12, h => exact h
      | 13, h => exact h
      | 14, h => exact h
      | 15, h => exact h
      | 16, h => exact h
      | 17, h => exact h
      | 18, h => exact h
      | 19, h => exact h
      | 20, h => exact h
      | _ + 21, _ => trivial
    case put =>
      intro i o d ho hd x v
      match i, ho with
      | 0, ho => obtain rfl := Option.some.inj (show some _ = some o from ho); obtain rfl := Option.some.inj (show some _ = some d from hd); rfl
      | 1, ho => obtain rfl := Option.some.inj (show some _ = some o from ho); obtain rfl := Option.some.inj (show some _ = some d from hd); rfl
      | 2, ho => obtain rfl := Option.some.inj (show some _ = some o from ho); obtain rfl := Option.some.inj (show some _ = some d from hd); rfl
      | 3, ho => obtain rfl := Option.some.inj (show some _ = some o from ho); obtain rfl := Option.some.inj (show some _ = some d from hd); rfl
      | 4, ho => obtain rfl := Option.some.inj (show some _ = some o from ho); obtain rfl := Option.some.inj (show some _ = some d from hd); rfl
      | 5, ho => obtain rfl := Option.some.inj (show some _ = some o from ho); obtain rfl := Option.some.inj (show some _ = some d from hd); rfl
      | 6, ho => obtain rfl := Option.some.inj (show some _ = some o from ho); obtain rfl := Option.some.inj (show some _ = some d from hd); rfl
      | 7, ho => obtain rfl := Option.some.inj (show some _ = some o from ho); obtain rfl := Option.some.inj (show some _ = some d from hd); rfl
      | 8, ho => obtain rfl := Option.some.inj (show some _ = some o from ho); obtain rfl := Option.some.inj (show some _ = some d from hd); rfl
      | 9, ho => obtain rfl := Option.some.inj (show some _ = some o from ho); obtain rfl := Option.some.inj (show some _ = some d from hd); rfl
      | 10, ho => obtain rfl := Option.some.inj (show some _ = some o from ho); obtain rfl := Option.some.inj (show some _ = some d from hd); rfl
      | 11, ho => obtain rfl := Option.some.inj (show some _ = some o from ho); obtain rfl := Option.some.inj (show some _ = some d from hd); rfl
      | 12, ho => obtain rfl := Option.some.inj (show some _ = some o from ho); obtain rfl := Option.some.inj (show some _ = some d from hd); rfl
      | 13, ho => obtain rfl := Option.some.inj (show some _ = some o from ho); obtain rfl := Option.some.inj (show some _ = some d from hd); rfl
      | 14, ho => obtain rfl := Option.some.inj (show some _ = some o from ho); obtain rfl := Option.some.inj (show some _ = some d from hd); rfl
      | 15, ho => obtain rfl := Option.some.inj (show some _ = some o from ho); obtain rfl := Option.some.inj (show some _ = some d from hd); rfl
      | 16, ho => obtain rfl := Option.some.inj (show some _ = some o from ho); obtain rfl := Option.some.inj (show some _ = some d from hd); rfl
      | 17, ho => obtain rfl := Option.some.inj (show some _ = some o from ho); obtain rfl := Option.some.inj (show some _ = some d from hd); rfl
      | 18, ho => obtain rfl := Option.some.inj (show some _ = some o from ho); obtain rfl := Option.some.inj (show some _ = some d from hd); rfl
      | 19, ho => obtain rfl := Option.some.inj (show some _ = some o from ho); obtain rfl := Option.some.inj (show some _ = some d from hd); rfl
      | 20, ho => obtain rfl := Option.some.inj (show some _ = some o from ho); obtain rfl := Option.some.inj (show some _ = some d from hd); rfl
      | n + 21, ho => exact absurd (Array.getElem?_eq_some_iff.1 ho).1 (by simp)
    case step =>
      intro i o ho x z hz hdep K hK
      match i, ho with
      | 0, ho =>
        obtain rfl := Option.some.inj (show some _ = some o from ho)
        clear hdep ho
        dsimp only at hK ⊢
        have x0 : z.cell? ⟨w.heap.size, 0, none⟩ = some (.slice e1 d1 n1) := (HX4.out.below hz).cell 0
        have x1 : z.cell? ⟨w.heap.size, 1, none⟩ = some (.slice e2 d2 n2) := (HX4.out.below hz).cell 1
        have x2 : z.cell? ⟨w.heap.size, 2, none⟩ = some (.slice e3 d3 n3) := (HX4.out.below hz).cell 2
        have x3 : z.cell? ⟨w.heap.size, 3, none⟩ = some (.slice e4 d4 n4) := (HX4.out.below hz).cell 3
        refine wpOp_step rfl (fun K2 hK2 => ?_)
        go_simp
        exact hK2 _ _ (hK _ _ (Below.refl _ _) rfl)
      | 1, ho =>
        obtain rfl := Option.some.inj (show some _ = some o from ho)
        clear hdep ho
        dsimp only at hK ⊢
        have y0 : z.cell? ⟨w.heap.size + 1, 0, none⟩ = some (.int .i64 rt) := (HY4.out.below hz).cell 0
        have y1 : z.cell? ⟨w.heap.size + 1, 1, none⟩ = some (.slice ta th.length tc) := (HY4.out.below hz).cell 1
        refine wpOp_step rfl (fun K2 hK2 => ?_)
        go_simp
        exact hK2 _ _ (hK _ _ (Below.refl _ _) rfl)
      | 2, ho =>
        obtain rfl := Option.some.inj (show some _ = some o from ho)
        have q0 : x 30 = .agg #[.slice e1 d1 n1, .slice e2 d2 n2, .slice e3 d3 n3, .slice e4 d4 n4] := hdep 0 (by kernel_rfl) _ _ rfl rfl
        have q1 : x 31 = .agg #[.int .i64 rt, .slice ta th.length tc] := hdep 1 (by kernel_rfl) _ _ rfl rfl
        clear hdep ho
        dsimp only at hK ⊢
        simp only [q0, q1] at hK ⊢
        refine wpOp_step rfl (fun K2 hK2 => ?_)
        go_simp
        refine (scale_any _ _ _ _ S SOK.out g rt th _ z (HT.out.below (below_step HB4.out hz)) (HSP.out.later (below_step HB4.out hz)) (by omega) (HPA.out.th.later (below_step HB4.out hz)) HPA.out.ct).mono ?_
        rintro e z1 ⟨rfl, hb⟩
        exact hK2 _ _ (hK _ _ hb (by rw [HSC.out]))
      | 3, ho =>
        obtain rfl := Option.some.inj (show some _ = some o from ho)
        clear hdep ho
        dsimp only at hK ⊢
        have x0 : z.cell? ⟨w.heap.size, 0, none⟩ = some (.slice e1 d1 n1) := (HX4.out.below hz).cell 0
        have x1 : z.cell? ⟨w.heap.size, 1, none⟩ = some (.slice e2 d2 n2) := (HX4.out.below hz).cell 1
        have x2 : z.cell? ⟨w.heap.size, 2, none⟩ = some (.slice e3 d3 n3) := (HX4.out.below hz).cell 2
        have x3 : z.cell? ⟨w.heap.size, 3, none⟩ = some (.slice e4 d4 n4) := (HX4.out.below hz).cell 3
        refine wpOp_step rfl (fun K2 hK2 => ?_)
        go_simp
        exact hK2 _ _ (hK _ _ (Below.refl _ _) rfl)
      | 4, ho =>
        obtain rfl := Option.some.inj (show some _ = some o from ho)
        clear hdep ho
        dsimp only at hK ⊢
        have y0 : z.cell? ⟨w.heap.size + 1, 0, none⟩ = some (.int .i64 rt) := (HY4.out.below hz).cell 0
        have y1 : z.cell? ⟨w.heap.size + 1, 1, none⟩ = some (.slice ta th.length tc) := (HY4.out.below hz).cell 1
        refine wpOp_step rfl (fun K2 hK2 => ?_)
        go_simp
        exact hK2 _ _ (hK _ _ (Below.refl _ _) rfl)
      | 5, ho =>
        obtain rfl := Option.some.inj (show some _ = some o from ho)
        have q3 : x 33 = .agg #[.slice e1 d1 n1, .slice e2 d2 n2, .slice e3 d3 n3, .slice e4 d4 n4] := hdep 3 (by kernel_rfl) _ _ rfl rfl
        have q4 : x 34 = .agg #[.int .i64 rt, .slice ta th.length tc] := hdep 4 (by kernel_rfl) _ _ rfl rfl
        clear hdep ho
        dsimp only at hK ⊢
        simp only [q3, q4] at hK ⊢
        refine wpOp_step rfl (fun K2 hK2 => ?_)
        go_simp
        refine (rscale_any _ _ _ _ S SOK.out g rt th _ z (HSP.out.later (below_step HB4.out hz)) (by omega) (HPA.out.th.later (below_step HB4.out hz))).mono ?_
        rintro e z1 ⟨rfl, hb⟩
        exact hK2 _ _ (hK _ _ hb (by rw [HSC.out]))
      | 6, ho =>
        obtain rfl := Option.some.inj (show some _ = some o from ho)
        have q2 : x 32 = .int .i64 sc := hdep 2 (by kernel_rfl) _ _ rfl rfl
        have q5 : x 35 = .int .i64 sc := hdep 5 (by kernel_rfl) _ _ rfl rfl
        clear hdep ho
        dsimp only at hK ⊢
        simp only [q2, q5] at hK ⊢
        refine wpOp_step rfl (fun K2 hK2 => ?_)
        go_simp
        exact hK2 _ _ (hK _ _ (Below.refl _ _) rfl)
      | 7, ho =>
        obtain rfl := Option.some.inj (show some _ = some o from ho)
        have q6 : x 36 = .bool true := hdep 6 (by kernel_rfl) _ _ rfl rfl
        clear hdep ho
        dsimp only at hK ⊢
        simp only [q6] at hK ⊢
        refine wpOp_step rfl (fun K2 hK2 => ?_)
        go_simp
        exact hK2 _ _ (hK _ _ (Below.refl _ _) rfl)
      | 8, ho =>
        obtain rfl := Option.some.inj (show some _ = some o from ho)
        have q7 : x 37 = .bool true := hdep 7 (by kernel_rfl) _ _ rfl rfl
        clear hdep ho
        dsimp only at hK ⊢
        simp only [q7] at hK ⊢
        have a0 : z.cell? ⟨A, 0, none⟩ = some (.int .i64 R.tracks) := (HA4.out.below hz).cell 0
        have a1 : z.cell? ⟨A, 1, none⟩ = some (.slice ra rn rcp) := (HA4.out.below hz).cell 1
        refine wpOp_step rfl (fun K2 hK2 => ?_)
        go_simp
        exact hK2 _ _ (hK _ _ (Below.refl _ _) rfl)
      | 9, ho =>
        obtain rfl := Option.some.inj (show some _ = some o from ho)
        have q7 : x 37 = .bool true := hdep 7 (by kernel_rfl) _ _ rfl rfl
        clear hdep ho
        dsimp only at hK ⊢
        simp only [q7] at hK ⊢
        have a0 : z.cell? ⟨C, 0, none⟩ = some (.int .i64 R.tracks) := (HC4.out.below hz).cell 0
        have a1 : z.cell? ⟨C, 1, none⟩ = some (.slice sa rn scp) := (HC4.out.below hz).cell 1
        refine wpOp_step rfl (fun K2 hK2 => ?_)
        go_simp
        exact hK2 _ _ (hK _ _ (Below.refl _ _) rfl)
      | 10, ho =>
        obtain rfl := Option.some.inj (show some _ = some o from ho)
        have q7 : x 37 = .bool true := hdep 7 (by kernel_rfl) _ _ rfl rfl
        have q8 : x 38 = .agg #[.int .i64 R.tracks, .slice ra rn rcp] := hdep 8 (by kernel_rfl) _ _ rfl rfl
        have q9 : x 39 = .agg #[.int .i64 R.tracks, .slice sa rn scp] := hdep 9 (by kernel_rfl) _ _ rfl rfl
        clear hdep ho
        dsimp only at hK ⊢
        simp only [q7, q8, q9] at hK ⊢
        refine wpOp_step rfl (fun K2 hK2 => ?_)
        go_simp
        refine (same_rolls R hs1 HS2.out _ _ _ _ z (HQ4.out.later hz) (HR4.out.later hz)).mono ?_
        rintro e z1 ⟨rfl, hb⟩
        exact hK2 _ _ (hK _ _ hb rfl)
      | 11, ho =>
        obtain rfl := Option.some.inj (show some _ = some o from ho)
        have q7 : x 37 = .bool true := hdep 7 (by kernel_rfl) _ _ rfl rfl
        have q10 : x 40 = .bool true := hdep 10 (by kernel_rfl) _ _ rfl rfl
        clear hdep ho
        dsimp only at hK ⊢
        simp only [q7, q10] at hK ⊢
        refine wpOp_step rfl (fun K2 hK2 => ?_)
        go_simp
        exact hK2 _ _ (hK _ _ (Below.refl _ _) rfl)
      | 12, ho =>
        obtain rfl := Option.some.inj (show some _ = some o from ho)
        have q11 : x 41 = .bool true := hdep 11 (by kernel_rfl) _ _ rfl rfl
        clear hdep ho
        dsimp only at hK ⊢
        simp only [q11] at hK ⊢
        refine wpOp_step rfl (fun K2 hK2 => ?_)
        go_simp
        exact hK2 _ _ (hK _ _ (Below.refl _ _) rfl)
      | 13, ho =>
        obtain rfl := Option.some.inj (show some _ = some o from ho)
        have q12 : x 42 = .bool true := hdep 12 (by kernel_rfl) _ _ rfl rfl
        clear hdep ho
        dsimp only at hK ⊢
        simp only [q12] at hK ⊢
        refine wpOp_step rfl (fun K2 hK2 => ?_)
        go_simp
        exact hK2 _ _ (hK _ _ (Below.refl _ _) rfl)
      | 14, ho =>
        obtain rfl := Option.some.inj (show some _ = some o from ho)
        have q12 : x 42 = .bool true := hdep 12 (by kernel_rfl) _ _ rfl rfl
        clear hdep ho
        dsimp only at hK ⊢
        simp only [q12] at hK ⊢
        refine wpOp_step rfl (fun K2 hK2 => ?_)
        go_simp
        exact hK2 _ _ (hK _ _ (Below.refl _ _) rfl)
      | 15, ho =>
        obtain rfl := Option.some.inj (show some _ = some o from ho)
        have q12 : x 42 = .bool true := hdep 12 (by kernel_rfl) _ _ rfl rfl
        have q13 : x 43 = .int .i64 er := hdep 13 (by kernel_rfl) _ _ rfl rfl
        have q14 : x 44 = .int .i64 er := hdep 14 (by kernel_rfl) _ _ rfl rfl
        clear hdep ho
        dsimp only at hK ⊢
        simp only [q12, q13, q14] at hK ⊢
        refine wpOp_step rfl (fun K2 hK2 => ?_)
        go_simp
        exact hK2 _ _ (hK _ _ (Below.refl _ _) rfl)
      | 16, ho =>
        obtain rfl := Option.some.inj (show some _ = some o from ho)
        have q12 : x 42 = .bool true := hdep 12 (by kernel_rfl) _ _ rfl rfl
        have q15 : x 45 = .bool true := hdep 15 (by kernel_rfl) _ _ rfl rfl
        clear hdep ho
        dsimp only at hK ⊢
        simp only [q12, q15] at hK ⊢
        refine wpOp_step rfl (fun K2 hK2 => ?_)
        go_simp
        exact hK2 _ _ (hK _ _ (Below.refl _ _) rfl)
      | 17, ho =>
        obtain rfl := Option.some.inj (show some _ = some o from ho)
        have q16 : x 46 = .bool true := hdep 16 (by kernel_rfl) _ _ rfl rfl
        clear hdep ho
        dsimp only at hK ⊢
        simp only [q16] at hK ⊢
        refine wpOp_step rfl (fun K2 hK2 => ?_)
        go_simp
        exact hK2 _ _ (hK _ _ (Below.refl _ _) rfl)
      | 18, ho =>
        obtain rfl := Option.some.inj (show some _ = some o from ho)
        have q17 : x 47 = .bool true := hdep 17 (by kernel_rfl) _ _ rfl rfl
        clear hdep ho
        dsimp only at hK ⊢
        simp only [q17] at hK ⊢
        refine wpOp_step rfl (fun K2 hK2 => ?_)
        go_simp
        refine (shown32_any z (HT.out.below (below_step HB4.out hz))).mono ?_
        rintro e z1 ⟨rfl, hb⟩
        exact hK2 _ _ (hK _ _ hb rfl)
      | 19, ho =>
        obtain rfl := Option.some.inj (show some _ = some o from ho)
        have q17 : x 47 = .bool true := hdep 17 (by kernel_rfl) _ _ rfl rfl
        have q18 : x 48 = .bool true := hdep 18 (by kernel_rfl) _ _ rfl rfl
        clear hdep ho
        dsimp only at hK ⊢
        simp only [q17, q18] at hK ⊢
        refine wpOp_step rfl (fun K2 hK2 => ?_)
        go_simp
        exact hK2 _ _ (hK _ _ (Below.refl _ _) rfl)
      | 20, ho =>
        obtain rfl := Option.some.inj (show some _ = some o from ho)
        have q19 : x 49 = .bool true := hdep 19 (by kernel_rfl) _ _ rfl rfl
        clear hdep ho
        dsimp only at hK ⊢
        simp only [q19] at hK ⊢
        refine wpOp_step rfl (fun K2 hK2 => ?_)
        go_simp
        exact hK2 _ _ (hK _ _ (Below.refl _ _) rfl)
      | n + 21, ho => exact absurd (Array.getElem?_eq_some_iff.1 ho).1 (by simp)
    case done =>
      intro x z hz hres
      have q20 : x 6 = .bool true := hres 20 _ _ rfl rfl
      have HZ := Lib.hid (below_step HB4.out hz)
      clear hres hz
      dsimp only
      simp only [q20]
      go_wp2
      go_ret
      exact ⟨rfl, HZ.out⟩
end Go.Proofs.YtppccacfdpkkgaaGreatDoor
