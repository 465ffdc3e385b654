/-
  THE LAW RollsRead: the walk.
-/
import Derived.Test.YtppccacfdpkkgaaGreatDoorL3
import Derived.Test.YtppccacfdpkkgaaGreatDoorK32
import Derived.Test.YtppccacfdpkkgaaGreatDoorK36
import Derived.Test.YtppccacfdpkkgaaGreatDoorOpenH
import Derived.Deep.QuietTactic
import Derived.BigQuiet
namespace Go.Proofs.YtppccacfdpkkgaaGreatDoor
open Go.RowKit
theorem readP_short {S : Sp} {R : Ro} {rt : Int} {th : List Th} {least gap : Int} {m : List Ev} {c : Int} (h : ReadP S R rt th least gap m c) : m.length ≤ 1000000 := by
  rcases h with ⟨_, rfl, _⟩ | ⟨_, ⟨_, rfl, _⟩ | ⟨h1, h2, _, _⟩⟩
  · exact Nat.zero_le _
  · exact Nat.zero_le _
  · rw [h2.length_eq]; omega
set_option maxRecDepth 100000 in
set_option maxHeartbeats 12800000 in
theorem rollsRead_walk (v1 v2 v3 v4 : Value) (S : Sp) (R : Ro) (v : Value) (f : Nat → Value) (hB : RoB R) (rt le gp : Int) (th : List Th) (vt : Value) (w : World) (t : Tabs w) (g : Nat → Value) (hsp : SpRd w v1 v2 v3 v4 g S) (hr : RoRd w v f R) (hp : HoB w th vt) :
    Calls Tryz.prog 4 #[.agg #[v1, v2, v3, v4], .agg #[.int .i64 R.tracks, v], .agg #[.int .i64 rt, vt, .int .i64 le, .int .i64 gp]] w fun e w' => e = .returned (.bool true) ∧ Below w.heap.size w w' := by
  have hn := hB.n
  obtain ⟨⟨e1, n1, rfl⟩, ⟨e2, n2, rfl⟩, ⟨e3, n3, rfl⟩, ⟨e4, n4, rfl⟩⟩ := hsp.forms
  obtain ⟨av, cv, rfl⟩ := hr.form
  obtain ⟨ta, tc, rfl⟩ := hp.th.thForm
  obtain ⟨d1, hd1⟩ : ∃ d1, S.ds.length = d1 := ⟨_, rfl⟩
  obtain ⟨d2, hd2⟩ : ∃ d2, S.rs.length = d2 := ⟨_, rfl⟩
  obtain ⟨d3, hd3⟩ : ∃ d3, S.ss.length = d3 := ⟨_, rfl⟩
  obtain ⟨d4, hd4⟩ : ∃ d4, S.cs.length = d4 := ⟨_, rfl⟩
  rw [hd1, hd2, hd3, hd4] at hsp ⊢
  have hb0 : Below w.heap.size w (((w.alloc (.cells #[.slice e1 d1 n1, .slice e2 d2 n2, .slice e3 d3 n3, .slice e4 d4 n4] 27)).alloc (.cells #[.int .i64 R.tracks, .slice av R.rows.length cv] 36)).alloc (.cells #[.int .i64 rt, .slice ta th.length tc, .int .i64 le, .int .i64 gp] 45)) := (((Below.refl w.heap.size w).alloc (Nat.le_refl _) _).alloc (by simp) _).alloc (by simp; omega) _
  have k1 := ((Blk.new w 27 #[.slice e1 d1 n1, .slice e2 d2 n2, .slice e3 d3 n3, .slice e4 d4 n4]).alloc (.cells #[.int .i64 R.tracks, .slice av R.rows.length cv] 36)).alloc (.cells #[.int .i64 rt, .slice ta th.length tc, .int .i64 le, .int .i64 gp] 45)
  have k2 := (Blk.new (w.alloc (.cells #[.slice e1 d1 n1, .slice e2 d2 n2, .slice e3 d3 n3, .slice e4 d4 n4] 27)) 36 #[.int .i64 R.tracks, .slice av R.rows.length cv]).alloc (.cells #[.int .i64 rt, .slice ta th.length tc, .int .i64 le, .int .i64 gp] 45)
  have k3 := Blk.new ((w.alloc (.cells #[.slice e1 d1 n1, .slice e2 d2 n2, .slice e3 d3 n3, .slice e4 d4 n4] 27)).alloc (.cells #[.int .i64 R.tracks, .slice av R.rows.length cv] 36)) 45 #[.int .i64 rt, .slice ta th.length tc, .int .i64 le, .int .i64 gp]
  rw [World.size_alloc] at k2
  rw [World.size_alloc, World.size_alloc] at k3
  have HR := Lib.hid hr
  have HSP := Lib.hid hsp
  have HPA := Lib.hid hp
  have HT := Lib.hid t
  have HB0 := Lib.hid hb0
  have HX0 := Lib.hid k1
  have HY0 := Lib.hid k2
  have HZ0 := Lib.hid k3
  have HL := Lib.hid hB.l
  clear hr t hb0 hB hsp hp k1 k2 k3 hd1 hd2 hd3 hd4
  go_enter Tryz.func4, Tryz.ntmps4
  go_upto_region 1 with fail
  generalize (((w.alloc (.cells #[.slice e1 d1 n1, .slice e2 d2 n2, .slice e3 d3 n3, .slice e4 d4 n4] 27)).alloc (.cells #[.int .i64 R.tracks, .slice av R.rows.length cv] 36)).alloc (.cells #[.int .i64 rt, .slice ta th.length tc, .int .i64 le, .int .i64 gp] 45)) = W0 at *
  have x0 := HY0.out.cell 0
  have x1 := HY0.out.cell 1
  go_cut [18] from 11 (fun x33 wx => ∃ bb : Bool, x33 = .bool bb ∧ RowKit.Hid (bb = false → RoOk R ∧ SpOk S ∧ th.length ≤ 200) ∧ RowKit.Hid (Below W0.heap.size W0 wx))
  case first =>
    go_wp2_with fail
    refine (far_roll R _ f hn HL.out _ (HR.out.later HB0.out)).mono ?_
    rintro e w1 ⟨q, rfl, hok, hb1⟩
    have HB1 := Lib.hid hb1
    cases q with
    | true =>
      clear hok hb1
      go_wp2
      go_meet
      exact ⟨true, rfl, Lib.hid (fun h => by cases h), HB1⟩
    | false =>
      have OK := Lib.hid (hok rfl)
      have y0 := (HX0.out.below hb1).cell 0
      have y1 := (HX0.out.below hb1).cell 1
      have y2 := (HX0.out.below hb1).cell 2
      have y3 := (HX0.out.below hb1).cell 3
      have y4 := (HZ0.out.below hb1).cell 0
      have y5 := (HZ0.out.below hb1).cell 1
      clear hok hb1
      go_wp2_with fail
      refine (deep_any _ _ _ _ S g rt th _ w1 (HSP.out.later (below_step HB0.out HB1.out)) (HPA.out.th.later (below_step HB0.out HB1.out))).mono ?_
      rintro e w2 ⟨q, rfl, hdk, hb2⟩
      have HB2 := Lib.hid (below_step HB1.out hb2)
      clear hb2 y0 y1 y2 y3 y4 y5
      cases q with
      | true =>
        clear hdk
        go_wp2
        go_meet
        exact ⟨true, rfl, Lib.hid (fun h => by cases h), HB2⟩
      | false =>
        have DK := Lib.hid (hdk rfl)
        clear hdk
        go_wp2
        go_meet
        exact ⟨false, rfl, Lib.hid (fun _ => ⟨OK.out, DK.out.1, DK.out.2⟩), HB2⟩
  case rest =>
    obtain ⟨bb, rfl, HOK, HBW⟩ := hcut
    rename World => w1
    have HB1 := Lib.hid (below_step HB0.out HBW.out)
    have HX1 := Lib.hid (HX0.out.below HBW.out)
    have HY1 := Lib.hid (HY0.out.below HBW.out)
    have HZ1 := Lib.hid (HZ0.out.below HBW.out)
    clear HB0 HX0 HY0 HZ0 x0 x1
    cases bb with
    | true =>
      go_wp2_with fail
      refine (shown32_any _ (HT.out.below HB1.out)).mono ?_
      rintro e w9 ⟨rfl, hb9⟩
      have HB9 := Lib.hid (below_step HB1.out hb9)
      clear hb9
      go_wp2
      go_ret
      exact ⟨rfl, HB9.out⟩
    | false =>
      obtain ⟨ok, sok, h200⟩ := HOK.out rfl
      have OK := Lib.hid ok
      have SOK := Lib.hid sok
      clear ok sok HOK
      have x0 := HX1.out.cell 0
      have x1 := HX1.out.cell 1
      have x2 := HX1.out.cell 2
      have x3 := HX1.out.cell 3
      have y0 := HY1.out.cell 0
      have y1 := HY1.out.cell 1
      have z0 := HZ1.out.cell 0
      have z1 := HZ1.out.cell 1
      have z2 := HZ1.out.cell 2
      have z3 := HZ1.out.cell 3
      go_wp2_with fail
      refine (read_any _ _ _ _ S SOK.out g R OK.out _ f rt th _ le gp w1 (HT.out.below HB1.out) (HSP.out.later HB1.out) (HR.out.later HB1.out) (by omega) (HPA.out.th.later HB1.out) HPA.out.ct).mono ?_
      rintro e w6 ⟨v6, ml, ce, rfl, hrp, ho6, hb6⟩
      have HRP := Lib.hid hrp
      have HB6 := Lib.hid (below_step HB1.out hb6)
      have HX6 := Lib.hid (HX1.out.below hb6)
      have HY6 := Lib.hid (HY1.out.below hb6)
      have HZ6 := Lib.hid (HZ1.out.below hb6)
      have HO6 := Lib.hid ho6
      clear hrp hb6 ho6 x0 x1 x2 x3 y0 y1 z0 z1 z2 z3
      have x0 := HX6.out.cell 0
      have x1 := HX6.out.cell 1
      have x2 := HX6.out.cell 2
      have x3 := HX6.out.cell 3
      have y0 := HY6.out.cell 0
      have y1 := HY6.out.cell 1
      have z0 := HZ6.out.cell 0
      have z1 := HZ6.out.cell 1
      have z2 := HZ6.out.cell 2
      have z3 := HZ6.out.cell 3
      go_wp2_with fail
      refine (rread_any _ _ _ _ S SOK.out g R OK.out _ f rt th _ le gp w6 (HSP.out.later HB6.out) (HR.out.later HB6.out) (by omega) (HPA.out.th.later HB6.out)).mono ?_
      rintro e w7 ⟨v7, ml2, ce2, rfl, hrp2, ho7, hb7⟩
      obtain ⟨hml, hce⟩ := HRP.out.one hrp2
      have hms := readP_short hrp2
      subst hml
      subst hce
      have HB7 := Lib.hid (below_step HB6.out hb7)
      have HO7 := Lib.hid (HO6.out.later hb7)
      have HN7 := Lib.hid ho7
      clear hrp2 hb7 ho7 x0 x1 x2 x3 y0 y1 z0 z1 z2 z3 HRP
      go_wp2_with fail
      refine (same_events ml _ _ w7 HO7.out HN7.out hms).mono ?_
      rintro e w8 ⟨rfl, n8, hw8⟩
      have HB8 := Lib.hid (show Below w.heap.size w w8 by rw [hw8]; exact below_drewN HB7.out n8)
      clear hw8
      go_wp2_with fail
      refine (shown32_any w8 (HT.out.below HB8.out)).mono ?_
      rintro e w9 ⟨rfl, hb9⟩
      have HB9 := Lib.hid (below_step HB8.out hb9)
      clear hb9
      go_wp2
      go_ret
      exact ⟨rfl, HB9.out⟩
end Go.Proofs.YtppccacfdpkkgaaGreatDoor
