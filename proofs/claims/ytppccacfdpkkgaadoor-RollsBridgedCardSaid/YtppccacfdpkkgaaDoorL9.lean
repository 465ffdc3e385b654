/-
  THE LAW RollsBridged: the walk.
-/
import Derived.Test.YtppccacfdpkkgaaDoorL3
import Derived.Test.YtppccacfdpkkgaaDoorNB
import Derived.Test.YtppccacfdpkkgaaDoorK32
import Derived.Test.YtppccacfdpkkgaaDoorOpenP
import Derived.Deep.QuietTactic
import Derived.BigQuiet
namespace Go.Proofs.YtppccacfdpkkgaaDoor
open Go.RowKit
theorem readP_short {S : Sp} {R : Ro} {rt : Int} {th : List Th} {least gap : Int} {m : List Ev} {c : Int} (h : ReadP S R rt th least gap m c) : m.length ≤ 1000000 := by
  rcases h with ⟨_, rfl, _⟩ | ⟨_, ⟨_, rfl, _⟩ | ⟨h1, h2, _, _⟩⟩
  · exact Nat.zero_le _
  · exact Nat.zero_le _
  · rw [h2.length_eq]; omega
theorem brk_ok {R : Ro} {m w k : Nat} (h : RoOk R) (ht : R.tracks ≤ 128) : RoOk (brRo R m w k) := by
  refine ⟨by show (brRows R m w k).length ≤ _; rw [brRows_len]; exact h.len, fun _ l hl => ?_⟩
  obtain ⟨i, _, rfl⟩ := List.mem_map.1 (show l ∈ (List.range R.rows.length).map (brRow R m w k) from hl)
  have := told_len (brF R m w k i) R.tracks.toNat
  unfold brRow
  omega
theorem mem_take_next {l : List Int} {k : Nat} (hk : k < l.length) {q : Int} (hq : l[k] = q) {t : Int} : decide (t ∈ l.take (k + 1)) = (decide (t ∈ l.take k) || decide (q = t)) := by
  rw [List.take_add_one, List.getElem?_eq_getElem hk, hq, ← Bool.decide_or]
  exact decide_eq_decide.2 (by simp [eq_comm])
set_option maxRecDepth 100000 in
set_option maxHeartbeats 12800000 in
theorem rollsBridged_walk (v1 v2 v3 v4 : Value) (S : Sp) (R : Ro) (v : Value) (f : Nat → Value) (hB : RoB R) (a b c rt : Int) (th : List Th) (vt : Value) (w : World) (t : Tabs w) (g : Nat → Value) (hsp : SpRd w v1 v2 v3 v4 g S) (hr : RoRd w v f R) (hp : PaB w a b c rt th vt) :
    Calls Tryd.prog 5 #[.agg #[v1, v2, v3, v4], .agg #[.int .i64 R.tracks, v], .agg #[.int .u8 a, .int .u8 b, .int .u8 c, .int .i64 rt, vt]] w fun e w' => e = .returned (.bool true) ∧ Below w.heap.size w w' := by
  have hn := hB.n
  obtain ⟨⟨e1, n1, rfl⟩, ⟨e2, n2, rfl⟩, ⟨e3, n3, rfl⟩, ⟨e4, n4, rfl⟩⟩ := hsp.forms
  obtain ⟨av, cv, rfl⟩ := hr.form
  obtain ⟨ta, tc, rfl⟩ := hp.th.thForm
  obtain ⟨d1, hd1⟩ : ∃ d1, S.ds.length = d1 := ⟨_, rfl⟩
  obtain ⟨d2, hd2⟩ : ∃ d2, S.rs.length = d2 := ⟨_, rfl⟩
  obtain ⟨d3, hd3⟩ : ∃ d3, S.ss.length = d3 := ⟨_, rfl⟩
  obtain ⟨d4, hd4⟩ : ∃ d4, S.cs.length = d4 := ⟨_, rfl⟩
  rw [hd1, hd2, hd3, hd4] at hsp ⊢
  have ha0 := hp.a0
  have hb0' := hp.b0
  have hc0 := hp.c0
  have ha1 := hp.a1
  have hb1' := hp.b1
  have hc1 := hp.c1
  have hb0 : Below w.heap.size w (((w.alloc (.cells #[.slice e1 d1 n1, .slice e2 d2 n2, .slice e3 d3 n3, .slice e4 d4 n4] 43)).alloc (.cells #[.int .i64 R.tracks, .slice av R.rows.length cv] 24)).alloc (.cells #[.int .u8 a, .int .u8 b, .int .u8 c, .int .i64 rt, .slice ta th.length tc] 48)) := (((Below.refl w.heap.size w).alloc (Nat.le_refl _) _).alloc (by simp) _).alloc (by simp; omega) _
  have k1 := ((Blk.new w 43 #[.slice e1 d1 n1, .slice e2 d2 n2, .slice e3 d3 n3, .slice e4 d4 n4]).alloc (.cells #[.int .i64 R.tracks, .slice av R.rows.length cv] 24)).alloc (.cells #[.int .u8 a, .int .u8 b, .int .u8 c, .int .i64 rt, .slice ta th.length tc] 48)
  have k2 := (Blk.new (w.alloc (.cells #[.slice e1 d1 n1, .slice e2 d2 n2, .slice e3 d3 n3, .slice e4 d4 n4] 43)) 24 #[.int .i64 R.tracks, .slice av R.rows.length cv]).alloc (.cells #[.int .u8 a, .int .u8 b, .int .u8 c, .int .i64 rt, .slice ta th.length tc] 48)
  have k3 := Blk.new ((w.alloc (.cells #[.slice e1 d1 n1, .slice e2 d2 n2, .slice e3 d3 n3, .slice e4 d4 n4] 43)).alloc (.cells #[.int .i64 R.tracks, .slice av R.rows.length cv] 24)) 48 #[.int .u8 a, .int .u8 b, .int .u8 c, .int .i64 rt, .slice ta th.length tc]
  rw [World.size_alloc] at k2
  rw [World.size_alloc, World.size_alloc] at k3
  have HR := Lib.hid hr
  have HSP := Lib.hid hsp
  have HPA := Lib.hid hp
  have HT := Lib.hid t
  have HB0 := Lib.hid hb0
  have HX0 := Lib.hid k1
  have HY0 := Lib.hid k2
  have HZ0 := Lib.hid k3
  have HL := Lib.hid hB.l
  clear hr t hb0 hB hsp hp k1 k2 k3 hd1 hd2 hd3 hd4
  go_enter Tryd.func5, Tryd.ntmps5
  go_upto_region 1 with fail
  generalize (((w.alloc (.cells #[.slice e1 d1 n1, .slice e2 d2 n2, .slice e3 d3 n3, .slice e4 d4 n4] 43)).alloc (.cells #[.int .i64 R.tracks, .slice av R.rows.length cv] 24)).alloc (.cells #[.int .u8 a, .int .u8 b, .int .u8 c, .int .i64 rt, .slice ta th.length tc] 48)) = W0 at *
  have x0 := HY0.out.cell 0
  have x1 := HY0.out.cell 1
  go_cut [33] from 21 (fun x33 wx => ∃ bb : Bool, x33 = .bool bb ∧ RowKit.Hid (bb = false → RoOk R ∧ SpOk S ∧ th.length ≤ 200 ∧ rollErr R true = 0) ∧ RowKit.Hid (Below W0.heap.size W0 wx))
  case first =>
    go_wp2_with fail
    refine (far_roll R _ f hn HL.out _ (HR.out.later HB0.out)).mono ?_
    rintro e w1 ⟨q, rfl, hok, hb1⟩
    have HB1 := Lib.hid hb1
    cases q with
    | true =>
      clear hok hb1
      go_wp2
      go_meet
      exact ⟨true, rfl, Lib.hid (fun h => by cases h), HB1⟩
    | false =>
      have OK := Lib.hid (hok rfl)
      have y0 := (HX0.out.below hb1).cell 0
      have y1 := (HX0.out.below hb1).cell 1
      have y2 := (HX0.out.below hb1).cell 2
      have y3 := (HX0.out.below hb1).cell 3
      have y4 := (HZ0.out.below hb1).cell 3
      have y5 := (HZ0.out.below hb1).cell 4
      clear hok hb1
      go_wp2_with fail
      refine (deep_any _ _ _ _ S g rt th _ w1 (HSP.out.later (below_step HB0.out HB1.out)) (HPA.out.th.later (below_step HB0.out HB1.out))).mono ?_
      rintro e w2 ⟨q, rfl, hdk, hb2⟩
      have HB2 := Lib.hid (below_step HB1.out hb2)
      have z0 := (HY0.out.below HB2.out).cell 0
      have z1 := (HY0.out.below HB2.out).cell 1
      clear hb2 y0 y1 y2 y3 y4 y5
      cases q with
      | true =>
        clear hdk
        go_wp2
        go_meet
        exact ⟨true, rfl, Lib.hid (fun h => by cases h), HB2⟩
      | false =>
        have DK := Lib.hid (hdk rfl)
        clear hdk
        go_wp2_with fail
        refine (check_roll R OK.out _ f w2 (HR.out.later (below_step HB0.out HB2.out))).mono ?_
        rintro e w3 ⟨rfl, hb3⟩
        have HB3 := Lib.hid (below_step HB2.out hb3)
        clear hb3
        by_cases he : rollErr R true = 0
        · rw [he]
          have HE := Lib.hid he
          clear he
          go_wp2
          go_meet
          exact ⟨false, rfl, Lib.hid (fun _ => ⟨OK.out, DK.out.1, DK.out.2, HE.out⟩), HB3⟩
        · have he2 : (rollErr R true == 0) = false := by rw [beq_eq_false_iff_ne]; exact he
          go_wp2
          go_meet
          exact ⟨true, by first | rfl | simp [he], Lib.hid (fun h => by cases h), HB3⟩
  case rest =>
    obtain ⟨bb, rfl, HOK, HBW⟩ := hcut
    rename World => w1
    have HB1 := Lib.hid (below_step HB0.out HBW.out)
    have HX1 := Lib.hid (HX0.out.below HBW.out)
    have HY1 := Lib.hid (HY0.out.below HBW.out)
    have HZ1 := Lib.hid (HZ0.out.below HBW.out)
    clear HB0 HX0 HY0 HZ0 x0 x1
    cases bb with
    | true =>
      go_wp2_with fail
      refine (shown32_any _ (HT.out.below HB1.out)).mono ?_
      rintro e w9 ⟨rfl, hb9⟩
      have HB9 := Lib.hid (below_step HB1.out hb9)
      clear hb9
      go_wp2
      go_ret
      exact ⟨rfl, HB9.out⟩
    | false =>
      obtain ⟨ok, sok, h200, her⟩ := HOK.out rfl
      have OK := Lib.hid ok
      have SOK := Lib.hid sok
      have HG := Lib.hid (rollGood her)
      have HER := Lib.hid her
      have ht2 := (rollGood her).lo
      have ht3 := (rollGood her).hi
      have hrl := (rollGood her).len
      clear ok sok her HOK
      obtain ⟨ra, hra⟩ : ∃ ra, a.tmod 50 = ra := ⟨_, rfl⟩
      obtain ⟨rb, hrb⟩ : ∃ rb, b.tmod 50 = rb := ⟨_, rfl⟩
      have hra0 : 0 ≤ ra := by rw [← hra]; exact Int.tmod_nonneg _ ha0
      have hra1 : ra < 50 := by rw [← hra]; exact Int.tmod_lt_of_pos a (by omega)
      have hrb0 : 0 ≤ rb := by rw [← hrb]; exact Int.tmod_nonneg _ hb0'
      have hrb1 : rb < 50 := by rw [← hrb]; exact Int.tmod_lt_of_pos b (by omega)
      obtain ⟨m, hm⟩ : ∃ m : Nat, 1 + ra = (m : Int) := ⟨(1 + ra).toNat, by omega⟩
      obtain ⟨k, hk⟩ : ∃ k : Nat, 1 + rb = (k : Int) := ⟨(1 + rb).toNat, by omega⟩
      have x0 := HZ1.out.cell 0
      have x1 := HZ1.out.cell 1
      go_wp2_with fail
      go_quiet (fail)
      have hbq := below_drewN (Below.refl w1.heap.size w1) nq
      have HB2 := Lib.hid (below_step HB1.out hbq)
      have HX2 := Lib.hid (HX1.out.below hbq)
      have HY2 := Lib.hid (HY1.out.below hbq)
      have HZ2 := Lib.hid (HZ1.out.below hbq)
      clear hbq x0 x1 HB1 HX1 HY1 HZ1
      generalize w1.drewN nq = w2 at *
      have hm1 : 1 ≤ m := by omega
      have hm2 : m ≤ 50 := by omega
      have hk1 : 1 ≤ k := by omega
      have hk2 : k ≤ 50 := by omega
      clear hra hrb hm hk hra0 hra1 hrb0 hrb1
      obtain ⟨P, hP⟩ : ∃ P, brRo R m k R.tracks.toNat = P := ⟨_, rfl⟩
      have hbp : bridgeP R (m : Int) (k : Int) = (P, 0) := by rw [bridgeP_good HER.out (by omega), Int.toNat_natCast, Int.toNat_natCast, hP]
      have hpe : rollErr P true = 0 := by rw [← hP]; exact br_good HG.out
      have hpt : P.tracks = R.tracks := by rw [← hP]; rfl
      have hpl : P.rows.length = R.rows.length := by rw [← hP]; exact brRows_len _ _ _ _
      have POK := Lib.hid (show RoOk P by rw [← hP]; exact brk_ok OK.out HG.out.hi)
      have HSL := Lib.hid (show ∀ (gap : Int) (t : Nat), (k : Int) ≤ gap → 1 ≤ t → (t : Int) < R.tracks → slotsR R t gap = slotsR P t gap from fun gap t h1 h2 h3 => by rw [← hP]; exact (slots_br hm1 h1 h2 h3).symm)
      have HRS := Lib.hid (show ∀ (t i : Nat), 1 ≤ t → (t : Int) < R.tracks → i ≤ P.rows.length → runP (trk P t) i ≤ m + k from fun t i h1 h2 h3 => by rw [← hP] at h3 ⊢; exact run_short hk1 h1 h2 (by rw [← brRows_len R m k R.tracks.toNat]; exact h3))
      have HBP := Lib.hid hbp
      have HPE := Lib.hid hpe
      have HPT := Lib.hid hpt
      have hpl2 : P.rows.length ≤ 20000 := by omega
      clear hP hbp hpe hpl
      have y0 := HY2.out.cell 0
      have y1 := HY2.out.cell 1
      go_wp2_with fail
      refine (bridge_any R OK.out _ f m k w2 (HR.out.later HB2.out)).mono ?_
      rw [HBP.out]
      rintro e w3 ⟨v3, g3, rfl, ho3, hb3⟩
      obtain ⟨a3, c3, rfl⟩ := ho3.form
      rw [hpt]
      clear hpt
      have hz3 : Below w3.heap.size w3 (w3.alloc (.cells #[.int .i64 R.tracks, .slice a3 P.rows.length c3] 24)) := (Below.refl _ _).alloc (Nat.le_refl _) _
      have hs3 := below_step hb3 hz3
      have HB3 := Lib.hid (below_step HB2.out hs3)
      have HX3 := Lib.hid (HX2.out.below hs3)
      have HY3 := Lib.hid (HY2.out.below hs3)
      have HZ3 := Lib.hid (HZ2.out.below hs3)
      have HA3 := Lib.hid (ho3.later hz3)
      have HQ3 := Lib.hid (Blk.new w3 24 #[.int .i64 R.tracks, .slice a3 P.rows.length c3])
      clear ho3 hb3 hz3 hs3 y0 y1 HX2 HY2 HZ2
      go_wp2_with fail
      obtain ⟨W3, hW3⟩ : ∃ W3, w3.alloc (.cells #[.int .i64 R.tracks, .slice a3 P.rows.length c3] 24) = W3 := ⟨_, rfl⟩
      rw [hW3] at HB3 HX3 HY3 HZ3 HA3 HQ3 ⊢
      clear hW3
      have hck := check_roll P POK.out _ g3 W3 HA3.out
      rw [HPT.out, HPE.out] at hck
      refine hck.mono ?_
      rintro e w4 ⟨rfl, hb4⟩
      have HB4 := Lib.hid (below_step HB3.out hb4)
      have HX4 := Lib.hid (HX3.out.below hb4)
      have HY4 := Lib.hid (HY3.out.below hb4)
      have HZ4 := Lib.hid (HZ3.out.below hb4)
      have HA4 := Lib.hid (HA3.out.later hb4)
      have HQ4 := Lib.hid (HQ3.out.below hb4)
      clear hck hb4 HX3 HY3 HZ3 HA3 HQ3
      have y0 := HY4.out.cell 0
      have y1 := HY4.out.cell 1
      have q0 := HQ4.out.cell 0
      have q1 := HQ4.out.cell 1
      go_wp2
      go_loop [11] (fun x => ∃ t : Nat, 1 ≤ t ∧ (t : Int) ≤ R.tracks ∧ x = .int .i64 t) (fun x => R.tracks.toNat - (intOf x).toNat)
      case atStart => exact ⟨1, by omega, by omega, rfl⟩
      obtain ⟨t, ht1, htr, rfl⟩ := hrel
      by_cases htl : (t : Int) < R.tracks
      · go_wp2
        go_loop [12, 13] (fun x y => ∃ i : Nat, i ≤ P.rows.length ∧ x = .int .i64 (runP (trk P t) i : Nat) ∧ y = .int .i64 i) (fun _ y => P.rows.length - (intOf y).toNat)
        case atStart => exact ⟨0, Nat.zero_le _, rfl, rfl⟩
        obtain ⟨i, hi, rfl, rfl⟩ := hrel
        obtain ⟨rn, hrn⟩ : ∃ rn, runP (trk P t) i = rn := ⟨_, rfl⟩
        have HRN := Lib.hid hrn
        have hrle : rn ≤ i := by rw [← hrn]; exact runP_le _ _
        rw [hrn]
        clear hrn
        by_cases hlt : i < P.rows.length
        · have hi2 : (i : Int) < (P.rows.length : Int) := by omega
          obtain ⟨pb, po, pc, a2, c2, ev, hbl, hc, hrow2⟩ := HA4.out.at i hlt
          cases ev
          obtain ⟨l, hll0⟩ := any_eq P.rows[i]
          rw [hll0] at hc hrow2
          have HROW := Lib.hid hrow2
          have hll : l.length ≤ 1000 := POK.out.row hpl2 _ (by rw [← hll0]; exact List.getElem_mem hlt)
          have HTR := Lib.hid (show trk P t i = decide ((t : Int) ∈ l) by unfold trk; rw [getD_at hlt, hll0])
          clear hll0 hrow2
          go_wp2
          go_loop [14, 15] (fun x y => ∃ (j : Nat), j ≤ l.length ∧ x = .bool (decide ((t : Int) ∈ l.take j)) ∧ y = .int .i64 j) (fun _ y => l.length - (intOf y).toNat)
          case atStart => exact ⟨0, Nat.zero_le _, by simp, rfl⟩
          obtain ⟨j, hj, rfl, rfl⟩ := hrel
          obtain ⟨hb, hhb⟩ := any_eq (decide ((t : Int) ∈ l.take j))
          have HHB := Lib.hid hhb
          rw [hhb]
          clear hhb
          by_cases hjl : j < l.length
          · have hjl2 : (j : Int) < (l.length : Int) := by omega
            obtain ⟨lb, lo, lc, elv, hlb, hlc⟩ := HROW.out.intAt j hjl
            cases elv
            obtain ⟨x, hx⟩ : ∃ x, l[j] = x := ⟨_, rfl⟩
            rw [hx] at hlc
            have HNX := Lib.hid (mem_take_next hjl hx (t := (t : Int)))
            clear hx
            cases hb with
            | true =>
              go_wp2
              go_round
              case rel => exact ⟨j + 1, by omega, by rw [HNX.out, HHB.out]; rfl, by go_num⟩
              case measure => simp [intOf]; omega
            | false =>
              by_cases hxt : x = (t : Int)
              · have hq2 : (x == (t : Int)) = true := by rw [beq_iff_eq]; exact hxt
                have HD2 := Lib.hid (show decide (x = (t : Int)) = true from decide_eq_true hxt)
                clear hxt
                go_wp2
                go_round
                case rel => exact ⟨j + 1, by omega, by rw [HNX.out, HHB.out, HD2.out]; rfl, by go_num⟩
                case measure => simp [intOf]; omega
              · have hq2 : (x == (t : Int)) = false := by rw [beq_eq_false_iff_ne]; exact hxt
                have HD2 := Lib.hid (show decide (x = (t : Int)) = false from decide_eq_false hxt)
                go_wp2
                go_round
                case rel => exact ⟨j + 1, by omega, by rw [HNX.out, HHB.out, HD2.out]; rfl, by go_num⟩
                case measure => simp [intOf]; omega
          · have hjl2 : ¬ (j : Int) < (l.length : Int) := by omega
            have HTB := Lib.hid (show trk P t i = hb by rw [HTR.out, ← HHB.out, List.take_of_length_le (by omega)])
            cases hb with
            | false =>
              have HRX := Lib.hid (show runP (trk P t) (i + 1) = 0 by rw [runP_next, HTB.out, if_neg (by decide)])
              go_wp2
              go_round
              case rel => exact ⟨i + 1, by omega, by rw [HRX.out]; rfl, by go_num⟩
              case measure => simp [intOf]; omega
            | true =>
              have HRX := Lib.hid (show runP (trk P t) (i + 1) = rn + 1 by rw [runP_next, HTB.out, if_pos rfl, HRN.out])
              have hle : rn + 1 ≤ m + k := by rw [← HRX.out]; exact HRS.out t (i + 1) ht1 htl (by omega)
              have hle2 : ¬ (m : Int) + (k : Int) < (rn : Int) + 1 := by omega
              go_wp2
              go_round
              case rel => exact ⟨i + 1, by omega, by rw [HRX.out]; go_num, by go_num⟩
              case measure => simp [intOf]; omega
        · have hi2 : ¬ (i : Int) < (P.rows.length : Int) := by omega
          go_wp2
          go_round
          case rel => exact ⟨t + 1, by omega, by omega, by go_num⟩
          case measure => simp [intOf]; omega
      · have htl2 : ¬ (t : Int) < R.tracks := htl
        obtain ⟨r7, hr7⟩ : ∃ r7, c.tmod 7 = r7 := ⟨_, rfl⟩
        obtain ⟨r5, hr5⟩ : ∃ r5, c.tmod 50 = r5 := ⟨_, rfl⟩
        have h70 : 0 ≤ r7 := by rw [← hr7]; exact Int.tmod_nonneg _ hc0
        have h71 : r7 < 7 := by rw [← hr7]; exact Int.tmod_lt_of_pos c (by omega)
        have h50 : 0 ≤ r5 := by rw [← hr5]; exact Int.tmod_nonneg _ hc0
        have h51 : r5 < 50 := by rw [← hr5]; exact Int.tmod_lt_of_pos c (by omega)
        have z2 := HZ4.out.cell 2
        have hz5 : Below w4.heap.size w4 (w4.alloc (.cells #[.int .i64 (1 + r7), .int .i64 ((k : Int) + r5)] 51)) := (Below.refl _ _).alloc (Nat.le_refl _) _
        have HB5 := Lib.hid (below_step HB4.out hz5)
        have HX5 := Lib.hid (HX4.out.below hz5)
        have HY5 := Lib.hid (HY4.out.below hz5)
        have HZ5 := Lib.hid (HZ4.out.below hz5)
        have HA5 := Lib.hid (HA4.out.later hz5)
        have HQ5 := Lib.hid (HQ4.out.below hz5)
        have HT5 := Lib.hid (Blk.new w4 51 #[.int .i64 (1 + r7), .int .i64 ((k : Int) + r5)])
        go_upto_region 25 with fail
        clear hr7 hr5 hz5 z2 y0 y1 q0 q1
        obtain ⟨W5, hW5⟩ : ∃ W5, w4.alloc (.cells #[.int .i64 (1 + r7), .int .i64 ((k : Int) + r5)] 51) = W5 := ⟨_, rfl⟩
        rw [hW5] at HB5 HX5 HY5 HZ5 HA5 HQ5 HT5 ⊢
        clear hW5
        obtain ⟨le, hle⟩ : ∃ le, 1 + r7 = le := ⟨_, rfl⟩
        obtain ⟨gp, hgp⟩ : ∃ gp, (k : Int) + r5 = gp := ⟨_, rfl⟩
        have HGP := Lib.hid (show (k : Int) ≤ gp by omega)
        rw [hle, hgp] at HT5 ⊢
        clear hle hgp h70 h71 h50 h51
        have x0 := HX5.out.cell 0
        have x1 := HX5.out.cell 1
        have x2 := HX5.out.cell 2
        have x3 := HX5.out.cell 3
        have y0 := HY5.out.cell 0
        have y1 := HY5.out.cell 1
        have z3 := HZ5.out.cell 3
        have z4 := HZ5.out.cell 4
        have t0 := HT5.out.cell 0
        have t1 := HT5.out.cell 1
        go_wp2_with fail
        refine (read_any _ _ _ _ S SOK.out g R OK.out _ f rt th _ le gp W5 (HT.out.below HB5.out) (HSP.out.later HB5.out) (HR.out.later HB5.out) (by omega) (HPA.out.th.later HB5.out) HPA.out.ct).mono ?_
        rintro e w6 ⟨v6, ml, ce, rfl, hrp, ho6, hb6⟩
        have HRP := Lib.hid hrp
        have HB6 := Lib.hid (below_step HB5.out hb6)
        have HX6 := Lib.hid (HX5.out.below hb6)
        have HZ6 := Lib.hid (HZ5.out.below hb6)
        have HA6 := Lib.hid (HA5.out.later hb6)
        have HQ6 := Lib.hid (HQ5.out.below hb6)
        have HT6 := Lib.hid (HT5.out.below hb6)
        have HO6 := Lib.hid ho6
        clear hrp hb6 ho6 x0 x1 x2 x3 y0 y1 z3 z4 t0 t1
        have x0 := HX6.out.cell 0
        have x1 := HX6.out.cell 1
        have x2 := HX6.out.cell 2
        have x3 := HX6.out.cell 3
        have q0 := HQ6.out.cell 0
        have q1 := HQ6.out.cell 1
        have z3 := HZ6.out.cell 3
        have z4 := HZ6.out.cell 4
        have t0 := HT6.out.cell 0
        have t1 := HT6.out.cell 1
        go_wp2_with fail
        have hrd := read_any _ _ _ _ S SOK.out g P POK.out _ g3 rt th _ le gp w6 (HT.out.below HB6.out) (HSP.out.later HB6.out) HA6.out (by omega) (HPA.out.th.later HB6.out) HPA.out.ct
        rw [HPT.out] at hrd
        refine hrd.mono ?_
        rintro e w7 ⟨v7, ml2, ce2, rfl, hrp2, ho7, hb7⟩
        obtain ⟨hml, hce⟩ := HRP.out.alike hrp2 HER.out HPE.out HPT.out.symm (fun t h1 h2 => HSL.out gp t HGP.out h1 h2)
        have hms := readP_short hrp2
        subst hml
        subst hce
        have HB7 := Lib.hid (below_step HB6.out hb7)
        have HO7 := Lib.hid (HO6.out.later hb7)
        have HN7 := Lib.hid ho7
        clear hrd hrp2 hb7 ho7 x0 x1 x2 x3 q0 q1 z3 z4 t0 t1 HRP
        go_wp2_with fail
        refine (same_events ml _ _ w7 HO7.out HN7.out hms).mono ?_
        rintro e w8 ⟨rfl, n8, hw8⟩
        have HB8 := Lib.hid (show Below w.heap.size w w8 by rw [hw8]; exact below_drewN HB7.out n8)
        clear hw8
        go_wp2_with fail
        refine (shown32_any w8 (HT.out.below HB8.out)).mono ?_
        rintro e w9 ⟨rfl, hb9⟩
        have HB9 := Lib.hid (below_step HB8.out hb9)
        clear hb9
        go_wp2
        go_ret
        exact ⟨rfl, HB9.out⟩
end Go.Proofs.YtppccacfdpkkgaaDoor
