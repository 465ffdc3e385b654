/-
  CONTRACTS: the reference's Check.
-/
import Derived.Test.YtkddeliifadcoaaDoorC9
import Derived.Test.YtkddeliifadcoaaDoorD3
import Derived.Test.YtkddeliifadcoaaDoorD4
import Derived.Test.YtkddeliifadcoaaDoorD5
namespace Go.Proofs.YtkddeliifadcoaaDoor
open Go.RowKit
theorem held_step13 {W0 W w' : World} {a0 : Addr} {u0 : Value} {a1 : Addr} {u1 : Value} {a2 : Addr} {u2 : Value} {a3 : Addr} {u3 : Value} {a4 : Addr} {u4 : Value} {a5 : Addr} {u5 : Value} {a6 : Addr} {u6 : Value} {a7 : Addr} {u7 : Value} {a8 : Addr} {u8 : Value} {a9 : Addr} {u9 : Value} {a10 : Addr} {u10 : Value} {a11 : Addr} {u11 : Value} {a12 : Addr} {u12 : Value} (h : Below W0.heap.size W0 W ∧ W.cell? a0 = some u0 ∧ W.cell? a1 = some u1 ∧ W.cell? a2 = some u2 ∧ W.cell? a3 = some u3 ∧ W.cell? a4 = some u4 ∧ W.cell? a5 = some u5 ∧ W.cell? a6 = some u6 ∧ W.cell? a7 = some u7 ∧ W.cell? a8 = some u8 ∧ W.cell? a9 = some u9 ∧ W.cell? a10 = some u10 ∧ W.cell? a11 = some u11 ∧ W.cell? a12 = some u12) (hb : Below W.heap.size W w') : Below W0.heap.size W0 w' ∧ w'.cell? a0 = some u0 ∧ w'.cell? a1 = some u1 ∧ w'.cell? a2 = some u2 ∧ w'.cell? a3 = some u3 ∧ w'.cell? a4 = some u4 ∧ w'.cell? a5 = some u5 ∧ w'.cell? a6 = some u6 ∧ w'.cell? a7 = some u7 ∧ w'.cell? a8 = some u8 ∧ w'.cell? a9 = some u9 ∧ w'.cell? a10 = some u10 ∧ w'.cell? a11 = some u11 ∧ w'.cell? a12 = some u12 := by
  obtain ⟨h0, g0, g1, g2, g3, g4, g5, g6, g7, g8, g9, g10, g11, g12⟩ := h
  exact ⟨below_step h0 hb, (hb.cell (cell_size g0)).trans g0, (hb.cell (cell_size g1)).trans g1, (hb.cell (cell_size g2)).trans g2, (hb.cell (cell_size g3)).trans g3, (hb.cell (cell_size g4)).trans g4, (hb.cell (cell_size g5)).trans g5, (hb.cell (cell_size g6)).trans g6, (hb.cell (cell_size g7)).trans g7, (hb.cell (cell_size g8)).trans g8, (hb.cell (cell_size g9)).trans g9, (hb.cell (cell_size g10)).trans g10, (hb.cell (cell_size g11)).trans g11, (hb.cell (cell_size g12)).trans g12⟩
set_option maxRecDepth 100000 in
set_option maxHeartbeats 3200000 in
theorem rcheck_long (a1 a2 a3 a4 : Option Addr) (c1 c2 c3 c4 : Nat) (S : Sp) (w : World) (h : 6 < S.ds.length ∨ (S.ds.length ≤ 6 ∧ 40 < S.rs.length) ∨ (S.ds.length ≤ 6 ∧ S.rs.length ≤ 40 ∧ 80 < S.ss.length) ∨ (S.ds.length ≤ 6 ∧ S.rs.length ≤ 40 ∧ S.ss.length ≤ 80 ∧ 24 < S.cs.length)) :
    Calls Tryd.prog 9 #[.agg #[.slice a1 S.ds.length c1, .slice a2 S.rs.length c2, .slice a3 S.ss.length c3, .slice a4 S.cs.length c4]] w fun e w' => e = .returned (ckV (checkP S)) ∧ Below w.heap.size w w' := by
  have HL := Lib.hid (check_toolong (S := S) (by omega))
  have st0 := RSt.new w (.slice a1 S.ds.length c1) (.slice a2 S.rs.length c2) (.slice a3 S.ss.length c3) (.slice a4 S.cs.length c4) 31 #[.int .i64 0, .int .i64 0, .int .i64 0]
  have HS := Lib.hid st0.low
  clear st0
  rcases h with h | ⟨h1, h⟩ | ⟨h1, h2, h⟩ | ⟨h1, h2, h3, h⟩
  all_goals
    go_enter Tryd.func9, Tryd.ntmps9
    go_wp2
    refine bodyPost_ret (v := .tuple #[.agg #[.int .i64 0, .int .i64 0, .int .i64 0], .int .i64 3]) (by simp [results, Tryd.results9, go_sem]) rfl ⟨by rw [HL.out]; rfl, ?_⟩
    exact HS.out
set_option maxRecDepth 100000 in
set_option maxHeartbeats 12800000 in
theorem rcheck_short (a1 a2 a3 a4 : Option Addr) (c1 c2 c3 c4 : Nat) (S : Sp) (ok : SpOk S) (w : World) (f : Nat → Value) (hsp : SpRd w (.slice a1 S.ds.length c1) (.slice a2 S.rs.length c2) (.slice a3 S.ss.length c3) (.slice a4 S.cs.length c4) f S)
    (l1 : S.ds.length ≤ 6) (l2 : S.rs.length ≤ 40) (l3 : S.ss.length ≤ 80) (l4 : S.cs.length ≤ 24) :
    Calls Tryd.prog 9 #[.agg #[.slice a1 S.ds.length c1, .slice a2 S.rs.length c2, .slice a3 S.ss.length c3, .slice a4 S.cs.length c4]] w fun e w' => e = .returned (ckV (checkP S)) ∧ Below w.heap.size w w' := by
  have hl : ¬ (6 < S.ds.length ∨ 40 < S.rs.length ∨ 80 < S.ss.length ∨ 24 < S.cs.length) := by omega
  have HLL := Lib.hid hl
  have HST := Lib.hid (RSt.new w (.slice a1 S.ds.length c1) (.slice a2 S.rs.length c2) (.slice a3 S.ss.length c3) (.slice a4 S.cs.length c4) 31 #[.int .i64 0, .int .i64 0, .int .i64 0])
  have HSP := Lib.hid hsp
  have HOK := Lib.hid ok
  have g6 : decide ((6 : Int) < (S.ds.length : Int)) = false := by rw [decide_eq_false_iff_not]; omega
  have g40 : decide ((40 : Int) < (S.rs.length : Int)) = false := by rw [decide_eq_false_iff_not]; omega
  have g80 : decide ((80 : Int) < (S.ss.length : Int)) = false := by rw [decide_eq_false_iff_not]; omega
  have g24 : decide ((24 : Int) < (S.cs.length : Int)) = false := by rw [decide_eq_false_iff_not]; omega
  clear hl hsp ok
  go_enter Tryd.func9, Tryd.ntmps9
  go_wp2
  go_loopw [4] (fun x wr => ∃ k : Nat, k ≤ S.ds.length ∧ x = .int .i64 k ∧ RowKit.Hid (∀ j, j < k → errD S j = 0) ∧ RowKit.Hid (RSt w (.slice a1 S.ds.length c1) (.slice a2 S.rs.length c2) (.slice a3 S.ss.length c3) (.slice a4 S.cs.length c4) 31 #[.int .i64 0, .int .i64 0, .int .i64 0] wr)) (fun x _ => S.ds.length - (intOf x).toNat)
  case atStart => exact ⟨0, by omega, rfl, Lib.hid (fun j hj => by omega), HST⟩
  clear HST
  obtain ⟨k, hk, rfl, hE, hS⟩ := hrel
  obtain ⟨s0, s1, s2, s3⟩ := hS.out.spec.four
  by_cases hlt : k < S.ds.length
  · have hk2 : (k : Int) < (S.ds.length : Int) := by omega
    have HC := Lib.hid (rdivision_any _ _ _ _ S HOK.out k hlt f wr (HSP.out.later hS.out.low))
    by_cases hz : errD S k = 0
    · have HZ := Lib.hid hz
      rw [hz] at HC
      clear hz
      go_wp2_with fail
      refine (HC.out).mono ?_
      rintro e w2 ⟨rfl, hb2⟩
      have HS2 := Lib.hid (hS.out.below hb2)
      go_wp2
      go_roundw
      case rel => exact ⟨k + 1, by omega, by go_num, Lib.hid (fun j hj => by rcases Nat.lt_succ_iff_lt_or_eq.1 hj with h | h; exact hE.out j h; rw [h]; exact HZ.out), HS2⟩
      case measure => simp [intOf]; omega
    · have HP := Lib.hid (checkP_d HLL.out (fst0_some hlt hz hE.out))
      obtain ⟨ek, hek⟩ : ∃ x, x = errD S k := ⟨_, rfl⟩
      rw [← hek] at HP HC hz
      have b1 : (ek == 0) = false := beq_eq_false_iff_ne.2 hz
      clear hek
      go_wp2_with fail
      refine (HC.out).mono ?_
      rintro e w2 ⟨rfl, hb2⟩
      have HS2 := hS.out.below hb2
      obtain ⟨x0, x1, x2, f0, f1, f2⟩ := HS2.el.three
      have HLW := Lib.hid HS2.low
      have HEL := Lib.hid HS2.el
      go_wp2
      have yy := set_three HEL.out (.int .i64 1) (.int .i64 k) (.int .i64 0)
      obtain ⟨y0, y1, y2, _, _, _⟩ := yy.three
      refine bodyPost_ret (v := .tuple #[.agg #[.int .i64 1, .int .i64 k, .int .i64 0], .int .i64 ek]) (by simp [results, Tryd.results9, go_sem, y0, y1, y2]) rfl ⟨by rw [HP.out]; rfl, ?_⟩
      exact below_three HLW.out (by omega) _ _ _
  · have hke : k = S.ds.length := by omega
    have hk2 : ¬ ((k : Int) < (S.ds.length : Int)) := by omega
    have HD := Lib.hid (show fst0 (errD S) S.ds.length = none from fst0_none.2 (by have := hE.out; rwa [hke] at this))
    have HST := hS
    go_wp2
    clear hE hS hke hk2 hlt hk s0 s1 s2 s3
    go_loopw [6] (fun x wr => ∃ k : Nat, k ≤ S.rs.length ∧ x = .int .i64 k ∧ RowKit.Hid (∀ j, j < k → errR S j = 0) ∧ RowKit.Hid (RSt w (.slice a1 S.ds.length c1) (.slice a2 S.rs.length c2) (.slice a3 S.ss.length c3) (.slice a4 S.cs.length c4) 31 #[.int .i64 0, .int .i64 0, .int .i64 0] wr)) (fun x _ => S.rs.length - (intOf x).toNat)
    case atStart => exact ⟨0, by omega, rfl, Lib.hid (fun j hj => by omega), HST⟩
    clear HST
    obtain ⟨k, hk, rfl, hE, hS⟩ := hrel
    obtain ⟨s0, s1, s2, s3⟩ := hS.out.spec.four
    by_cases hlt : k < S.rs.length
    · have hk2 : (k : Int) < (S.rs.length : Int) := by omega
      have HC := Lib.hid (rrank_any _ _ _ _ S HOK.out k hlt f wr (HSP.out.later hS.out.low))
      by_cases hz : errR S k = 0
      · have HZ := Lib.hid hz
        rw [hz] at HC
        clear hz
        go_wp2_with fail
        refine (HC.out).mono ?_
        rintro e w2 ⟨rfl, hb2⟩
        have HS2 := Lib.hid (hS.out.below hb2)
        go_wp2
        go_roundw
        case rel => exact ⟨k + 1, by omega, by go_num, Lib.hid (fun j hj => by rcases Nat.lt_succ_iff_lt_or_eq.1 hj with h | h; exact hE.out j h; rw [h]; exact HZ.out), HS2⟩
        case measure => simp [intOf]; omega
      · have HP := Lib.hid (checkP_r HLL.out HD.out (fst0_some hlt hz hE.out))
        obtain ⟨ek, hek⟩ : ∃ x, x = errR S k := ⟨_, rfl⟩
        rw [← hek] at HP HC hz
        have b1 : (ek == 0) = false := beq_eq_false_iff_ne.2 hz
        clear hek
        go_wp2_with fail
        refine (HC.out).mono ?_
        rintro e w2 ⟨rfl, hb2⟩
        have HS2 := hS.out.below hb2
        obtain ⟨x0, x1, x2, f0, f1, f2⟩ := HS2.el.three
        have HLW := Lib.hid HS2.low
        have HEL := Lib.hid HS2.el
        go_wp2
        have yy := set_three HEL.out (.int .i64 2) (.int .i64 k) (.int .i64 0)
        obtain ⟨y0, y1, y2, _, _, _⟩ := yy.three
        refine bodyPost_ret (v := .tuple #[.agg #[.int .i64 2, .int .i64 k, .int .i64 0], .int .i64 ek]) (by simp [results, Tryd.results9, go_sem, y0, y1, y2]) rfl ⟨by rw [HP.out]; rfl, ?_⟩
        exact below_three HLW.out (by omega) _ _ _
    · have hke : k = S.rs.length := by omega
      have hk2 : ¬ ((k : Int) < (S.rs.length : Int)) := by omega
      have HR := Lib.hid (show fst0 (errR S) S.rs.length = none from fst0_none.2 (by have := hE.out; rwa [hke] at this))
      have HST := hS
      go_wp2
      clear hE hS hke hk2 hlt hk s0 s1 s2 s3
      go_loopw [8] (fun x wr => ∃ k : Nat, k ≤ S.ss.length ∧ x = .int .i64 k ∧ RowKit.Hid (∀ j, j < k → (stopE S j).2 = 0) ∧ RowKit.Hid (RSt w (.slice a1 S.ds.length c1) (.slice a2 S.rs.length c2) (.slice a3 S.ss.length c3) (.slice a4 S.cs.length c4) 31 #[.int .i64 0, .int .i64 0, .int .i64 0] wr)) (fun x _ => S.ss.length - (intOf x).toNat)
      case atStart => exact ⟨0, by omega, rfl, Lib.hid (fun j hj => by omega), HST⟩
      clear HST
      obtain ⟨k, hk, rfl, hE, hS⟩ := hrel
      obtain ⟨s0, s1, s2, s3⟩ := hS.out.spec.four
      by_cases hlt : k < S.ss.length
      · have hk2 : (k : Int) < (S.ss.length : Int) := by omega
        have HC := Lib.hid (rstop_any _ _ _ _ S HOK.out k hlt f wr (HSP.out.later hS.out.low))
        by_cases hz : errS S k = 0
        · have HZ := Lib.hid hz
          rw [hz] at HC
          clear hz
          have hpl := HOK.out.sp _ (List.getElem_mem hlt)
          have hls := HOK.out.s
          go_wp2_with fail
          refine (HC.out).mono ?_
          rintro e w2 ⟨rfl, hb2⟩
          have HS2 := Lib.hid (hS.out.below hb2)
          clear s0 s1 s2 s3
          go_wp2
          go_loopw [10] (fun x wi => ∃ m : Nat, m ≤ S.ss[k].parts.length ∧ x = .int .i64 m ∧ RowKit.Hid (∀ j, j < m → errP S S.ss[k] j = 0) ∧ RowKit.Hid (RSt w (.slice a1 S.ds.length c1) (.slice a2 S.rs.length c2) (.slice a3 S.ss.length c3) (.slice a4 S.cs.length c4) 31 #[.int .i64 0, .int .i64 0, .int .i64 0] wi)) (fun x _ => S.ss[k].parts.length - (intOf x).toNat)
          case atStart => exact ⟨0, by omega, rfl, Lib.hid (fun j hj => by omega), HS2⟩
          obtain ⟨m, hm, rfl, hE2, hSi⟩ := hrel
          have hspi := HSP.out.later hSi.out.low
          obtain ⟨bs, os, cs, evs, hbs, q0, q1, q2, q3, q4⟩ := hspi.sAt k hlt
          cases evs
          obtain ⟨s0, s1, s2, s3⟩ := hSi.out.spec.four
          by_cases hmt : m < S.ss[k].parts.length
          · obtain ⟨bp, op, cp, efp, hbp, p0, p1, p2, p3⟩ := hspi.pAt k hlt m hmt
            have HCP0 := fun W (hW : Below wr.heap.size wr W) => rpart_any _ _ _ _ S HOK.out S.ss[k] (f k) S.ss[k].parts[m] f W (hspi.later hW) (errS_div hlt HZ.out).1 (errS_div hlt HZ.out).2 (all_dvE HD.out) (all_rkE HR.out)
            rw [efp] at q4 HCP0
            have hm2 : (m : Int) < (S.ss[k].parts.length : Int) := by omega
            rw [← errP_is hmt] at HCP0
            have hdr : Below wr.heap.size wr wr.drew := (Below.refl _ _).drew
            have HCP := Lib.hid HCP0
            clear HCP0
            by_cases hz2 : errP S S.ss[k] m = 0
            · have HZ2 := Lib.hid hz2
              rw [hz2] at HCP
              clear hz2
              go_wp2_with fail
              go_region_held3 (fun w' => Below wr.heap.size wr w' ∧ w'.cell? ⟨w.heap.size, 0, none⟩ = some (.slice a1 S.ds.length c1) ∧ w'.cell? ⟨w.heap.size, 1, none⟩ = some (.slice a2 S.rs.length c2) ∧ w'.cell? ⟨w.heap.size, 2, none⟩ = some (.slice (some ⟨bs, os, none⟩) S.ss.length c3) ∧ w'.cell? ⟨w.heap.size, 3, none⟩ = some (.slice a4 S.cs.length c4) ∧ w'.cell? ⟨bs, os + k * 5, none⟩ = some (.string S.ss[k].name) ∧ w'.cell? ⟨bs, os + k * 5 + 1, none⟩ = some (.int .i64 S.ss[k].div) ∧ w'.cell? ⟨bs, os + k * 5 + 2, none⟩ = some (.int .i64 S.ss[k].num) ∧ w'.cell? ⟨bs, os + k * 5 + 3, none⟩ = some (.int .i64 S.ss[k].den) ∧ w'.cell? ⟨bs, os + k * 5 + 4, none⟩ = some (.slice (some ⟨bp, op, none⟩) S.ss[k].parts.length cp) ∧ w'.cell? ⟨bp, op + m * 4, none⟩ = some (.int .i64 S.ss[k].parts[m].rank) ∧ w'.cell? ⟨bp, op + m * 4 + 1, none⟩ = some (.int .i64 S.ss[k].parts[m].shift) ∧ w'.cell? ⟨bp, op + m * 4 + 2, none⟩ = some (.int .i64 S.ss[k].parts[m].lo) ∧ w'.cell? ⟨bp, op + m * 4 + 3, none⟩ = some (.int .i64 S.ss[k].parts[m].hi)) (first | exact ⟨hdr, s0, s1, s2, s3, q0, q1, q2, q3, q4, p0, p1, p2, p3⟩ | assumption) (first | (go_at_call 33; refine (HCP.out _ (by first | exact And.left (by assumption) | exact hdr)).mono ?_; rintro e w2 ⟨rfl, hb2⟩; have hn := held_step13 (by assumption) hb2; clear hb2))
              go_wp2
              go_roundw
              case rel => exact ⟨m + 1, by omega, by go_num, Lib.hid (fun j hj => by rcases Nat.lt_succ_iff_lt_or_eq.1 hj with h | h; exact hE2.out j h; rw [h]; exact HZ2.out), Lib.hid (hSi.out.below hn.1)⟩
              case measure => simp [intOf]; omega
            · have HP := Lib.hid (show checkP S = ((3, (k : Int), (m : Int) + 1), errP S S.ss[k] m) by
                have hb := stopE_part hlt HZ.out (fst0_some hmt hz2 hE2.out)
                have := checkP_s HLL.out HD.out HR.out hlt (by rw [hb]; exact hz2) hE.out
                rw [hb] at this
                exact this)
              obtain ⟨ek, hek⟩ : ∃ x, x = errP S S.ss[k] m := ⟨_, rfl⟩
              rw [← hek] at HP HCP hz2
              have b1 : (ek == 0) = false := beq_eq_false_iff_ne.2 hz2
              clear hek
              go_wp2_with fail
              go_region_held3 (fun w' => Below wr.heap.size wr w' ∧ w'.cell? ⟨w.heap.size, 0, none⟩ = some (.slice a1 S.ds.length c1) ∧ w'.cell? ⟨w.heap.size, 1, none⟩ = some (.slice a2 S.rs.length c2) ∧ w'.cell? ⟨w.heap.size, 2, none⟩ = some (.slice (some ⟨bs, os, none⟩) S.ss.length c3) ∧ w'.cell? ⟨w.heap.size, 3, none⟩ = some (.slice a4 S.cs.length c4) ∧ w'.cell? ⟨bs, os + k * 5, none⟩ = some (.string S.ss[k].name) ∧ w'.cell? ⟨bs, os + k * 5 + 1, none⟩ = some (.int .i64 S.ss[k].div) ∧ w'.cell? ⟨bs, os + k * 5 + 2, none⟩ = some (.int .i64 S.ss[k].num) ∧ w'.cell? ⟨bs, os + k * 5 + 3, none⟩ = some (.int .i64 S.ss[k].den) ∧ w'.cell? ⟨bs, os + k * 5 + 4, none⟩ = some (.slice (some ⟨bp, op, none⟩) S.ss[k].parts.length cp) ∧ w'.cell? ⟨bp, op + m * 4, none⟩ = some (.int .i64 S.ss[k].parts[m].rank) ∧ w'.cell? ⟨bp, op + m * 4 + 1, none⟩ = some (.int .i64 S.ss[k].parts[m].shift) ∧ w'.cell? ⟨bp, op + m * 4 + 2, none⟩ = some (.int .i64 S.ss[k].parts[m].lo) ∧ w'.cell? ⟨bp, op + m * 4 + 3, none⟩ = some (.int .i64 S.ss[k].parts[m].hi)) (first | exact ⟨hdr, s0, s1, s2, s3, q0, q1, q2, q3, q4, p0, p1, p2, p3⟩ | assumption) (first | (go_at_call 33; refine (HCP.out _ (by first | exact And.left (by assumption) | exact hdr)).mono ?_; rintro e w2 ⟨rfl, hb2⟩; have hn := held_step13 (by assumption) hb2; clear hb2))
              have HS3 := hSi.out.below hn.1
              obtain ⟨x0, x1, x2, f0, f1, f2⟩ := HS3.el.three
              have HLW := Lib.hid HS3.low
              have HEL := Lib.hid HS3.el
              go_wp2
              have yy := set_three HEL.out (.int .i64 3) (.int .i64 k) (.int .i64 ((m : Int) + 1))
              obtain ⟨y0, y1, y2, _, _, _⟩ := yy.three
              refine bodyPost_ret (v := .tuple #[.agg #[.int .i64 3, .int .i64 k, .int .i64 ((m : Int) + 1)], .int .i64 ek]) (by simp [results, Tryd.results9, go_sem, y0, y1, y2]) rfl ⟨by rw [HP.out]; rfl, ?_⟩
              exact below_three HLW.out (by omega) _ _ _
          · have hme : m = S.ss[k].parts.length := by omega
            have hm2 : ¬ ((m : Int) < (S.ss[k].parts.length : Int)) := by omega
            have HSE := Lib.hid (stopE_good hlt HZ.out (fst0_none.2 (by have := hE2.out; rwa [hme] at this)))
            obtain ⟨ap, cp, efp⟩ := (hspi.p k hlt).form
            rw [List.length_map] at efp
            rw [efp] at q4
            go_wp2
            go_roundw
            case rel => exact ⟨k + 1, by omega, by go_num, Lib.hid (fun j hj => by rcases Nat.lt_succ_iff_lt_or_eq.1 hj with h | h; exact hE.out j h; rw [h, HSE.out]), hSi⟩
            case measure => simp [intOf]; omega
        · have HP := Lib.hid (show checkP S = ((3, (k : Int), 0), errS S k) by
            have hb := stopE_bad hlt hz
            have := checkP_s HLL.out HD.out HR.out hlt (by rw [hb]; exact hz) hE.out
            rw [hb] at this
            exact this)
          obtain ⟨ek, hek⟩ : ∃ x, x = errS S k := ⟨_, rfl⟩
          rw [← hek] at HP HC hz
          have b1 : (ek == 0) = false := beq_eq_false_iff_ne.2 hz
          clear hek
          go_wp2_with fail
          refine (HC.out).mono ?_
          rintro e w2 ⟨rfl, hb2⟩
          have HS2 := hS.out.below hb2
          obtain ⟨x0, x1, x2, f0, f1, f2⟩ := HS2.el.three
          have HLW := Lib.hid HS2.low
          have HEL := Lib.hid HS2.el
          go_wp2
          have yy := set_three HEL.out (.int .i64 3) (.int .i64 k) (.int .i64 0)
          obtain ⟨y0, y1, y2, _, _, _⟩ := yy.three
          refine bodyPost_ret (v := .tuple #[.agg #[.int .i64 3, .int .i64 k, .int .i64 0], .int .i64 ek]) (by simp [results, Tryd.results9, go_sem, y0, y1, y2]) rfl ⟨by rw [HP.out]; rfl, ?_⟩
          exact below_three HLW.out (by omega) _ _ _
      · have hke : k = S.ss.length := by omega
        have hk2 : ¬ ((k : Int) < (S.ss.length : Int)) := by omega
        have HSA := Lib.hid (show ∀ j, j < S.ss.length → (stopE S j).2 = 0 by have := hE.out; rwa [hke] at this)
        have HST := hS
        go_wp2
        clear hE hS hke hk2 hlt hk s0 s1 s2 s3
        go_loopw [12] (fun x wr => ∃ k : Nat, k ≤ S.cs.length ∧ x = .int .i64 k ∧ RowKit.Hid (∀ j, j < k → errC S j = 0) ∧ RowKit.Hid (RSt w (.slice a1 S.ds.length c1) (.slice a2 S.rs.length c2) (.slice a3 S.ss.length c3) (.slice a4 S.cs.length c4) 31 #[.int .i64 0, .int .i64 0, .int .i64 0] wr)) (fun x _ => S.cs.length - (intOf x).toNat)
        case atStart => exact ⟨0, by omega, rfl, Lib.hid (fun j hj => by omega), HST⟩
        clear HST
        obtain ⟨k, hk, rfl, hE, hS⟩ := hrel
        obtain ⟨s0, s1, s2, s3⟩ := hS.out.spec.four
        by_cases hlt : k < S.cs.length
        · have hk2 : (k : Int) < (S.cs.length : Int) := by omega
          have HC := Lib.hid (rcoupler_any _ _ _ _ S HOK.out k hlt f wr (HSP.out.later hS.out.low))
          by_cases hz : errC S k = 0
          · have HZ := Lib.hid hz
            rw [hz] at HC
            clear hz
            go_wp2_with fail
            refine (HC.out).mono ?_
            rintro e w2 ⟨rfl, hb2⟩
            have HS2 := Lib.hid (hS.out.below hb2)
            go_wp2
            go_roundw
            case rel => exact ⟨k + 1, by omega, by go_num, Lib.hid (fun j hj => by rcases Nat.lt_succ_iff_lt_or_eq.1 hj with h | h; exact hE.out j h; rw [h]; exact HZ.out), HS2⟩
            case measure => simp [intOf]; omega
          · have HP := Lib.hid (checkP_c HLL.out HD.out HR.out HSA.out (fst0_some hlt hz hE.out))
            obtain ⟨ek, hek⟩ : ∃ x, x = errC S k := ⟨_, rfl⟩
            rw [← hek] at HP HC hz
            have b1 : (ek == 0) = false := beq_eq_false_iff_ne.2 hz
            clear hek
            go_wp2_with fail
            refine (HC.out).mono ?_
            rintro e w2 ⟨rfl, hb2⟩
            have HS2 := hS.out.below hb2
            obtain ⟨x0, x1, x2, f0, f1, f2⟩ := HS2.el.three
            have HLW := Lib.hid HS2.low
            have HEL := Lib.hid HS2.el
            go_wp2
            have yy := set_three HEL.out (.int .i64 4) (.int .i64 k) (.int .i64 0)
            obtain ⟨y0, y1, y2, _, _, _⟩ := yy.three
            refine bodyPost_ret (v := .tuple #[.agg #[.int .i64 4, .int .i64 k, .int .i64 0], .int .i64 ek]) (by simp [results, Tryd.results9, go_sem, y0, y1, y2]) rfl ⟨by rw [HP.out]; rfl, ?_⟩
            exact below_three HLW.out (by omega) _ _ _
        · have hke : k = S.cs.length := by omega
          have hk2 : ¬ ((k : Int) < (S.cs.length : Int)) := by omega
          have HC0 := Lib.hid (show fst0 (errC S) S.cs.length = none from fst0_none.2 (by have := hE.out; rwa [hke] at this))
          have HP := Lib.hid (checkP_ok HLL.out HD.out HR.out HSA.out HC0.out)
          obtain ⟨x0, x1, x2, f0, f1, f2⟩ := hS.out.el.three
          have HLW := Lib.hid hS.out.low
          have HEL := Lib.hid hS.out.el
          go_wp2
          have yy := set_three HEL.out (.int .i64 0) (.int .i64 0) (.int .i64 0)
          obtain ⟨y0, y1, y2, _, _, _⟩ := yy.three
          refine bodyPost_ret (v := .tuple #[.agg #[.int .i64 0, .int .i64 0, .int .i64 0], .int .i64 0]) (by simp [results, Tryd.results9, go_sem, y0, y1, y2]) rfl ⟨by rw [HP.out]; rfl, ?_⟩
          exact below_three HLW.out (by omega) _ _ _
theorem rcheck_any (v1 v2 v3 v4 : Value) (S : Sp) (ok : SpOk S) (w : World) (f : Nat → Value) (hsp : SpRd w v1 v2 v3 v4 f S) :
    Calls Tryd.prog 9 #[.agg #[v1, v2, v3, v4]] w fun e w' => e = .returned (ckV (checkP S)) ∧ Below w.heap.size w w' := by
  obtain ⟨⟨a1, c1, rfl⟩, ⟨a2, c2, rfl⟩, ⟨a3, c3, rfl⟩, ⟨a4, c4, rfl⟩⟩ := hsp.forms
  by_cases h : S.ds.length ≤ 6 ∧ S.rs.length ≤ 40 ∧ S.ss.length ≤ 80 ∧ S.cs.length ≤ 24
  · obtain ⟨l1, l2, l3, l4⟩ := h
    exact rcheck_short a1 a2 a3 a4 c1 c2 c3 c4 S ok w f hsp l1 l2 l3 l4
  · exact rcheck_long a1 a2 a3 a4 c1 c2 c3 c4 S w (by omega)
end Go.Proofs.YtkddeliifadcoaaDoor
