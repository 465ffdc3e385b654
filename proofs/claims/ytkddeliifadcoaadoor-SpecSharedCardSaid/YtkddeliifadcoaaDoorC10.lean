/-
  CONTRACTS: Check, from its stops on.
-/
import Derived.Test.YtkddeliifadcoaaDoorC9
namespace Go.Proofs.YtkddeliifadcoaaDoor
open Go.RowKit
set_option maxRecDepth 100000 in
set_option maxHeartbeats 12800000 in
theorem check_late (a1 a2 a3 a4 : Option Addr) (c1 c2 c3 c4 : Nat) (S : Sp) (ok : SpOk S) (w : World) (t : Tabs w) (f : Nat → Value) (hsp : SpRd w (.slice a1 S.ds.length c1) (.slice a2 S.rs.length c2) (.slice a3 S.ss.length c3) (.slice a4 S.cs.length c4) f S)
    (l1 : S.ds.length ≤ 6) (l2 : S.rs.length ≤ 40) (l3 : S.ss.length ≤ 80) (l4 : S.cs.length ≤ 24) (hD : fst0 (errD S) S.ds.length = none) (hR : fst0 (errR S) S.rs.length = none) :
    Calls Tryd.prog 8 #[.agg #[.slice a1 S.ds.length c1, .slice a2 S.rs.length c2, .slice a3 S.ss.length c3, .slice a4 S.cs.length c4]] w fun e w' => e = .returned (ckV (checkP S)) ∧ Below w.heap.size w w' := by
  have hmm := @run_makeMap Tryd.prog
  have hmf : ∀ (fn : Fn) (first cap : Array Value) (w : World), (Instr.makeFunc fn first cap).run Tryd.prog w = .ok (.func fn first cap) w := fun _ _ _ _ => rfl
  have h0 := ckW_st w (.slice a1 S.ds.length c1) (.slice a2 S.rs.length c2) (.slice a3 S.ss.length c3) (.slice a4 S.cs.length c4)
  have hl : ¬ (6 < S.ds.length ∨ 40 < S.rs.length ∨ 80 < S.ss.length ∨ 24 < S.cs.length) := by omega
  have HLL := Lib.hid hl
  have CD := Lib.hid (ckD S ok w _ _ _ _ f hsp _ h0)
  have HSP := Lib.hid hsp
  have HOK := Lib.hid ok
  unfold ckW at CD
  have g6 : decide ((6 : Int) < (S.ds.length : Int)) = false := by rw [decide_eq_false_iff_not]; omega
  have g40 : decide ((40 : Int) < (S.rs.length : Int)) = false := by rw [decide_eq_false_iff_not]; omega
  have g80 : decide ((80 : Int) < (S.ss.length : Int)) = false := by rw [decide_eq_false_iff_not]; omega
  have g24 : decide ((24 : Int) < (S.cs.length : Int)) = false := by rw [decide_eq_false_iff_not]; omega
  have HD := Lib.hid hD
  have HV := Lib.hid (fstV_no hD)
  clear hl h0 hsp ok hD
  have HR := Lib.hid hR
  have HV2 := Lib.hid (fstV_no hR)
  have HDV := Lib.hid (all_dvE HD.out)
  have HRV := Lib.hid (all_rkE hR)
  clear hR
  go_enter Tryd.func8, Tryd.ntmps8
  go_wp2_with fail
  refine (CD.out).mono ?_
  rintro e w1 ⟨rfl, hw1, hi1⟩
  rw [HV.out]
  have st1 := hi1 HD.out
  have CR := Lib.hid (ckR S HOK.out w t _ _ _ _ f HSP.out w1 st1)
  obtain ⟨s0, s1, s2, s3⟩ := st1.spec.four
  have q0 := st1.ptr.cell 0
  clear hi1
  go_wp2_with fail
  refine (CR.out).mono ?_
  rintro e w2 ⟨rfl, hw2, hi2⟩
  rw [HV2.out]
  have st2 := hi2 HR.out
  obtain ⟨s0, s1, s2, s3⟩ := st2.spec.four
  have q0 := st2.ptr.cell 0
  have HS2 := Lib.hid st2
  clear hi2 st1 hw1 hw2 st2
  go_wp2
  go_loopw [73] (fun i wr => ∃ k : Nat, k ≤ S.ss.length ∧ i = .int .i64 k ∧ RowKit.Hid (∀ j, j < k → (stopE S j).2 = 0) ∧ RowKit.Hid (∀ j, j < k → errS S j = 0) ∧ RowKit.Hid (CkSt w (.slice a1 S.ds.length c1) (.slice a2 S.rs.length c2) (.slice a3 S.ss.length c3) (.slice a4 S.cs.length c4) (S.ds.length + S.rs.length + k) (ksS S k) wr)) (fun i _ => S.ss.length - (intOf i).toNat)
  case atStart => exact ⟨0, Nat.zero_le _, rfl, Lib.hid (fun j h => absurd h (Nat.not_lt_zero j)), Lib.hid (fun j h => absurd h (Nat.not_lt_zero j)), HS2⟩
  case round =>
    obtain ⟨k, hk, rfl, hE, hE2, hst⟩ := hrel
    obtain ⟨s0, s1, s2, s3⟩ := hst.out.spec.four
    have q0 := hst.out.ptr.cell 0
    have hsz := hst.out.low.size
    have hlt5 := hst.out.ptr.lt
    by_cases hlt : k < S.ss.length
    · obtain ⟨b, o, c', hvv, hbl, r0, r1, r2, r3, r4⟩ := (HSP.out.later hst.out.low).sAt k hlt
      simp only [Value.slice.injEq] at hvv
      obtain ⟨rfl, _, rfl⟩ := hvv
      obtain ⟨pa, pc, hpf⟩ := (HSP.out.p k hlt).form
      rw [List.length_map] at hpf
      rw [hpf] at r4
      have HPF := Lib.hid hpf
      have hi1 : (0 : Int) ≤ (k : Int) := Int.natCast_nonneg _
      have hi2 : (k : Int) < (S.ss.length : Int) := by omega
      have hb0 : Below wr.heap.size wr (wr.alloc (.cells #[.string S.ss[k].name, .int .i64 S.ss[k].div, .int .i64 S.ss[k].num, .int .i64 S.ss[k].den, .slice pa S.ss[k].parts.length pc] 61)) := (Below.refl _ _).alloc (Nat.le_refl _) _
      have st0 := hst.out.below hb0
      have k10 : Blk (wr.alloc (.cells #[.string S.ss[k].name, .int .i64 S.ss[k].div, .int .i64 S.ss[k].num, .int .i64 S.ss[k].den, .slice pa S.ss[k].parts.length pc] 61)) wr.heap.size 61 #[.string S.ss[k].name, .int .i64 S.ss[k].div, .int .i64 S.ss[k].num, .int .i64 S.ss[k].den, .slice pa S.ss[k].parts.length pc] := Blk.new _ _ _
      have CS := stop_any S.ss[k] pa pc S.ds.length (w.heap.size + 3) (w.heap.size + 2) (S.ds.length + S.rs.length + k) a1 c1 _ _ _ (ksS S k) _ (t.below st0.low) (t.lt (by omega)) st0.chk (by omega) (HOK.out.sn _ (List.getElem_mem hlt)) (by omega) (HOK.out.sp _ (List.getElem_mem hlt))
      rw [seenS hlt l1 hE2.out] at CS
      have CS2 := CS.mono fun e w' h => (⟨(st0.ends h).1, (st0.ends h).2.1, (st0.ends h).2.2, k10.kept h.2.1 (by intro e; have := Option.some.inj e; omega)⟩ : _ ∧ _ ∧ _ ∧ _)
      have HCS := Lib.hid CS2
      have HW0 := Lib.hid (show w.heap.size + 2 < wr.heap.size by omega)
      clear CS CS2 hpf
      obtain ⟨es, hes⟩ : ∃ es, es = errS S k := ⟨_, rfl⟩
      rw [← hes] at HCS
      have HES := Lib.hid hes
      clear hes
      by_cases hz : es = 0
      · subst hz
        have H0 := Lib.hid HES.out.symm
        cases hP : fst0 (errP S S.ss[k]) S.ss[k].parts.length with
        | some j =>
          obtain ⟨ep, hep⟩ : ∃ ep, ep = errP S S.ss[k] j := ⟨_, rfl⟩
          have hne := (fst0_is hP).2.1
          have hjl := (fst0_is hP).1
          have hpl := HOK.out.sp _ (List.getElem_mem hlt)
          have hsE := stopE_part hlt H0.out hP
          rw [← hep] at hsE hne
          have HP := Lib.hid (show checkP S = ((3, (k : Int), (j : Int) + 1), ep) by
            have := checkP_s HLL.out HD.out HR.out hlt (by rw [hsE]; exact hne) hE.out
            rw [hsE] at this
            exact this)
          have HV3 := Lib.hid (show fstV (errP S S.ss[k]) S.ss[k].parts.length = .tuple #[.int .i64 j, .int .i64 ep] by rw [hep]; exact fstV_of hP)
          have b3 : (ep == 0) = false := beq_eq_false_iff_ne.2 hne
          have HNE := Lib.hid hne
          have hjb : (j : Int) ≤ 1000 := by omega
          clear hP hep hne hsE
          go_wp2_with fail
          refine (HCS.out).mono ?_
          rintro e w3 ⟨rfl, hw3, hi3, k3⟩
          have st3 := hi3 (by simp)
          clear hi3
          have CPP := ckP S HOK.out w _ _ _ _ f HSP.out (S.ds.length + S.rs.length + k + 1) k wr.heap.size hlt _ w3 st3 (by rw [HPF.out]; exact k3) H0.out HDV.out HRV.out
          rw [HPF.out] at CPP
          have HCP := Lib.hid CPP
          clear CPP
          obtain ⟨u0, u1, u2, u3⟩ := st3.spec.four
          have q3 := st3.ptr.cell 0
          have m0 := k3.cell 0
          have m1 := k3.cell 1
          have m2 := k3.cell 2
          have m3 := k3.cell 3
          have m4 := k3.cell 4
          go_wp2_with fail
          refine (HCP.out).mono ?_
          rintro e w4 ⟨rfl, st4, _⟩
          rw [HV3.out]
          obtain ⟨x0, x1, x2, f0, f1, f2⟩ := st4.res.three
          have HLW := st4.low
          have blk4 := st4.res
          have HST4 := Lib.hid st4
          clear st4 hw3 HCP
          go_wp2
          have yy := set_three blk4 (.int .i64 3) (.int .i64 k) (.int .i64 ((j : Int) + 1))
          obtain ⟨y0, y1, y2, _, _, _⟩ := yy.three
          refine bodyPost_ret (v := .tuple #[.agg #[.int .i64 3, .int .i64 k, .int .i64 ((j : Int) + 1)], .int .i64 ep]) (by simp [results, Tryd.results8, go_sem, y0, y1, y2]) rfl ⟨by rw [HP.out]; rfl, ?_⟩
          exact below_three HLW (by omega) _ _ _
        | none =>
          have HV3 := Lib.hid (fstV_no hP)
          have HPN := Lib.hid hP
          have HSE := Lib.hid (stopE_good hlt H0.out hP)
          clear hP
          go_wp2_with fail
          refine (HCS.out).mono ?_
          rintro e w3 ⟨rfl, hw3, hi3, k3⟩
          have st3 := hi3 (by simp)
          clear hi3
          have CPP := ckP S HOK.out w _ _ _ _ f HSP.out (S.ds.length + S.rs.length + k + 1) k wr.heap.size hlt _ w3 st3 (by rw [HPF.out]; exact k3) H0.out HDV.out HRV.out
          rw [HPF.out] at CPP
          have HCP := Lib.hid CPP
          clear CPP
          obtain ⟨u0, u1, u2, u3⟩ := st3.spec.four
          have q3 := st3.ptr.cell 0
          have m0 := k3.cell 0
          have m1 := k3.cell 1
          have m2 := k3.cell 2
          have m3 := k3.cell 3
          have m4 := k3.cell 4
          go_wp2_with fail
          refine (HCP.out).mono ?_
          rintro e w4 ⟨rfl, _, hi4⟩
          rw [HV3.out]
          have HST4 := Lib.hid (hi4 HPN.out).1
          clear hi4 hw3 HCP
          go_wp2
          go_roundw
          case rel => exact ⟨k + 1, by omega, by go_num, Lib.hid (fun j hj => by rcases Nat.lt_succ_iff_lt_or_eq.1 hj with h | h; exact hE.out j h; rw [h, HSE.out]), Lib.hid (fun j hj => by rcases Nat.lt_succ_iff_lt_or_eq.1 hj with h | h; exact hE2.out j h; rw [h]; exact H0.out), Lib.hid (by rw [show ksS S (k + 1) = (stK S.ss[k].div, L S.ss[k].name) :: ksS S k from keysG_take gS S.ss k hlt _]; exact HST4.out)⟩
          case measure => simp [intOf]; omega
      · have b3 : (es == 0) = false := beq_eq_false_iff_ne.2 hz
        have HP := Lib.hid (show checkP S = ((3, (k : Int), 0), es) by
          have hb := stopE_bad hlt (by rw [← HES.out]; exact hz)
          have := checkP_s HLL.out HD.out HR.out hlt (by rw [hb, ← HES.out]; exact hz) hE.out
          rw [hb, ← HES.out] at this
          exact this)
        have HZ := Lib.hid hz
        clear hz
        go_wp2_with fail
        refine (HCS.out).mono ?_
        rintro e w3 ⟨rfl, hw3, _, k3⟩
        obtain ⟨x0, x1, x2, f0, f1, f2⟩ := hw3.res.three
        have HLW := hw3.low
        have blk4 := hw3.res
        clear hw3
        go_wp2
        have yy := set_three blk4 (.int .i64 3) (.int .i64 k) (.int .i64 0)
        obtain ⟨y0, y1, y2, _, _, _⟩ := yy.three
        refine bodyPost_ret (v := .tuple #[.agg #[.int .i64 3, .int .i64 k, .int .i64 0], .int .i64 es]) (by simp [results, Tryd.results8, go_sem, y0, y1, y2]) rfl ⟨by rw [HP.out]; rfl, ?_⟩
        exact below_three HLW (by omega) _ _ _
    · have hke : k = S.ss.length := by omega
      have HKE := Lib.hid hke
      have HST := Lib.hid (show CkSt w (.slice a1 S.ds.length c1) (.slice a2 S.rs.length c2) (.slice a3 S.ss.length c3) (.slice a4 S.cs.length c4) (S.ds.length + S.rs.length + S.ss.length) (ksS S S.ss.length) wr by have := hst.out; rwa [hke] at this)
      have HEA := Lib.hid (show ∀ j, j < S.ss.length → (stopE S j).2 = 0 by have := hE.out; rwa [hke] at this)
      clear hke
      have CC := Lib.hid (ckC S HOK.out w _ _ _ _ f HSP.out wr HST.out)
      cases hC : fst0 (errC S) S.cs.length with
      | some i =>
        have HP := Lib.hid (checkP_c HLL.out HD.out HR.out HEA.out hC)
        have HV3 := Lib.hid (fstV_of hC)
        obtain ⟨ei, hei⟩ : ∃ ei, ei = errC S i := ⟨_, rfl⟩
        have b1 : (ei == 0) = false := by rw [hei]; exact beq_eq_false_iff_ne.2 (fst0_is hC).2.1
        have b2 := Lib.hid (fst0_is hC).2.1
        rw [← hei] at HP HV3 b2
        clear hC hei
        go_wp2_with fail
        refine (CC.out).mono ?_
        rintro e w4 ⟨rfl, hw4, _⟩
        rw [HV3.out]
        obtain ⟨x0, x1, x2, f0, f1, f2⟩ := hw4.res.three
        have HLW := hw4.low
        have blk4 := hw4.res
        clear hw4
        go_wp2
        have yy := set_three blk4 (.int .i64 4) (.int .i64 i) (.int .i64 0)
        obtain ⟨y0, y1, y2, _, _, _⟩ := yy.three
        refine bodyPost_ret (v := .tuple #[.agg #[.int .i64 4, .int .i64 i, .int .i64 0], .int .i64 ei]) (by simp [results, Tryd.results8, go_sem, y0, y1, y2]) rfl ⟨by rw [HP.out]; rfl, ?_⟩
        exact below_three HLW (by omega) _ _ _
      | none =>
        have HP := Lib.hid (checkP_ok HLL.out HD.out HR.out HEA.out hC)
        have HV3 := Lib.hid (fstV_no hC)
        clear hC
        go_wp2_with fail
        refine (CC.out).mono ?_
        rintro e w4 ⟨rfl, hw4, _⟩
        rw [HV3.out]
        obtain ⟨x0, x1, x2, f0, f1, f2⟩ := hw4.res.three
        have HLW := hw4.low
        have blk4 := hw4.res
        clear hw4
        go_wp2
        have yy := set_three blk4 (.int .i64 0) (.int .i64 0) (.int .i64 0)
        obtain ⟨y0, y1, y2, _, _, _⟩ := yy.three
        refine bodyPost_ret (v := .tuple #[.agg #[.int .i64 0, .int .i64 0, .int .i64 0], .int .i64 0]) (by simp [results, Tryd.results8, go_sem, y0, y1, y2]) rfl ⟨by rw [HP.out]; rfl, ?_⟩
        exact below_three HLW (by omega) _ _ _
theorem check_any (v1 v2 v3 v4 : Value) (S : Sp) (ok : SpOk S) (w : World) (t : Tabs w) (f : Nat → Value) (hsp : SpRd w v1 v2 v3 v4 f S) :
    Calls Tryd.prog 8 #[.agg #[v1, v2, v3, v4]] w fun e w' => e = .returned (ckV (checkP S)) ∧ Below w.heap.size w w' := by
  obtain ⟨⟨a1, c1, rfl⟩, ⟨a2, c2, rfl⟩, ⟨a3, c3, rfl⟩, ⟨a4, c4, rfl⟩⟩ := hsp.forms
  by_cases h : S.ds.length ≤ 6 ∧ S.rs.length ≤ 40 ∧ S.ss.length ≤ 80 ∧ S.cs.length ≤ 24
  · obtain ⟨l1, l2, l3, l4⟩ := h
    by_cases hD : fst0 (errD S) S.ds.length = none
    · by_cases hR : fst0 (errR S) S.rs.length = none
      · exact check_late a1 a2 a3 a4 c1 c2 c3 c4 S ok w t f hsp l1 l2 l3 l4 hD hR
      · exact check_early a1 a2 a3 a4 c1 c2 c3 c4 S ok w t f hsp l1 l2 l3 l4 (.inr hR)
    · exact check_early a1 a2 a3 a4 c1 c2 c3 c4 S ok w t f hsp l1 l2 l3 l4 (.inl hD)
  · exact check_long a1 a2 a3 a4 c1 c2 c3 c4 S w (by omega)
end Go.Proofs.YtkddeliifadcoaaDoor
