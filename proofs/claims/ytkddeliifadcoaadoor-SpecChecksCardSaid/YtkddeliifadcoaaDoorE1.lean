/-
  CONTRACTS: Pipes, the reference's Pipes.
-/
import Derived.Test.YtkddeliifadcoaaDoorC10
import Derived.Test.YtkddeliifadcoaaDoorD6
namespace Go.Proofs.YtkddeliifadcoaaDoor
open Go.RowKit
/-- How many pipes. -/
def cntP : List Rk → Int
  | [] => 0
  | r :: l => r.cnt + cntP l
theorem cntP_append (a b : List Rk) : cntP (a ++ b) = cntP a + cntP b := by
  induction a with
  | nil => simp [cntP]
  | cons x l ih => rw [List.cons_append, cntP, cntP, ih]; omega
theorem cntP_take {l : List Rk} {k : Nat} (h : k < l.length) : cntP (l.take (k + 1)) = cntP (l.take k) + l[k].cnt := by
  rw [List.take_succ_eq_append_getElem h, cntP_append]
  simp [cntP]
theorem cntP_bound : ∀ {l : List Rk}, (∀ r ∈ l, rkE r = 0) → 0 ≤ cntP l ∧ cntP l ≤ 97 * (l.length : Int)
  | [], _ => by simp [cntP]
  | r :: l, h => by
    have hr := h r (by simp)
    have ih := cntP_bound (l := l) (fun x hx => h x (by simp [hx]))
    have : 1 ≤ r.cnt ∧ r.cnt ≤ 97 := by
      unfold rkE at hr
      split at hr
      · split at hr
        · omega
        · omega
      · omega
    rw [cntP, List.length_cons]
    omega
def pipesP (S : Sp) : Int × Int := if (checkP S).2 = 0 then (cntP S.rs, 0) else (0, (checkP S).2)
theorem checkP_zero {S : Sp} (h : (checkP S).2 = 0) : checkP S = ((0, 0, 0), 0) ∧ S.ds.length ≤ 6 ∧ S.rs.length ≤ 40 ∧ S.ss.length ≤ 80 ∧ S.cs.length ≤ 24 ∧ fst0 (errD S) S.ds.length = none ∧ fst0 (errR S) S.rs.length = none ∧ (∀ j, j < S.ss.length → (stopE S j).2 = 0) ∧ fst0 (errC S) S.cs.length = none := by
  have hl : ¬ (6 < S.ds.length ∨ 40 < S.rs.length ∨ 80 < S.ss.length ∨ 24 < S.cs.length) := by
    intro hl
    rw [check_toolong hl] at h
    cases h
  cases hD : fst0 (errD S) S.ds.length with
  | some i => rw [checkP_d hl hD] at h; exact absurd h (fst0_is hD).2.1
  | none =>
    cases hR : fst0 (errR S) S.rs.length with
    | some i => rw [checkP_r hl hD hR] at h; exact absurd h (fst0_is hR).2.1
    | none =>
      cases hS : fst0 (fun i => (stopE S i).2) S.ss.length with
      | some i =>
        obtain ⟨h1, h2, h3⟩ := fst0_is hS
        rw [checkP_s hl hD hR h1 h2 h3] at h
        exact absurd h h2
      | none =>
        have hS' := fst0_none.1 hS
        cases hC : fst0 (errC S) S.cs.length with
        | some i => rw [checkP_c hl hD hR hS' hC] at h; exact absurd h (fst0_is hC).2.1
        | none => exact ⟨checkP_ok hl hD hR hS' hC, by omega, by omega, by omega, by omega, rfl, rfl, hS', rfl⟩
set_option maxRecDepth 100000 in
set_option maxHeartbeats 3200000 in
theorem rpipes_any (v1 v2 v3 v4 : Value) (S : Sp) (ok : SpOk S) (w : World) (f : Nat → Value) (hsp : SpRd w v1 v2 v3 v4 f S) :
    Calls Tryd.prog 11 #[.agg #[v1, v2, v3, v4]] w fun e w' => e = .returned (.tuple #[.int .i64 (pipesP S).1, .int .i64 (pipesP S).2]) ∧ Below w.heap.size w w' := by
  have HSP := Lib.hid hsp
  have HOK := Lib.hid ok
  have hb0 : Below w.heap.size w (w.alloc (.cells #[v1, v2, v3, v4] 27)) := (Below.refl _ w).alloc (Nat.le_refl _) _
  have k0 : Blk (w.alloc (.cells #[v1, v2, v3, v4] 27)) w.heap.size 27 #[v1, v2, v3, v4] := Blk.new w _ _
  have HC := Lib.hid (rcheck_any v1 v2 v3 v4 S ok _ f (hsp.later hb0))
  obtain ⟨a2, c2, ev2⟩ := hsp.forms.2.1
  subst ev2
  obtain ⟨er, her⟩ : ∃ er, er = (checkP S).2 := ⟨_, rfl⟩
  obtain ⟨fl, hfl⟩ : ∃ fl, fl = (checkP S).1 := ⟨_, rfl⟩
  have hcv : ckV (checkP S) = .tuple #[.agg #[.int .i64 fl.1, .int .i64 fl.2.1, .int .i64 fl.2.2], .int .i64 er] := by unfold ckV; rw [her, hfl]
  rw [hcv] at HC
  by_cases hz : er = 0
  · have hP : pipesP S = (cntP S.rs, 0) := by unfold pipesP; rw [if_pos (her.symm.trans hz)]
    have HP := Lib.hid hP
    obtain ⟨h1, h2, h3, h4, h5, h6, h7, h8, h9⟩ := checkP_zero (her.symm.trans hz)
    have HR := Lib.hid (all_rkE h7)
    have hl : S.rs.length ≤ 40 := h3
    rw [hz] at HC
    clear h1 h2 h3 h4 h5 h6 h7 h8 h9 hP hcv her hfl hz ok hsp
    go_enter Tryd.func11, Tryd.ntmps11
    go_wp2_with fail
    refine (HC.out).mono ?_
    rintro e w1 ⟨rfl, hb1⟩
    have k1 := k0.below hb1
    have hb := below_step hb0 hb1
    obtain ⟨s0, s1, s2, s3⟩ := (k1.alloc (.cells #[.int .i64 fl.1, .int .i64 fl.2.1, .int .i64 fl.2.2] 31)).four
    have hbA : Below w.heap.size w (w1.alloc (.cells #[.int .i64 fl.1, .int .i64 fl.2.1, .int .i64 fl.2.2] 31)) := hb.alloc hb.size _
    have HBA := Lib.hid hbA
    have HSA := Lib.hid (HSP.out.later hbA)
    have hbd : ∀ k, k ≤ S.rs.length → 0 ≤ cntP (S.rs.take k) ∧ cntP (S.rs.take k) ≤ 97 * (S.rs.length : Int) := by
      intro k hk
      have h := cntP_bound (l := S.rs.take k) (fun r hr => HR.out r (List.mem_of_mem_take hr))
      have : (S.rs.take k).length ≤ S.rs.length := by rw [List.length_take]; omega
      omega
    have HBD := Lib.hid hbd
    clear hbd hbA
    go_wp2
    go_loop [6, 7] (fun n x => ∃ k : Nat, k ≤ S.rs.length ∧ x = .int .i64 k ∧ n = .int .i64 (cntP (S.rs.take k))) (fun _ x => S.rs.length - (intOf x).toNat)
    case atStart => exact ⟨0, by omega, rfl, by simp [cntP]⟩
    obtain ⟨k, hk, rfl, rfl⟩ := hrel
    by_cases hlt : k < S.rs.length
    · obtain ⟨b, o, c, ev, hbl, r0, r1, r2, r3, r4, r5⟩ := HSA.out.rAt k hlt
      cases ev
      have hk2 : (k : Int) < (S.rs.length : Int) := by omega
      have hq := cntP_take hlt
      have hb1' := HBD.out k hk
      have hb2' := HBD.out (k + 1) (by omega)
      have e3 : IntKind.i64.wrap (cntP (S.rs.take k) + S.rs[k].cnt) = cntP (S.rs.take (k + 1)) := by rw [hq]; exact IntWalk.i64_in _ (by omega)
      have HQ := Lib.hid hq
      clear hq
      go_wp2
      go_round
      case rel => exact ⟨k + 1, by omega, by go_num, by rw [HQ.out]⟩
      case measure => simp [intOf]; omega
    · have hke : k = S.rs.length := by omega
      have hk2 : ¬ ((k : Int) < (S.rs.length : Int)) := by omega
      have HT := Lib.hid (show cntP (S.rs.take k) = cntP S.rs by rw [hke, List.take_length])
      go_wp2
      refine bodyPost_ret (v := .tuple #[.int .i64 (cntP (S.rs.take k)), .int .i64 0]) (by simp [results, Tryd.results11, go_sem] <;> exact HT.out.symm) rfl ⟨by rw [HP.out, HT.out], HBA.out⟩
  · have hP : pipesP S = (0, er) := by unfold pipesP; rw [if_neg (fun h => hz (her.trans h)), her]
    have HP := Lib.hid hP
    have b1 : (er == 0) = false := beq_eq_false_iff_ne.2 hz
    clear hP hcv her hfl hz ok hsp
    go_enter Tryd.func11, Tryd.ntmps11
    go_wp2_with fail
    refine (HC.out).mono ?_
    rintro e w1 ⟨rfl, hb1⟩
    have hb := below_step hb0 hb1
    go_wp2
    refine bodyPost_ret (v := .tuple #[.int .i64 0, .int .i64 er]) (by simp [results, Tryd.results11, go_sem]) rfl ⟨by rw [HP.out], hb.alloc hb.size _⟩
set_option maxRecDepth 100000 in
set_option maxHeartbeats 3200000 in
theorem pipes_any (v1 v2 v3 v4 : Value) (S : Sp) (ok : SpOk S) (w : World) (t : Tabs w) (f : Nat → Value) (hsp : SpRd w v1 v2 v3 v4 f S) :
    Calls Tryd.prog 10 #[.agg #[v1, v2, v3, v4]] w fun e w' => e = .returned (.tuple #[.int .i64 (pipesP S).1, .int .i64 (pipesP S).2]) ∧ Below w.heap.size w w' := by
  have HSP := Lib.hid hsp
  have HOK := Lib.hid ok
  have hb0 : Below w.heap.size w (w.alloc (.cells #[v1, v2, v3, v4] 27)) := (Below.refl _ w).alloc (Nat.le_refl _) _
  have k0 : Blk (w.alloc (.cells #[v1, v2, v3, v4] 27)) w.heap.size 27 #[v1, v2, v3, v4] := Blk.new w _ _
  have HC := Lib.hid (check_any v1 v2 v3 v4 S ok _ (t.below hb0) f (hsp.later hb0))
  obtain ⟨a2, c2, ev2⟩ := hsp.forms.2.1
  subst ev2
  obtain ⟨er, her⟩ : ∃ er, er = (checkP S).2 := ⟨_, rfl⟩
  obtain ⟨fl, hfl⟩ : ∃ fl, fl = (checkP S).1 := ⟨_, rfl⟩
  have hcv : ckV (checkP S) = .tuple #[.agg #[.int .i64 fl.1, .int .i64 fl.2.1, .int .i64 fl.2.2], .int .i64 er] := by unfold ckV; rw [her, hfl]
  rw [hcv] at HC
  by_cases hz : er = 0
  · have hP : pipesP S = (cntP S.rs, 0) := by unfold pipesP; rw [if_pos (her.symm.trans hz)]
    have HP := Lib.hid hP
    obtain ⟨h1, h2, h3, h4, h5, h6, h7, h8, h9⟩ := checkP_zero (her.symm.trans hz)
    have HR := Lib.hid (all_rkE h7)
    have hl : S.rs.length ≤ 40 := h3
    rw [hz] at HC
    clear h1 h2 h3 h4 h5 h6 h7 h8 h9 hP hcv her hfl hz ok hsp
    go_enter Tryd.func10, Tryd.ntmps10
    go_wp2_with fail
    refine (HC.out).mono ?_
    rintro e w1 ⟨rfl, hb1⟩
    have k1 := k0.below hb1
    have hb := below_step hb0 hb1
    obtain ⟨s0, s1, s2, s3⟩ := (k1.alloc (.cells #[.int .i64 fl.1, .int .i64 fl.2.1, .int .i64 fl.2.2] 31)).four
    have hbA : Below w.heap.size w (w1.alloc (.cells #[.int .i64 fl.1, .int .i64 fl.2.1, .int .i64 fl.2.2] 31)) := hb.alloc hb.size _
    have HBA := Lib.hid hbA
    have hbd : ∀ k, k ≤ S.rs.length → 0 ≤ cntP (S.rs.take k) ∧ cntP (S.rs.take k) ≤ 97 * (S.rs.length : Int) := by
      intro k hk
      have h := cntP_bound (l := S.rs.take k) (fun r hr => HR.out r (List.mem_of_mem_take hr))
      have : (S.rs.take k).length ≤ S.rs.length := by rw [List.length_take]; omega
      omega
    have HBD := Lib.hid hbd
    clear hbd hbA
    go_wp2
    go_loopw [6, 20] (fun n x wr => ∃ k : Nat, k ≤ S.rs.length ∧ x = .int .i64 k ∧ n = .int .i64 (cntP (S.rs.take k)) ∧ RowKit.Hid (Below w.heap.size w wr)) (fun _ x _ => S.rs.length - (intOf x).toNat)
    case atStart => exact ⟨0, by omega, rfl, by simp [cntP], HBA⟩
    obtain ⟨k, hk, rfl, rfl, hW⟩ := hrel
    by_cases hlt : k < S.rs.length
    · obtain ⟨b, o, c, ev, hbl, r0, r1, r2, r3, r4, r5⟩ := (HSP.out.later hW.out).rAt k hlt
      cases ev
      have hk2 : (k : Int) < (S.rs.length : Int) := by omega
      have hq := cntP_take hlt
      have hb1' := HBD.out k hk
      have hb2' := HBD.out (k + 1) (by omega)
      have e3 : IntKind.i64.wrap (cntP (S.rs.take k) + S.rs[k].cnt) = cntP (S.rs.take (k + 1)) := by rw [hq]; exact IntWalk.i64_in _ (by omega)
      have HQ := Lib.hid hq
      clear hq
      go_wp2
      go_roundw
      case rel => exact ⟨k + 1, by omega, by go_num, by rw [HQ.out], Lib.hid (hW.out.alloc hW.out.size _)⟩
      case measure => simp [intOf]; omega
    · have hke : k = S.rs.length := by omega
      have hk2 : ¬ ((k : Int) < (S.rs.length : Int)) := by omega
      have HT := Lib.hid (show cntP (S.rs.take k) = cntP S.rs by rw [hke, List.take_length])
      go_wp2
      refine bodyPost_ret (v := .tuple #[.int .i64 (cntP (S.rs.take k)), .int .i64 0]) (by simp [results, Tryd.results10, go_sem] <;> exact HT.out.symm) rfl ⟨by rw [HP.out, HT.out], hW.out⟩
  · have hP : pipesP S = (0, er) := by unfold pipesP; rw [if_neg (fun h => hz (her.trans h)), her]
    have HP := Lib.hid hP
    have b1 : (er == 0) = false := beq_eq_false_iff_ne.2 hz
    clear hP hcv her hfl hz ok hsp
    go_enter Tryd.func10, Tryd.ntmps10
    go_wp2_with fail
    refine (HC.out).mono ?_
    rintro e w1 ⟨rfl, hb1⟩
    have hb := below_step hb0 hb1
    go_wp2
    refine bodyPost_ret (v := .tuple #[.int .i64 0, .int .i64 er]) (by simp [results, Tryd.results10, go_sem]) rfl ⟨by rw [HP.out], hb.alloc hb.size _⟩
end Go.Proofs.YtkddeliifadcoaaDoor
