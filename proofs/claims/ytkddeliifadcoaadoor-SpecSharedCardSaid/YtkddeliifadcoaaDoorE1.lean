/-
  CONTRACTS: Pipes, the reference's Pipes. CONTRACTS: the reference's Plays, SamePipes. CONTRACTS: the reference's SamePipes.
-/
import Derived.Test.YtkddeliifadcoaaDoorC10
import Derived.Test.YtkddeliifadcoaaDoorD6
import Derived.Test.YtkddeliifadcoaaDoorPpP
namespace Go.Proofs.YtkddeliifadcoaaDoor
open Go.RowKit
/-- How many pipes. -/
def cntP : List Rk → Int
  | [] => 0
  | r :: l => r.cnt + cntP l
theorem cntP_append (a b : List Rk) : cntP (a ++ b) = cntP a + cntP b := by
  induction a with
  | nil => simp [cntP]
  | cons x l ih => rw [List.cons_append, cntP, cntP, ih]; omega
theorem cntP_take {l : List Rk} {k : Nat} (h : k < l.length) : cntP (l.take (k + 1)) = cntP (l.take k) + l[k].cnt := by
  rw [List.take_succ_eq_append_getElem h, cntP_append]
  simp [cntP]
theorem cntP_bound : ∀ {l : List Rk}, (∀ r ∈ l, rkE r = 0) → 0 ≤ cntP l ∧ cntP l ≤ 97 * (l.length : Int)
  | [], _ => by simp [cntP]
  | r :: l, h => by
    have hr := h r (by simp)
    have ih := cntP_bound (l := l) (fun x hx => h x (by simp [hx]))
    have : 1 ≤ r.cnt ∧ r.cnt ≤ 97 := by
      unfold rkE at hr
      split at hr
      · split at hr
        · omega
        · omega
      · omega
    rw [cntP, List.length_cons]
    omega
def pipesP (S : Sp) : Int × Int := if (checkP S).2 = 0 then (cntP S.rs, 0) else (0, (checkP S).2)
theorem checkP_zero {S : Sp} (h : (checkP S).2 = 0) : checkP S = ((0, 0, 0), 0) ∧ S.ds.length ≤ 6 ∧ S.rs.length ≤ 40 ∧ S.ss.length ≤ 80 ∧ S.cs.length ≤ 24 ∧ fst0 (errD S) S.ds.length = none ∧ fst0 (errR S) S.rs.length = none ∧ (∀ j, j < S.ss.length → (stopE S j).2 = 0) ∧ fst0 (errC S) S.cs.length = none := by
  have hl : ¬ (6 < S.ds.length ∨ 40 < S.rs.length ∨ 80 < S.ss.length ∨ 24 < S.cs.length) := by
    intro hl
    rw [check_toolong hl] at h
    cases h
  cases hD : fst0 (errD S) S.ds.length with
  | some i => rw [checkP_d hl hD] at h; exact absurd h (fst0_is hD).2.1
  | none =>
    cases hR : fst0 (errR S) S.rs.length with
    | some i => rw [checkP_r hl hD hR] at h; exact absurd h (fst0_is hR).2.1
    | none =>
      cases hS : fst0 (fun i => (stopE S i).2) S.ss.length with
      | some i =>
        obtain ⟨h1, h2, h3⟩ := fst0_is hS
        rw [checkP_s hl hD hR h1 h2 h3] at h
        exact absurd h h2
      | none =>
        have hS' := fst0_none.1 hS
        cases hC : fst0 (errC S) S.cs.length with
        | some i => rw [checkP_c hl hD hR hS' hC] at h; exact absurd h (fst0_is hC).2.1
        | none => exact ⟨checkP_ok hl hD hR hS' hC, by omega, by omega, by omega, by omega, rfl, rfl, hS', rfl⟩
set_option maxRecDepth 100000 in
set_option maxHeartbeats 3200000 in
theorem rpipes_any (v1 v2 v3 v4 : Value) (S : Sp) (ok : SpOk S) (w : World) (f : Nat → Value) (hsp : SpRd w v1 v2 v3 v4 f S) :
    Calls Tryd.prog 11 #[.agg #[v1, v2, v3, v4]] w fun e w' => e = .returned (.tuple #[.int .i64 (pipesP S).1, .int .i64 (pipesP S).2]) ∧ Below w.heap.size w w' := by
  have HSP := Lib.hid hsp
  have HOK := Lib.hid ok
  have hb0 : Below w.heap.size w (w.alloc (.cells #[v1, v2, v3, v4] 27)) := (Below.refl _ w).alloc (Nat.le_refl _) _
  have k0 : Blk (w.alloc (.cells #[v1, v2, v3, v4] 27)) w.heap.size 27 #[v1, v2, v3, v4] := Blk.new w _ _
  have HC := Lib.hid (rcheck_any v1 v2 v3 v4 S ok _ f (hsp.later hb0))
  obtain ⟨a2, c2, ev2⟩ := hsp.forms.2.1
  subst ev2
  obtain ⟨er, her⟩ : ∃ er, er = (checkP S).2 := ⟨_, rfl⟩
  obtain ⟨fl, hfl⟩ : ∃ fl, fl = (checkP S).1 := ⟨_, rfl⟩
  have hcv : ckV (checkP S) = .tuple #[.agg #[.int .i64 fl.1, .int .i64 fl.2.1, .int .i64 fl.2.2], .int .i64 er] := by unfold ckV; rw [her, hfl]
  rw [hcv] at HC
  by_cases hz : er = 0
  · have hP : pipesP S = (cntP S.rs, 0) := by unfold pipesP; rw [if_pos (her.symm.trans hz)]
    have HP := Lib.hid hP
    obtain ⟨h1, h2, h3, h4, h5, h6, h7, h8, h9⟩ := checkP_zero (her.symm.trans hz)
    have HR := Lib.hid (all_rkE h7)
    have hl : S.rs.length ≤ 40 := h3
    rw [hz] at HC
    clear h1 h2 h3 h4 h5 h6 h7 h8 h9 hP hcv her hfl hz ok hsp
    go_enter Tryd.func11, Tryd.ntmps11
    go_wp2_with fail
    refine (HC.out).mono ?_
    rintro e w1 ⟨rfl, hb1⟩
    have k1 := k0.below hb1
    have hb := below_step hb0 hb1
    obtain ⟨s0, s1, s2, s3⟩ := (k1.alloc (.cells #[.int .i64 fl.1, .int .i64 fl.2.1, .int .i64 fl.2.2] 31)).four
    have hbA : Below w.heap.size w (w1.alloc (.cells #[.int .i64 fl.1, .int .i64 fl.2.1, .int .i64 fl.2.2] 31)) := hb.alloc hb.size _
    have HBA := Lib.hid hbA
    have HSA := Lib.hid (HSP.out.later hbA)
    have hbd : ∀ k, k ≤ S.rs.length → 0 ≤ cntP (S.rs.take k) ∧ cntP (S.rs.take k) ≤ 97 * (S.rs.length : Int) := by
      intro k hk
      have h := cntP_bound (l := S.rs.take k) (fun r hr => HR.out r (List.mem_of_mem_take hr))
      have : (S.rs.take k).length ≤ S.rs.length := by rw [List.length_take]; omega
      omega
    have HBD := Lib.hid hbd
    clear hbd hbA
    go_wp2
    go_loop [6, 7] (fun n x => ∃ k : Nat, k ≤ S.rs.length ∧ x = .int .i64 k ∧ n = .int .i64 (cntP (S.rs.take k))) (fun _ x => S.rs.length - (intOf x).toNat)
    case atStart => exact ⟨0, by omega, rfl, by simp [cntP]⟩
    obtain ⟨k, hk, rfl, rfl⟩ := hrel
    by_cases hlt : k < S.rs.length
    · obtain ⟨b, o, c, ev, hbl, r0, r1, r2, r3, r4, r5⟩ := HSA.out.rAt k hlt
      cases ev
      have hk2 : (k : Int) < (S.rs.length : Int) := by omega
      have hq := cntP_take hlt
      have hb1' := HBD.out k hk
      have hb2' := HBD.out (k + 1) (by omega)
      have e3 : IntKind.i64.wrap (cntP (S.rs.take k) + S.rs[k].cnt) = cntP (S.rs.take (k + 1)) := by rw [hq]; exact IntWalk.i64_in _ (by omega)
      have HQ := Lib.hid hq
      clear hq
      go_wp2
      go_round
      case rel => exact ⟨k + 1, by omega, by go_num, by rw [HQ.out]⟩
      case measure => simp [intOf]; omega
    · have hke : k = S.rs.length := by omega
      have hk2 : ¬ ((k : Int) < (S.rs.length : Int)) := by omega
      have HT := Lib.hid (show cntP (S.rs.take k) = cntP S.rs by rw [hke, List.take_length])
      go_wp2
      refine bodyPost_ret (v := .tuple #[.int .i64 (cntP (S.rs.take k)), .int .i64 0]) (by simp [results, Tryd.results11, go_sem] <;> exact HT.out.symm) rfl ⟨by rw [HP.out, HT.out], HBA.out⟩
  · have hP : pipesP S = (0, er) := by unfold pipesP; rw [if_neg (fun h => hz (her.trans h)), her]
    have HP := Lib.hid hP
    have b1 : (er == 0) = false := beq_eq_false_iff_ne.2 hz
    clear hP hcv her hfl hz ok hsp
    go_enter Tryd.func11, Tryd.ntmps11
    go_wp2_with fail
    refine (HC.out).mono ?_
    rintro e w1 ⟨rfl, hb1⟩
    have hb := below_step hb0 hb1
    go_wp2
    refine bodyPost_ret (v := .tuple #[.int .i64 0, .int .i64 er]) (by simp [results, Tryd.results11, go_sem]) rfl ⟨by rw [HP.out], hb.alloc hb.size _⟩
set_option maxRecDepth 100000 in
set_option maxHeartbeats 3200000 in
theorem pipes_any (v1 v2 v3 v4 : Value) (S : Sp) (ok : SpOk S) (w : World) (t : Tabs w) (f : Nat → Value) (hsp : SpRd w v1 v2 v3 v4 f S) :
    Calls Tryd.prog 10 #[.agg #[v1, v2, v3, v4]] w fun e w' => e = .returned (.tuple #[.int .i64 (pipesP S).1, .int .i64 (pipesP S).2]) ∧ Below w.heap.size w w' := by
  have HSP := Lib.hid hsp
  have HOK := Lib.hid ok
  have hb0 : Below w.heap.size w (w.alloc (.cells #[v1, v2, v3, v4] 27)) := (Below.refl _ w).alloc (Nat.le_refl _) _
  have k0 : Blk (w.alloc (.cells #[v1, v2, v3, v4] 27)) w.heap.size 27 #[v1, v2, v3, v4] := Blk.new w _ _
  have HC := Lib.hid (check_any v1 v2 v3 v4 S ok _ (t.below hb0) f (hsp.later hb0))
  obtain ⟨a2, c2, ev2⟩ := hsp.forms.2.1
  subst ev2
  obtain ⟨er, her⟩ : ∃ er, er = (checkP S).2 := ⟨_, rfl⟩
  obtain ⟨fl, hfl⟩ : ∃ fl, fl = (checkP S).1 := ⟨_, rfl⟩
  have hcv : ckV (checkP S) = .tuple #[.agg #[.int .i64 fl.1, .int .i64 fl.2.1, .int .i64 fl.2.2], .int .i64 er] := by unfold ckV; rw [her, hfl]
  rw [hcv] at HC
  by_cases hz : er = 0
  · have hP : pipesP S = (cntP S.rs, 0) := by unfold pipesP; rw [if_pos (her.symm.trans hz)]
    have HP := Lib.hid hP
    obtain ⟨h1, h2, h3, h4, h5, h6, h7, h8, h9⟩ := checkP_zero (her.symm.trans hz)
    have HR := Lib.hid (all_rkE h7)
    have hl : S.rs.length ≤ 40 := h3
    rw [hz] at HC
    clear h1 h2 h3 h4 h5 h6 h7 h8 h9 hP hcv her hfl hz ok hsp
    go_enter Tryd.func10, Tryd.ntmps10
    go_wp2_with fail
    refine (HC.out).mono ?_
    rintro e w1 ⟨rfl, hb1⟩
    have k1 := k0.below hb1
    have hb := below_step hb0 hb1
    obtain ⟨s0, s1, s2, s3⟩ := (k1.alloc (.cells #[.int .i64 fl.1, .int .i64 fl.2.1, .int .i64 fl.2.2] 31)).four
    have hbA : Below w.heap.size w (w1.alloc (.cells #[.int .i64 fl.1, .int .i64 fl.2.1, .int .i64 fl.2.2] 31)) := hb.alloc hb.size _
    have HBA := Lib.hid hbA
    have hbd : ∀ k, k ≤ S.rs.length → 0 ≤ cntP (S.rs.take k) ∧ cntP (S.rs.take k) ≤ 97 * (S.rs.length : Int) := by
      intro k hk
      have h := cntP_bound (l := S.rs.take k) (fun r hr => HR.out r (List.mem_of_mem_take hr))
      have : (S.rs.take k).length ≤ S.rs.length := by rw [List.length_take]; omega
      omega
    have HBD := Lib.hid hbd
    clear hbd hbA
    go_wp2
    go_loopw [6, 20] (fun n x wr => ∃ k : Nat, k ≤ S.rs.length ∧ x = .int .i64 k ∧ n = .int .i64 (cntP (S.rs.take k)) ∧ RowKit.Hid (Below w.heap.size w wr)) (fun _ x _ => S.rs.length - (intOf x).toNat)
    case atStart => exact ⟨0, by omega, rfl, by simp [cntP], HBA⟩
    obtain ⟨k, hk, rfl, rfl, hW⟩ := hrel
    by_cases hlt : k < S.rs.length
    · obtain ⟨b, o, c, ev, hbl, r0, r1, r2, r3, r4, r5⟩ := (HSP.out.later hW.out).rAt k hlt
      cases ev
      have hk2 : (k : Int) < (S.rs.length : Int) := by omega
      have hq := cntP_take hlt
      have hb1' := HBD.out k hk
      have hb2' := HBD.out (k + 1) (by omega)
      have e3 : IntKind.i64.wrap (cntP (S.rs.take k) + S.rs[k].cnt) = cntP (S.rs.take (k + 1)) := by rw [hq]; exact IntWalk.i64_in _ (by omega)
      have HQ := Lib.hid hq
      clear hq
      go_wp2
      go_roundw
      case rel => exact ⟨k + 1, by omega, by go_num, by rw [HQ.out], Lib.hid (hW.out.alloc hW.out.size _)⟩
      case measure => simp [intOf]; omega
    · have hke : k = S.rs.length := by omega
      have hk2 : ¬ ((k : Int) < (S.rs.length : Int)) := by omega
      have HT := Lib.hid (show cntP (S.rs.take k) = cntP S.rs by rw [hke, List.take_length])
      go_wp2
      refine bodyPost_ret (v := .tuple #[.int .i64 (cntP (S.rs.take k)), .int .i64 0]) (by simp [results, Tryd.results10, go_sem] <;> exact HT.out.symm) rfl ⟨by rw [HP.out, HT.out], hW.out⟩
  · have hP : pipesP S = (0, er) := by unfold pipesP; rw [if_neg (fun h => hz (her.trans h)), her]
    have HP := Lib.hid hP
    have b1 : (er == 0) = false := beq_eq_false_iff_ne.2 hz
    clear hP hcv her hfl hz ok hsp
    go_enter Tryd.func10, Tryd.ntmps10
    go_wp2_with fail
    refine (HC.out).mono ?_
    rintro e w1 ⟨rfl, hb1⟩
    have hb := below_step hb0 hb1
    go_wp2
    refine bodyPost_ret (v := .tuple #[.int .i64 0, .int .i64 er]) (by simp [results, Tryd.results10, go_sem]) rfl ⟨by rw [HP.out], hb.alloc hb.size _⟩
def plB (y : Pt) (key : Int) (p : Pp) : Bool := decide (y.rank = p.1 ∧ y.lo ≤ key ∧ key ≤ y.hi ∧ key + y.shift = p.2)
structure PlSt (w : World) (cx cp : Array Value) (W : World) : Prop where
  st : Blk W w.heap.size 61 cx
  pp : Blk W (w.heap.size + 1) 46 cp
  low : Below w.heap.size w W
theorem PlSt.below {w W W' : World} {cx cp : Array Value} (h : PlSt w cx cp W) (hb : Below W.heap.size W W') : PlSt w cx cp W' := ⟨h.st.below hb, h.pp.below hb, below_step h.low hb⟩
theorem PlSt.new (w : World) (cx cp : Array Value) : PlSt w cx cp ((w.alloc (.cells cx 61)).alloc (.cells cp 46)) where
  st := (Blk.new w _ _).alloc _
  pp := by
    have := Blk.new (w.alloc (.cells cx 61)) 46 cp
    rwa [World.size_alloc] at this
  low := ((Below.refl _ w).alloc (Nat.le_refl _) _).alloc (by simp) _
set_option maxRecDepth 100000 in
set_option maxHeartbeats 3200000 in
theorem rplays_any (x : St) (v : Value) (key : Int) (p : Pp) (w : World) (hv : ARd w v 4 (x.parts.map ptC)) (hl : x.parts.length ≤ 1000) (hr : ∀ y ∈ x.parts, -96 ≤ y.shift ∧ y.shift ≤ 96) (hk : -1000 ≤ key ∧ key ≤ 1000) :
    Calls Tryd.prog 41 #[.agg #[.string x.name, .int .i64 x.div, .int .i64 x.num, .int .i64 x.den, v], .int .i64 key, .agg #[.int .i64 p.1, .int .i64 p.2]] w fun e w' => e = .returned (.bool (playsB x key p)) ∧ Below w.heap.size w w' := by
  obtain ⟨a, c, ev⟩ := hv.form
  rw [List.length_map] at ev
  subst ev
  have HV := Lib.hid hv
  have HST := Lib.hid (PlSt.new w #[.string x.name, .int .i64 x.div, .int .i64 x.num, .int .i64 x.den, .slice a x.parts.length c] #[.int .i64 p.1, .int .i64 p.2])
  go_enter Tryd.func41, Tryd.ntmps41
  go_wp2
  go_loopw [7] (fun n wr => ∃ k : Nat, k ≤ x.parts.length ∧ n = .int .i64 k ∧ RowKit.Hid (∀ j (h : j < x.parts.length), j < k → plB x.parts[j] key p = false) ∧ RowKit.Hid (PlSt w #[.string x.name, .int .i64 x.div, .int .i64 x.num, .int .i64 x.den, .slice a x.parts.length c] #[.int .i64 p.1, .int .i64 p.2] wr)) (fun n _ => x.parts.length - (intOf n).toNat)
  case atStart => exact ⟨0, by omega, rfl, Lib.hid (fun j _ hj => by omega), HST⟩
  obtain ⟨k, hk', rfl, hE, hS⟩ := hrel
  have t3 := hS.out.st.cell 4
  by_cases hlt : k < x.parts.length
  · obtain ⟨b, o, c', ev', hbl, hc⟩ := (HV.out.later hS.out.low).at k (by simpa using hlt)
    rw [List.getElem_map] at hc
    have q0 : wr.cell? ⟨b, o + k * 4, none⟩ = some (.int .i64 x.parts[k].rank) := hc 0 _ rfl
    have q1 : wr.cell? ⟨b, o + k * 4 + 1, none⟩ = some (.int .i64 x.parts[k].shift) := hc 1 _ rfl
    have q2 : wr.cell? ⟨b, o + k * 4 + 2, none⟩ = some (.int .i64 x.parts[k].lo) := hc 2 _ rfl
    have q3 : wr.cell? ⟨b, o + k * 4 + 3, none⟩ = some (.int .i64 x.parts[k].hi) := hc 3 _ rfl
    rw [List.length_map] at ev'
    cases ev'
    have hk2 : (k : Int) < (x.parts.length : Int) := by omega
    have hsh := hr x.parts[k] (List.getElem_mem hlt)
    have u0 : ∀ cs, (wr.alloc (.cells cs 75)).cell? ⟨w.heap.size + 1, 0, none⟩ = some (.int .i64 p.1) := fun cs => (hS.out.pp.alloc (.cells cs 75)).cell 0
    have u1 : ∀ cs, (wr.alloc (.cells cs 75)).cell? ⟨w.heap.size + 1, 1, none⟩ = some (.int .i64 p.2) := fun cs => (hS.out.pp.alloc (.cells cs 75)).cell 1
    go_wp2
    all_goals first
      | (have HT := Lib.hid (show playsB x key p = true from List.any_eq_true.2 ⟨x.parts[k], List.getElem_mem hlt, decide_eq_true ⟨by assumption, by assumption, by assumption, beq_iff_eq.1 (by assumption)⟩⟩); go_ret; exact ⟨by rw [HT.out]; rfl, hS.out.low.alloc hS.out.low.size _⟩)
      | (refine ⟨⟨k + 1, by omega, by go_num, Lib.hid (fun j h hj => by rcases Nat.lt_succ_iff_lt_or_eq.1 hj with h' | h'; exact hE.out j h h'; subst h'; unfold plB; rw [decide_eq_false_iff_not]; rintro ⟨g1, g2, g3, g4⟩; first | omega | simp_all), Lib.hid (hS.out.below ((Below.refl _ _).alloc (Nat.le_refl _) _))⟩, by simp [intOf]; omega⟩)
  · have hk2 : ¬ ((k : Int) < (x.parts.length : Int)) := by omega
    have HF := Lib.hid (show playsB x key p = false from List.any_eq_false.2 (fun y hy => by
      obtain ⟨j, hj, rfl⟩ := List.mem_iff_getElem.1 hy
      have := hE.out j hj (by omega)
      unfold plB at this
      simpa using this))
    have HL := Lib.hid hS.out.low
    go_wp2
    go_ret
    exact ⟨by rw [HF.out]; rfl, HL.out⟩
def ppC (p : Pp) : List Value := [.int .i64 p.1, .int .i64 p.2]
set_option maxRecDepth 100000 in
set_option maxHeartbeats 3200000 in
theorem same_pipes (l : List Pp) (v u : Value) (w : World) (hv : ARd w v 2 (l.map ppC)) (hu : ARd w u 2 (l.map ppC)) (hl : l.length ≤ 100000) :
    Calls Tryd.prog 14 #[v, u] w fun e w' => e = .returned (.bool true) ∧ Below w.heap.size w w' := by
  obtain ⟨a, c, ev⟩ := hv.form
  obtain ⟨a2, c2, eu⟩ := hu.form
  rw [List.length_map] at ev eu
  subst ev
  subst eu
  have HV := Lib.hid hv
  have HU := Lib.hid hu
  go_enter Tryd.func14, Tryd.ntmps14
  go_wp2
  go_loopw [5] (fun x wr => ∃ k : Nat, k ≤ l.length ∧ x = .int .i64 k ∧ RowKit.Hid (Below w.heap.size w wr)) (fun x _ => l.length - (intOf x).toNat)
  case atStart => exact ⟨0, by omega, rfl, Lib.hid (Below.refl _ _)⟩
  obtain ⟨k, hk, rfl, hW⟩ := hrel
  by_cases hlt : k < l.length
  · obtain ⟨b, o, c', ev', hbl, hc⟩ := (HV.out.later hW.out).at k (by simpa using hlt)
    obtain ⟨b2, o2, c2', eu', hbl2, hc2⟩ := (HU.out.later hW.out).at k (by simpa using hlt)
    rw [List.getElem_map] at hc hc2
    rw [List.length_map] at ev' eu'
    have q0 : wr.cell? ⟨b, o + k * 2, none⟩ = some (.int .i64 l[k].1) := hc 0 _ rfl
    have q1 : wr.cell? ⟨b, o + k * 2 + 1, none⟩ = some (.int .i64 l[k].2) := hc 1 _ rfl
    have r0 : wr.cell? ⟨b2, o2 + k * 2, none⟩ = some (.int .i64 l[k].1) := hc2 0 _ rfl
    have r1 : wr.cell? ⟨b2, o2 + k * 2 + 1, none⟩ = some (.int .i64 l[k].2) := hc2 1 _ rfl
    cases ev'
    cases eu'
    have hk2 : (k : Int) < (l.length : Int) := by omega
    go_wp2_with fail
    go_quiet (fail)
    go_wp2
    go_roundw
    case rel => exact ⟨k + 1, by omega, by go_num, Lib.hid (below_drewN hW.out nq)⟩
    case measure => simp [intOf]; omega
  · have hk2 : ¬ ((k : Int) < (l.length : Int)) := by omega
    go_wp2
    go_ret
    exact ⟨rfl, hW.out⟩
end Go.Proofs.YtkddeliifadcoaaDoor
