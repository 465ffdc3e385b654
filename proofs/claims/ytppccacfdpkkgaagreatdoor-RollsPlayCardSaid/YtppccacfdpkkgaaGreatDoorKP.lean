/-
  CONTRACTS: ref31.Check. CONTRACTS: the reference's on, whatever is on; what Make returns, case by case; a roll whose rows are made one by one. CONTRACTS: the reference's Make. CONTRACTS: Make, whatever the recording and the scale. CONTRACTS: deep, whatever the recording.
-/
import Derived.Test.YtppccacfdpkkgaaGreatDoorK55
import Derived.Test.YtppccacfdpkkgaaGreatDoorDD
import Derived.Test.YtppccacfdpkkgaaGreatDoorKO
import Derived.Test.YtppccacfdpkkgaaGreatDoorK17
import Derived.Test.YtppccacfdpkkgaaGreatDoorK6
import Derived.Test.YtppccacfdpkkgaaGreatDoorK34
import Derived.Test.YtppccacfdpkkgaaGreatDoorF1c
import Derived.Test.YtppccacfdpkkgaaGreatDoorKB
import Derived.Test.YtppccacfdpkkgaaGreatDoorK14
namespace Go.Proofs.YtppccacfdpkkgaaGreatDoor
open Go.RowKit
theorem evR_rec {S : Sp} {l : List Ev} {i : Nat} (hi : i < l.length) : evR S (tickB l i) (onV (l.take i)) l[i] = recF S l i := by
  unfold evR recF
  rw [getD_at hi]
theorem recF_zero {S : Sp} {l : List Ev} {i : Nat} (hi : i < l.length) (h : recF S l i = 0) : tickB l i ≤ l[i].1 ∧ l[i].1 ≤ 100000000 ∧ evE S l[i] = 0 := by
  unfold recF at h
  rw [getD_at hi] at h
  by_cases a : l[i].1 < tickB l i ∨ 100000000 < l[i].1
  · rw [if_pos a] at h; cases h
  · rw [if_neg a] at h
    by_cases b : evE S l[i] = 0
    · exact ⟨by omega, by omega, b⟩
    · rw [if_neg b] at h; exact absurd h b
theorem tickB_pos {S : Sp} {l : List Ev} : ∀ {i : Nat}, i ≤ l.length → (∀ j, j < i → recF S l j = 0) → 0 ≤ tickB l i
  | 0, _, _ => Int.le_refl 0
  | i + 1, hi, h => by
    have ih := tickB_pos (S := S) (l := l) (i := i) (by omega) (fun j hj => h j (by omega))
    have := (recF_zero (by omega) (h i (by omega))).1
    rw [tickB_next (by omega)]
    omega
theorem placed_at {S : Sp} (hc : (checkP S).2 = 0) {l : List Ev} {i : Nat} (hi : i < l.length) (h : recF S l i = 0) : Placed l[i] := ev_placed hc (recF_zero hi h).2.2
theorem bin_take {S : Sp} (hc : (checkP S).2 = 0) {l : List Ev} : ∀ {i : Nat}, i ≤ l.length → (∀ j, j < i → recF S l j = 0) → Bin (onV (l.take i))
  | 0, _, _ => bin_zero
  | i + 1, hi, h => by
    rw [onV_take (by omega)]
    exact bin_on (bin_take hc (by omega) (fun j hj => h j (by omega))) (placed_at hc (by omega) (h i (by omega)))
/-- What ref31.Check knows in its loop. -/
structure RcI (w : World) (B : Nat) (v1 v2 v3 v4 : Value) (wr : World) : Prop where
  b : Below w.heap.size w wr
  x : Blk wr w.heap.size 27 #[v1, v2, v3, v4]
  lt : w.heap.size < B
theorem RcI.next {w wr W2 : World} {B : Nat} {v1 v2 v3 v4 : Value} (h : RcI w B v1 v2 v3 v4 wr) (hb : Below wr.heap.size wr W2) (c : List Value) : RcI w B v1 v2 v3 v4 (W2.setCells B 0 c) := by
  have h1 := below_step h.b hb
  exact ⟨h1.grown (grown_cells _ _ _ _) h1.size (fun k e => by cases e; exact Nat.le_of_lt h.lt), blk_keep (h.x.below hb) (grown_cells B c 0 W2) (by have := h.lt; omega), h.lt⟩
theorem RcI.below {w wr W2 : World} {B : Nat} {v1 v2 v3 v4 : Value} (h : RcI w B v1 v2 v3 v4 wr) (hb : Below wr.heap.size wr W2) : RcI w B v1 v2 v3 v4 W2 := ⟨below_step h.b hb, h.x.below hb, h.lt⟩
theorem OnX.put {f g : Th → Int} {wr W2 : World} {B : Nat} {c c2 : Array Value} (h : Blk wr B 59 c) (hc : OnI f c) (hb : Below wr.heap.size wr W2) (h2 : OnI g c2) : OnX g (W2.setCells B 0 c2.toList) B := ⟨c2, h2, on_put (h.below hb) hc.size h2.size⟩
set_option maxRecDepth 100000 in
set_option maxHeartbeats 6400000 in
theorem rcheck31_any (v1 v2 v3 v4 : Value) (S : Sp) (ok : SpOk S) (f : Nat → Value) (l : List Ev) (vl : Value) (w : World) (hsp : SpRd w v1 v2 v3 v4 f S) (hl : l.length ≤ 1000000) (hlv : ARd w vl 5 (l.map evC)) :
    Calls Tryz.prog 38 #[.agg #[v1, v2, v3, v4], vl] w (RecR S l w) := by
  obtain ⟨al, cl, rfl⟩ := hlv.evForm
  have hb0 : Below w.heap.size w (w.alloc (.cells #[v1, v2, v3, v4] 27)) := (Below.refl _ _).alloc (Nat.le_refl _) _
  have HX := Lib.hid (Blk.new w 27 #[v1, v2, v3, v4])
  have HB0 := Lib.hid hb0
  have HSP := Lib.hid hsp
  have HOK := Lib.hid ok
  have HLV := Lib.hid hlv
  obtain ⟨fl, er, hck⟩ : ∃ (fl : Int × Int × Int) (er : Int), ckV (checkP S) = .tuple #[.agg #[.int .i64 fl.1, .int .i64 fl.2.1, .int .i64 fl.2.2], .int .i64 er] ∧ (checkP S).2 = er := ⟨_, _, rfl, rfl⟩
  have HCK := Lib.hid hck.1
  have HER := Lib.hid hck.2
  clear hb0 hsp ok hlv hck
  go_enter Tryz.func38, Tryz.ntmps38
  go_wp2_with fail
  refine (rcheck_any v1 v2 v3 v4 S HOK.out _ f (HSP.out.later HB0.out)).mono ?_
  rw [HCK.out]
  rintro e W1 ⟨rfl, hb1⟩
  obtain ⟨W2, hw2⟩ : ∃ W2, W1.alloc (.cells #[.int .i64 fl.1, .int .i64 fl.2.1, .int .i64 fl.2.2] 94) = W2 := ⟨_, rfl⟩
  have hb2 : Below W1.heap.size W1 W2 := by rw [← hw2]; exact (Below.refl _ _).alloc (Nat.le_refl _) _
  have HB := Lib.hid (below_step (below_step HB0.out hb1) hb2)
  have HX2 := Lib.hid ((HX.out.below hb1).below hb2)
  clear hb1 hb2
  by_cases he : er = 0
  · have HE : RowKit.Hid ((checkP S).2 = 0) := by rw [HER.out]; exact Lib.hid he
    subst he
    by_cases hg : 20000 < l.length
    · have HEX := Lib.hid (recE_long HE.out hg)
      have hg2 : decide ((20000 : Int) < (l.length : Int)) = true := by rw [decide_eq_true_iff]; omega
      clear hg
      go_wp2
      go_ret2
      exact recR HEX.out HB.out
    · have HG := Lib.hid hg
      have hg2 : decide ((20000 : Int) < (l.length : Int)) = false := by rw [decide_eq_false_iff_not]; omega
      have hg3 : l.length ≤ 20000 := by omega
      clear hg
      go_upto_region 8 with fail
      have HI0 := Lib.hid (show RcI w W2.heap.size v1 v2 v3 v4 (W2.alloc (.cells Tryz.zeroCells59 59)) from ⟨below_step HB.out ((Below.refl _ _).alloc (Nat.le_refl _) _), HX2.out.alloc _, HX2.out.lt⟩)
      have HO0 := Lib.hid (show OnX (onV (l.take 0)) (W2.alloc (.cells Tryz.zeroCells59 59)) W2.heap.size from ⟨_, onI_zero, Blk.new W2 _ _⟩)
      obtain ⟨B, hB⟩ : ∃ B, W2.heap.size = B := ⟨_, rfl⟩
      rw [hB] at HI0 HO0 ⊢
      generalize W2.alloc (.cells Tryz.zeroCells59 59) = W3 at *
      clear hw2 hB HB HX2 HX HB0 HCK HER
      go_wp2
      go_loopw [9, 10] (fun y x wr => ∃ i : Nat, i ≤ l.length ∧ y = .int .i64 (tickB l i) ∧ x = .int .i64 i ∧ RowKit.Hid (∀ j, j < i → recF S l j = 0) ∧ RowKit.Hid (OnX (onV (l.take i)) wr B) ∧ RowKit.Hid (RcI w B v1 v2 v3 v4 wr)) (fun _ x _ => l.length - (intOf x).toNat)
      case atStart => exact ⟨0, Nat.zero_le _, rfl, rfl, Lib.hid (fun j h => absurd h (Nat.not_lt_zero j)), HO0, HI0⟩
      clear HO0 HI0
      obtain ⟨i, hi, rfl, rfl, hF, hO, hI⟩ := hrel
      by_cases hil : i < l.length
      · have hil2 : (i : Int) < (l.length : Int) := by omega
        obtain ⟨b, o, c', ev, hbl, k0, k1, k2, k3, k4⟩ := (HLV.out.later hI.out.b).evAt i hil
        cases ev
        have x0 : wr.cell? ⟨w.heap.size, 0, none⟩ = some v1 := hI.out.x.cell 0
        have x1 : wr.cell? ⟨w.heap.size, 1, none⟩ = some v2 := hI.out.x.cell 1
        have x2 : wr.cell? ⟨w.heap.size, 2, none⟩ = some v3 := hI.out.x.cell 2
        have x3 : wr.cell? ⟨w.heap.size, 3, none⟩ = some v4 := hI.out.x.cell 3
        obtain ⟨lt, hlt⟩ : ∃ lt, tickB l i = lt := ⟨_, rfl⟩
        obtain ⟨rc, hrc⟩ : ∃ rc, recF S l i = rc := ⟨_, rfl⟩
        obtain ⟨x, hx⟩ : ∃ x, l[i] = x := ⟨_, rfl⟩
        have HTP := Lib.hid (show 0 ≤ lt by rw [← hlt]; exact tickB_pos hi hF.out)
        have HBN := Lib.hid (bin_take HE.out hi hF.out)
        have HER := Lib.hid (show evR S lt (onV (l.take i)) x = rc by rw [← hlt, ← hrc, ← hx]; exact evR_rec hil)
        have HTK := Lib.hid (show onV (l.take (i + 1)) = onS (onV (l.take i)) x by rw [onV_take hil, hx])
        have HPX := Lib.hid (show rc = 0 → Placed x by rw [← hrc, ← hx]; exact placed_at HE.out hil)
        have HRC := Lib.hid hrc
        rw [hx] at k0 k1 k2 k3 k4
        rw [hlt]
        clear hx hlt hrc
        obtain ⟨cs, hon, hbk⟩ := hO.out.ex
        have HON := Lib.hid hon
        have HBK := Lib.hid hbk
        clear hon hbk
        go_upto_region 11 with fail
        refine wp_region_still_tail 7 (by kernel_rfl) (by kernel_rfl) ?_
        simp only [List.take_succ_cons, List.take_zero, List.drop_succ_cons, List.drop_zero]
        iterate 6 still_step
        refine still_load_on rfl _ rfl B rfl (c := cs) HBK.out HON.out.size ?_
        simp only [Act.put]
        refine wpStill_nil ?_
        change wpList _ _ _ _ _ (World.drew wr)
        go_wp2_with fail
        refine (re_any v1 v2 v3 v4 S HOK.out HE.out f cs _ HON.out HBN.out lt HTP.out x wr.drew (HSP.out.later (below_drew hI.out.b))).mono ?_
        rw [HER.out]
        rintro e W4 ⟨rfl, hb4⟩
        have hb4' := below_undrew hb4
        have HI4 := Lib.hid (hI.out.below hb4')
        have HBK4 := Lib.hid (HBK.out.below hb4')
        replace k0 := (hb4'.cell (cell_size k0)).trans k0
        replace k1 := (hb4'.cell (cell_size k1)).trans k1
        replace k2 := (hb4'.cell (cell_size k2)).trans k2
        replace k3 := (hb4'.cell (cell_size k3)).trans k3
        replace k4 := (hb4'.cell (cell_size k4)).trans k4
        clear hb4 hb4' x0 x1 x2 x3 hI HBK hO
        by_cases hrc0 : rc = 0
        · have HPL := Lib.hid (HPX.out hrc0)
          have HFN := Lib.hid (upto_next hF.out (by rw [HRC.out, hrc0]))
          subst hrc0
          go_upto_region 14 with fail
          refine wp_region_still_tail 5 (by kernel_rfl) (by kernel_rfl) ?_
          simp only [List.take_succ_cons, List.take_zero, List.drop_succ_cons, List.drop_zero]
          refine still_load_on rfl _ rfl B rfl (c := cs) HBK4.out HON.out.size ?_
          simp only [Act.put]
          iterate 4 still_step
          refine wpStill_nil ?_
          change wpList _ _ _ _ _ (World.drew W4)
          go_wp2_with fail
          refine (after_any cs _ HON.out x HPL.out W4.drew).mono ?_
          rintro e W5 ⟨c2, rfl, hon5, hb5⟩
          rename ∀ (a : Act) (w : World), wpList _ _ _ _ a w → _ => hkk
          dsimp only
          refine hkk _ _ ?_
          clear hkk
          have hb5' := below_undrew hb5
          have HBK5 := Lib.hid (HBK4.out.below hb5')
          have HON5 := Lib.hid hon5
          have HO5 := Lib.hid (show OnX (onV (l.take (i + 1))) (W5.setCells B 0 c2.toList) B by rw [HTK.out]; exact OnX.put HBK4.out HON.out hb5' hon5)
          have HI5 := Lib.hid (HI4.out.next hb5' c2.toList)
          obtain ⟨b9, o9, c9, ev9, hbl9, q0, q1, q2, q3, q4⟩ := (HLV.out.later HI5.out.b).evAt i hil
          cases ev9
          have HQ := Lib.hid q0
          clear hb5 hb5' hon5 k0 k1 k2 k3 k4 q0 q1 q2 q3 q4
          refine wpList_store_mid rfl 59 _ _ rfl B 0 c2 rfl rfl (on_there HBK5.out (by rw [HON.out.size, HON5.out.size])) (onB_info HON5.out.size) HON5.out.one ?_
          refine wpList_nil ?_
          have q0 := HQ.out
          go_wp2
          go_roundw
          case rel => exact ⟨i + 1, by omega, by rw [tickB_next hil], by go_num, HFN, HO5, HI5⟩
          case measure => simp [intOf]; omega
        · have HEX := Lib.hid (recE_at HE.out HG.out hil hF.out HRC.out hrc0)
          have hrb : (rc != 0) = true := by simpa using hrc0
          go_wp2
          go_ret2
          exact recR HEX.out HI4.out.b
      · have hil2 : ¬ (i : Int) < (l.length : Int) := by omega
        have HEX := Lib.hid (recE_good HE.out HG.out (fun j hj => hF.out j (by omega)))
        go_wp2
        go_ret2
        exact recR HEX.out hI.out.b
  · have HEX := Lib.hid (recE_sp (l := l) HER.out he)
    have heb : (er != 0) = true := by simpa using he
    go_wp2
    go_ret2
    exact recR HEX.out HB.out
theorem th_placed {S : Sp} (hc : (checkP S).2 = 0) {x : Th} (h : thE S x = 0) : Placed (0, x.1, x.2.1, x.2.2, 0) ∧ x.1 ≤ 3 := by
  obtain ⟨k, d, n⟩ := x
  simp only
  unfold thE at h
  simp only at h
  by_cases h1 : k < 1 ∨ 3 < k ∨ (k ≠ 1 ∧ d ≠ 0)
  · rw [if_pos h1] at h; cases h
  · rw [if_neg h1] at h
    by_cases h2 : there S k d n = false
    · rw [if_pos h2] at h; cases h
    · rw [if_neg h2] at h
      have h3 := fun q => (show False from absurd (ite_eq_right_iff.1 h q) (by decide))
      refine ⟨ev_placed hc ?_, by omega⟩
      have ht : there S k d n = true := by simpa using h2
      unfold there at ht
      rcases (show k = 1 ∨ k = 2 ∨ k = 3 by omega) with rfl | rfl | rfl
      · rw [if_pos rfl, decide_eq_true_iff] at ht
        obtain ⟨d, rfl⟩ := Int.eq_ofNat_of_zero_le ht.1
        have hd : d < S.ds.length := by omega
        have hk : keyIn S (d : Int) n = decide (S.ds[d].lo ≤ n ∧ n ≤ S.ds[d].hi) := by unfold keyIn; rw [Int.toNat_natCast, List.getElem?_eq_getElem hd]
        have hk2 : S.ds[d].lo ≤ n ∧ n ≤ S.ds[d].hi := by
          by_cases q : S.ds[d].lo ≤ n ∧ n ≤ S.ds[d].hi
          · exact q
          · exact (h3 ⟨rfl, by rw [hk]; exact decide_eq_false q⟩).elim
        rw [evE_key S 0 d n 0 hd, if_pos (by omega)]
      · have : d = 0 := by omega
        subst this
        rw [if_neg (by decide), if_pos rfl, decide_eq_true_iff] at ht
        rw [evE_stop, if_pos ht, if_pos (by omega)]
      · have : d = 0 := by omega
        subst this
        rw [if_neg (by decide), if_neg (by decide), if_pos rfl, decide_eq_true_iff] at ht
        rw [evE_coupler, if_pos ht, if_pos (by omega)]
/-- Is a thing on? -/
theorem on_any (cs : Array Value) (g : Th → Int) (h : OnI g cs) (x : Th) (hx : Placed (0, x.1, x.2.1, x.2.2, 0)) (h3 : x.1 ≤ 3) (w : World) :
    Calls Tryz.prog 39 #[.agg cs, .agg #[.int .i64 x.1, .int .i64 x.2.1, .int .i64 x.2.2]] w (BoolR (decide (g x = 1)) w) := by
  obtain ⟨k, d, n⟩ := x
  simp only at hx h3 ⊢
  cases hx with
  | key _ _ d n hd hn hv => exact on_key cs d n hd hn _ (h.val _ _ (onIx_key hd hn)) w
  | stop _ _ n hn hv => exact on_stop cs n hn 0 _ (h.val _ _ (onIx_stop hn)) w
  | coupler _ _ n hn hv => exact on_coupler cs n hn 0 _ (h.val _ _ (onIx_coupler hn)) w
  | shade _ _ n hn => omega
  | mark _ _ _ _ => omega
theorem makeP_rec {S : Sp} {l : List Ev} {rt : Int} {th : List Th} {e : Int} (h : (recE S l).2 = e) (h0 : e ≠ 0) : makeP S l rt th = (⟨0, []⟩, e) := by unfold makeP; rw [if_neg (by rw [h]; exact h0), h]
theorem makeP_sc {S : Sp} {l : List Ev} {rt : Int} {th : List Th} {e : Int} (h : (recE S l).2 = 0) (hs : scE S rt th = e) (h0 : e ≠ 0) : makeP S l rt th = (⟨0, []⟩, e) := by unfold makeP; rw [if_pos h, if_neg (by rw [hs]; exact h0), hs]
theorem makeP_no {S : Sp} {l : List Ev} {rt : Int} {th : List Th} (h : (recE S l).2 = 0) (hs : scE S rt th = 0) {x : Ev} (hx : x ∈ l) (h3 : x.2.1 ≤ 3) (hn : thing x ∉ th) : makeP S l rt th = (⟨0, []⟩, 4) := by unfold makeP; rw [if_pos h, if_pos hs, if_pos ⟨x, hx, h3, hn⟩]
theorem makeP_none {S : Sp} {l : List Ev} {rt : Int} {th : List Th} (h : (recE S l).2 = 0) (hs : scE S rt th = 0) (hin : ∀ x ∈ l, x.2.1 ≤ 3 → thing x ∈ th) (hl : lastT l < 0) : makeP S l rt th = (⟨th.length + 1, []⟩, 0) := by
  unfold makeP
  rw [if_pos h, if_pos hs, if_neg (fun ⟨x, h1, h2, h3⟩ => h3 (hin x h1 h2)), if_pos hl]
theorem makeP_long {S : Sp} {l : List Ev} {rt : Int} {th : List Th} (h : (recE S l).2 = 0) (hs : scE S rt th = 0) (hin : ∀ x ∈ l, x.2.1 ≤ 3 → thing x ∈ th) (hl : ¬ lastT l < 0) (hm : 20000 < (lastT l + rt - 1) / rt + 1) : makeP S l rt th = (⟨0, []⟩, 3) := by
  unfold makeP
  rw [if_pos h, if_pos hs, if_neg (fun ⟨x, h1, h2, h3⟩ => h3 (hin x h1 h2)), if_neg hl, if_pos hm]
theorem makeP_rows {S : Sp} {l : List Ev} {rt : Int} {th : List Th} (h : (recE S l).2 = 0) (hs : scE S rt th = 0) (hin : ∀ x ∈ l, x.2.1 ≤ 3 → thing x ∈ th) (hl : ¬ lastT l < 0) {M : Nat} (hM : (lastT l + rt - 1) / rt + 1 = M) (hm : ¬ 20000 < M) : makeP S l rt th = (⟨th.length + 1, (List.range M).map fun (i : Nat) => onRow (onV (l.take (upN l ((i : Int) * rt)))) th⟩, 0) := by
  unfold makeP
  rw [if_pos h, if_pos hs, if_neg (fun ⟨x, h1, h2, h3⟩ => h3 (hin x h1 h2)), if_neg hl, hM, if_neg (by omega), Int.toNat_natCast]
/-- A row of what is on, thing by thing. -/
theorem told_onB (f : Th → Int) (th : List Th) {k : Nat} (hk : k < th.length) : told (onB f th) (k + 2) = told (onB f th) (k + 1) ++ if decide (f th[k] = 1) then [((k : Int) + 1)] else [] := by
  rw [told]
  congr 1
  have : onB f th (k + 1) = decide (f th[k] = 1) := by
    unfold onB
    refine decide_eq_decide.2 ?_
    rw [show k + 1 - 1 = k by omega, getD_at hk]
    constructor
    · rintro (q | q)
      · omega
      · exact q.2.2
    · exact fun q => .inr ⟨by omega, by omega, q⟩
  rw [this]
  rfl
theorem told_on1 (f : Th → Int) (th : List Th) : told (onB f th) 1 = [0] := by
  rw [told, told, if_pos (by unfold onB; simp)]
  rfl
theorem rows_apart2 {W : World} {b b' : Nat} {t t' : TypeId} {k k' n n' : Nat} {v v' : Value} {xs xs' : List Value} (h : W.ownsRow b t k v n xs) (h' : W.ownsRow b' t' k' v' n' xs') (ht : t ≠ t') : v.ownBlock = none ∨ v.ownBlock ≠ v'.ownBlock := by
  rcases h.2 with ⟨rfl, _⟩ | ⟨g, cap, cur, rfl, _, hg, _⟩
  · exact .inl rfl
  · exact .inr (fun e => blk_ne_row (show Blk W g t cur from hg) h' ht e.symm)
theorem flat_one2 : ∀ l : List Value, (l.map vC).flatten = l
  | [] => rfl
  | v :: l => by rw [List.map_cons, List.flatten_cons, flat_one2 l]; rfl
/-- A roll whose rows are made one by one: result box rb, roll box xb. -/
structure MoI (T : Int) (F : Nat → List Int) (w wr : World) (rb xb : Nat) (i : Nat) (V : Value) (vs : List Value) : Prop where
  x : ∀ cs, cs = #[Value.int .i64 T, V] → Blk wr xb 36 cs
  res : Blk wr rb 36 #[.int .i64 0, .slice none 0 0]
  len : vs.length = i
  out : wr.ownsRow w.heap.size 74 1 V i vs
  row : ∀ j (hj : j < vs.length), wr.ownsRow w.heap.size 3 1 vs[j] (F j).length (iCs (F j))
  b : Below w.heap.size w wr
  lt : w.heap.size ≤ rb ∧ rb < xb
theorem MoI.below {T : Int} {F : Nat → List Int} {w wr w' : World} {rb xb i : Nat} {V : Value} {vs : List Value} (h : MoI T F w wr rb xb i V vs) (hb : Below wr.heap.size wr w') : MoI T F w w' rb xb i V vs :=
  ⟨fun cs e => (h.x cs e).below hb, h.res.below hb, h.len, row_later h.out hb, fun j hj => row_later (h.row j hj) hb, below_step h.b hb, h.lt⟩
/-- What an append to the rows leaves. -/
theorem MoI.app {T : Int} {F : Nat → List Int} {w wr w3 : World} {rb xb i : Nat} {V u : Value} {vs : List Value} (h : MoI T F w wr rb xb i V vs) {sb : Nat} {cs : Array Value} (hx : Blk wr sb 31 cs) (hu : wr.ownsRow w.heap.size 3 1 u (F i).length (iCs (F i))) (o : Obj) (V' : Value)
    (hg : (wr.alloc o).grownBy w3 V.ownBlock) (hown : w3.ownsRow w.heap.size 74 1 V' (i + 1) (vs ++ [u])) :
    w3.cell? ⟨xb, 1, none⟩ = some V ∧ w3.frozen? ⟨xb, 1, none⟩ = false ∧
    RowKit.Hid (MoI T F w (w3.setCell ⟨xb, 1, none⟩ V') rb xb (i + 1) V' (vs ++ [u])) ∧ RowKit.Hid (Blk (w3.setCell ⟨xb, 1, none⟩ V') sb 31 cs) := by
  have hal : Below wr.heap.size wr (wr.alloc o) := (Below.refl _ _).alloc (Nat.le_refl _) _
  have h0 := h.below hal
  have hx0 := h0.x _ rfl
  have hu0 := row_later hu hal
  have kx := hx0.grown hg (blk_ne_row hx0 h0.out (by decide))
  have kr := h0.res.grown hg (blk_ne_row h0.res h0.out (by decide))
  have ks := (hx.below hal).grown hg (blk_ne_row (hx.below hal) h0.out (by decide))
  have hs1 := set_grown w3 xb 1 V'
  have hlt := h.lt
  have rows3 : ∀ j (hj : j < (vs ++ [u]).length), w3.ownsRow w.heap.size 3 1 (vs ++ [u])[j] (F j).length (iCs (F j)) := by
    intro j hj
    rw [List.length_append, List.length_singleton] at hj
    by_cases e : j < vs.length
    · rw [List.getElem_append_left e]
      exact (h0.row j e).kept hg (rows_apart2 (h0.row j e) h0.out (by decide))
    · have e2 : j = vs.length := by omega
      subst e2
      rw [List.getElem_append_right (Nat.le_refl _)]
      simp only [Nat.sub_self, List.getElem_singleton]
      rw [h.len]
      exact hu0.kept hg (rows_apart2 hu0 h0.out (by decide))
  have hb3 : Below w.heap.size w w3 := h0.b.grown hg h0.b.size (fun j e => row_ge h0.out e)
  refine ⟨kx.cell 1, kx.frozen 1, Lib.hid ⟨fun cs e => ?_, kr.grown hs1 (by simp only [ne_eq, Option.some.injEq]; omega), by rw [List.length_append, List.length_singleton, h.len], ?_, fun j hj => ?_, hb3.grown hs1 hb3.size (fun j e => by cases e; omega), h.lt⟩, Lib.hid (ks.other _ _ (fun e => kx.ne ks (by decide) e.symm))⟩
  · rw [e]
    exact kx.set 1 V'
  · exact hown.kept hs1 (.inr (blk_ne_row kx hown (by decide)))
  · exact (rows3 j hj).kept hs1 (.inr (blk_ne_row kx (rows3 j hj) (by decide)))
/-- How the reference's Make ends. -/
def MkS (p : Ro × Int) (w : World) (e : Ending) (w' : World) : Prop := ∃ v g, e = .returned (.tuple #[.agg #[.int .i64 p.1.tracks, v], .int .i64 p.2]) ∧ RoRd w' v g p.1 ∧ Below w.heap.size w w'
theorem roRd_nil (w : World) (t : Int) : RoRd w (.slice none 0 0) (fun _ => .slice none 0 0) ⟨t, []⟩ := ⟨⟨none, 0, rfl, fun j hj => absurd hj (Nat.not_lt_zero j)⟩, fun i hi => absurd hi (Nat.not_lt_zero i)⟩
theorem mkS_bad {p : Ro × Int} {c : Int} (h : p = (⟨0, []⟩, c)) {w w' : World} (hb : Below w.heap.size w w') : MkS p w (.returned (.tuple #[.agg #[.int .i64 0, .slice none 0 0], .int .i64 c])) w' := by subst h; exact ⟨_, _, rfl, roRd_nil _ _, hb⟩
theorem MoI.fin {T : Int} {F : Nat → List Int} {w wr : World} {rb xb M : Nat} {V : Value} {vs : List Value} (h : MoI T F w wr rb xb M V vs) {a b : Value} :
    ((wr.setCell ⟨rb, 0, none⟩ a).setCell ⟨rb, 1, none⟩ b).cell? ⟨rb, 0, none⟩ = some a ∧ ((wr.setCell ⟨rb, 0, none⟩ a).setCell ⟨rb, 1, none⟩ b).cell? ⟨rb, 1, none⟩ = some b ∧
    RoRd ((wr.setCell ⟨rb, 0, none⟩ a).setCell ⟨rb, 1, none⟩ b) V (fun i => vs.getD i (.slice none 0 0)) ⟨T, (List.range M).map F⟩ ∧ Below w.heap.size w ((wr.setCell ⟨rb, 0, none⟩ a).setCell ⟨rb, 1, none⟩ b) := by
  have hk := (h.res.set 0 a).set 1 b
  have hg : wr.grownBy ((wr.setCell ⟨rb, 0, none⟩ a).setCell ⟨rb, 1, none⟩ b) (some rb) := (set_grown wr rb 0 a).trans (set_grown _ rb 1 b)
  have hV := h.out.kept hg (.inr (blk_ne_row h.res h.out (by decide)))
  have hrow : ∀ j (hj : j < vs.length), ((wr.setCell ⟨rb, 0, none⟩ a).setCell ⟨rb, 1, none⟩ b).ownsRow w.heap.size 3 1 vs[j] (F j).length (iCs (F j)) := fun j hj => (h.row j hj).kept hg (.inr (blk_ne_row h.res (h.row j hj) (by decide)))
  have hlt := h.lt
  refine ⟨hk.cell 0, hk.cell 1, ?_, h.b.grown hg h.b.size (fun j e => by cases e; omega)⟩
  have hlen := h.len
  refine ⟨?_, fun i hi => ?_⟩
  · have e : ((List.range M).map F).mapIdx (fun i _ => [vs.getD i (.slice none 0 0)]) = vs.map vC := by
      apply List.ext_getElem
      · simp [hlen]
      · intro i h1 h2
        rw [List.length_map] at h2
        simp [vC, List.getElem?_eq_getElem h2]
    show ARd _ V 1 (((List.range M).map F).mapIdx fun i _ => [vs.getD i (.slice none 0 0)])
    rw [e]
    refine ARd.of_row (base := w.heap.size) (t := 74) (fun r hr => ?_) ?_
    · obtain ⟨p, _, rfl⟩ := List.mem_map.1 hr; rfl
    · rw [List.length_map, hlen, show (vs.map vC).flatten = vs from flat_one2 vs]
      exact hV
  · have hi2 : i < vs.length := by simpa [hlen] using hi
    rw [getD_at hi2]
    simp only [List.getElem_map, List.getElem_range]
    exact ARd.of_ints (hrow i hi2)
theorem recE_two {S : Sp} {l : List Ev} (h : (recE S l).2 = 0) : recE S l = (0, 0) := by
  unfold recE at h ⊢
  by_cases e0 : (checkP S).2 = 0
  · rw [if_pos e0] at h ⊢
    by_cases e1 : 20000 < l.length
    · rw [if_pos e1] at h; cases h
    · rw [if_neg e1] at h ⊢
      cases hf : fst0 (recF S l) l.length with
      | some i =>
        rw [hf] at h
        exact absurd h (fst0_is hf).2.1
      | none => rfl
  · rw [if_neg e0] at h
    exact absurd h e0
/-- Is a thing among the first ones? -/
theorem mem_take_next {l : List Th} {x : Th} {k : Nat} (hk : k < l.length) : decide (x ∈ l.take (k + 1)) = (decide (x ∈ l.take k) || decide (l[k] = x)) := by
  rw [List.take_succ_eq_append_getElem hk, ← Bool.decide_or]
  refine decide_eq_decide.2 ?_
  rw [List.mem_append, List.mem_singleton]
  exact or_congr Iff.rfl ⟨fun e => e.symm, fun e => e.symm⟩
theorem two_set {w W : World} {rb : Nat} {p q a b : Value} (hz : Blk W rb 36 #[p, q]) (hb : Below w.heap.size w W) (h : w.heap.size ≤ rb) : ((W.setCell ⟨rb, 0, none⟩ a).setCell ⟨rb, 1, none⟩ b).cell? ⟨rb, 0, none⟩ = some a ∧ ((W.setCell ⟨rb, 0, none⟩ a).setCell ⟨rb, 1, none⟩ b).cell? ⟨rb, 1, none⟩ = some b ∧ Below w.heap.size w ((W.setCell ⟨rb, 0, none⟩ a).setCell ⟨rb, 1, none⟩ b) := by
  have hk := (hz.set 0 a).set 1 b
  exact ⟨hk.cell 0, hk.cell 1, (hb.setCell (p := ⟨rb, 0, none⟩) h a).setCell (p := ⟨rb, 1, none⟩) h b⟩
set_option maxRecDepth 100000 in
set_option maxHeartbeats 12800000 in
theorem rmake_any (v1 v2 v3 v4 : Value) (S : Sp) (ok : SpOk S) (f : Nat → Value) (l : List Ev) (vl : Value) (rt : Int) (th : List Th) (vt : Value) (w : World) (hsp : SpRd w v1 v2 v3 v4 f S) (hl : l.length ≤ 1000000) (hlv : ARd w vl 5 (l.map evC)) (htl : th.length ≤ 1000000) (hth : ARd w vt 3 (th.map thC)) :
    Calls Tryz.prog 10 #[.agg #[v1, v2, v3, v4], vl, .agg #[.int .i64 rt, vt]] w (MkS (makeP S l rt th) w) := by
  obtain ⟨al, cl, rfl⟩ := hlv.evForm
  obtain ⟨at', ct, rfl⟩ := hth.thForm
  have hb0 : Below w.heap.size w (((w.alloc (.cells #[v1, v2, v3, v4] 27)).alloc (.cells #[.int .i64 rt, .slice at' th.length ct] 31)).alloc (.cells #[.int .i64 0, .slice none 0 0] 36)) := (below_two w _ _).alloc (by simp; omega) _
  have HX := Lib.hid (((Blk.new w 27 #[v1, v2, v3, v4]).alloc (.cells #[.int .i64 rt, .slice at' th.length ct] 31)).alloc (.cells #[.int .i64 0, .slice none 0 0] 36))
  have HY := Lib.hid ((Blk.new (w.alloc (.cells #[v1, v2, v3, v4] 27)) 31 #[.int .i64 rt, .slice at' th.length ct]).alloc (.cells #[.int .i64 0, .slice none 0 0] 36))
  have HZ := Lib.hid (Blk.new ((w.alloc (.cells #[v1, v2, v3, v4] 27)).alloc (.cells #[.int .i64 rt, .slice at' th.length ct] 31)) 36 #[.int .i64 0, .slice none 0 0])
  rw [World.size_alloc] at HY
  rw [World.size_alloc, World.size_alloc] at HZ
  have HB0 := Lib.hid hb0
  have HSP := Lib.hid hsp
  have HOK := Lib.hid ok
  have HLV := Lib.hid hlv
  have HTH := Lib.hid hth
  obtain ⟨rc, hrc⟩ : ∃ rc, recE S l = rc := ⟨_, rfl⟩
  obtain ⟨r1, r2⟩ := rc
  have HRC := Lib.hid hrc
  obtain ⟨sc, hsc⟩ : ∃ sc, scE S rt th = sc := ⟨_, rfl⟩
  have HSC := Lib.hid hsc
  clear hb0 hsp ok hlv hth hrc hsc
  go_enter Tryz.func10, Tryz.ntmps10
  go_upto_region 1 with fail
  generalize ((w.alloc (.cells #[v1, v2, v3, v4] 27)).alloc (.cells #[.int .i64 rt, .slice at' th.length ct] 31)).alloc (.cells #[.int .i64 0, .slice none 0 0] 36) = W0 at *
  have x0 := HX.out.cell 0
  have x1 := HX.out.cell 1
  have x2 := HX.out.cell 2
  have x3 := HX.out.cell 3
  go_wp2_with fail
  refine (rcheck31_any v1 v2 v3 v4 S HOK.out f l _ W0 (HSP.out.later HB0.out) hl (HLV.out.later HB0.out)).mono ?_
  unfold RecR
  rw [HRC.out]
  rintro e W1 ⟨rfl, hb1⟩
  have HB1 := Lib.hid (below_step HB0.out hb1)
  have HX1 := Lib.hid (HX.out.below hb1)
  have HY1 := Lib.hid (HY.out.below hb1)
  have HZ1 := Lib.hid (HZ.out.below hb1)
  clear hb1 x0 x1 x2 x3 HX HY HZ HB0
  by_cases hr2 : r2 = 0
  · subst hr2
    have x0 := HX1.out.cell 0
    have x1 := HX1.out.cell 1
    have x2 := HX1.out.cell 2
    have x3 := HX1.out.cell 3
    have y0 := HY1.out.cell 0
    have y1 := HY1.out.cell 1
    go_wp2_with fail
    refine (rscale_any v1 v2 v3 v4 S HOK.out f rt th _ W1 (HSP.out.later HB1.out) htl (HTH.out.later HB1.out)).mono ?_
    rintro e W2 ⟨rfl, hb2⟩
    rw [HSC.out]
    have HB2 := Lib.hid (below_step HB1.out hb2)
    have HY2 := Lib.hid (HY1.out.below hb2)
    have HZ2 := Lib.hid (HZ1.out.below hb2)
    clear hb2 x0 x1 x2 x3 y0 y1 HX1 HY1 HZ1 HB1
    by_cases hs0 : sc = 0
    · have SO := Lib.hid (scE_ok (show scE S rt th = 0 by rw [HSC.out]; exact hs0))
      have RO := Lib.hid (recE_ok (S := S) (l := l) (by rw [HRC.out]))
      have HSC0 : RowKit.Hid (scE S rt th = 0) := Lib.hid (by rw [HSC.out]; exact hs0)
      have HRC0 : RowKit.Hid ((recE S l).2 = 0) := Lib.hid (by rw [HRC.out])
      have hth1 := SO.out.th1
      have hth2 := SO.out.th2
      have hrt1 := SO.out.rt1
      have hrt2 := SO.out.rt2
      have hl20 := RO.out.len
      subst hs0
      clear HSC HRC
      obtain ⟨W, rfl⟩ : ∃ W, W = W2 := ⟨_, rfl⟩
      go_upto_region 7 with fail
      go_wp2
      go_loopw [10, 11] (fun y x wr => ∃ i : Nat, i ≤ l.length ∧ y = .int .i64 (lastT (l.take i)) ∧ x = .int .i64 i ∧ RowKit.Hid (∀ j (hj : j < l.length), j < i → l[j].2.1 ≤ 3 → thing l[j] ∈ th) ∧ RowKit.Hid (Below W.heap.size W wr)) (fun _ x _ => l.length - (intOf x).toNat)
      case atStart => exact ⟨0, Nat.zero_le _, rfl, rfl, Lib.hid (fun j _ h => absurd h (Nat.not_lt_zero j)), Lib.hid (Below.refl _ _)⟩
      obtain ⟨i, hi, rfl, rfl, hF, hW⟩ := hrel
      obtain ⟨la, hla⟩ : ∃ la, lastT (l.take i) = la := ⟨_, rfl⟩
      have HLA := Lib.hid hla
      rw [hla]
      clear hla
      by_cases hil : i < l.length
      · have hil2 : (i : Int) < (l.length : Int) := by omega
        have HBW := Lib.hid (below_step HB2.out hW.out)
        obtain ⟨b, o, c', ev, hbl, k0, k1, k2, k3, k4⟩ := (HLV.out.later HBW.out).evAt i hil
        cases ev
        obtain ⟨x, hx⟩ : ∃ x, l[i] = x := ⟨_, rfl⟩
        have HXE := Lib.hid hx
        rw [hx] at k0 k1 k2 k3 k4
        have HLN := Lib.hid (show lastT (l.take (i + 1)) = if x.2.1 ≤ 3 then x.1 else la by rw [List.take_succ_eq_append_getElem hil, lastT_snoc, hx, HLA.out])
        clear hx
        have HKX := Lib.hid (Blk.new wr 68 #[.int .i64 x.1, .int .i64 x.2.1, .int .i64 x.2.2.1, .int .i64 x.2.2.2.1, .int .i64 x.2.2.2.2])
        have HBX := Lib.hid (show Below W.heap.size W (wr.alloc (.cells #[.int .i64 x.1, .int .i64 x.2.1, .int .i64 x.2.2.1, .int .i64 x.2.2.2.1, .int .i64 x.2.2.2.2] 68)) from below_step hW.out ((Below.refl _ wr).alloc (Nat.le_refl _) _))
        go_upto_region 11 with fail
        obtain ⟨X, hX⟩ : ∃ X, wr.heap.size = X := ⟨_, rfl⟩
        rw [hX] at HKX ⊢
        generalize wr.alloc (.cells #[.int .i64 x.1, .int .i64 x.2.1, .int .i64 x.2.2.1, .int .i64 x.2.2.2.1, .int .i64 x.2.2.2.2] 68) = Wx at *
        clear hX k0 k1 k2 k3 k4
        have k0 := HKX.out.cell 0
        have k1 := HKX.out.cell 1
        have k2 := HKX.out.cell 2
        have k3 := HKX.out.cell 3
        by_cases h3 : x.2.1 ≤ 3
        · have HX3 := Lib.hid h3
          have hd3 : decide (3 < x.2.1) = false := by rw [decide_eq_false_iff_not]; omega
          clear h3
          have y1 := (HY2.out.below HBX.out).cell 1
          go_wp2
          go_loopw [13, 14] (fun y u wz => ∃ k : Nat, k ≤ th.length ∧ y = .bool (decide (thing x ∈ th.take k)) ∧ u = .int .i64 k ∧ RowKit.Hid (Below Wx.heap.size Wx wz)) (fun _ u _ => th.length - (intOf u).toNat)
          case atStart => exact ⟨0, Nat.zero_le _, by simp, rfl, Lib.hid (Below.refl _ _)⟩
          obtain ⟨k, hk, rfl, rfl, hZ⟩ := hrel
          have HBZ := Lib.hid (below_step HBX.out hZ.out)
          have HKZ := Lib.hid (HKX.out.below hZ.out)
          have y1 : wr.cell? ⟨w.heap.size + 1, 1, none⟩ = some (.slice at' th.length ct) := (HY2.out.below HBZ.out).cell 1
          clear k0 k1 k2 k3
          have k0 := HKZ.out.cell 0
          have k1 := HKZ.out.cell 1
          have k2 := HKZ.out.cell 2
          have k3 := HKZ.out.cell 3
          by_cases hkt : k < th.length
          · have hkt2 : (k : Int) < (th.length : Int) := by omega
            obtain ⟨b1, o1, c1, ev1, hbl1, p0, p1, p2⟩ := (HTH.out.later (below_step HB2.out HBZ.out)).thAt k hkt
            cases ev1
            obtain ⟨bb, hbb⟩ : ∃ bb, decide (thing x ∈ th.take k) = bb := ⟨_, rfl⟩
            obtain ⟨bq, hbq⟩ : ∃ bq, decide (th[k] = thing x) = bq := ⟨_, rfl⟩
            have HNX := Lib.hid (show decide (thing x ∈ th.take (k + 1)) = (bb || bq) by rw [mem_take_next hkt, hbb, hbq])
            have heq : ∀ w, (binOp .eql 82 (.agg #[.int .i64 th[k].1, .int .i64 th[k].2.1, .int .i64 th[k].2.2]) (.agg #[.int .i64 x.2.1, .int .i64 x.2.2.1, .int .i64 x.2.2.2.1])).run Tryz.prog w = .ok (.bool bq) w := fun w => by
              rw [← hbq]
              exact run_eqTh th[k] (thing x) w
            rw [hbb]
            clear hbb hbq
            cases bb
            all_goals
              go_wp2_with fail
              go_quiet (fail)
              go_wp2
              go_roundw
              case rel => exact ⟨k + 1, by omega, by rw [HNX.out]; rfl, by go_num, Lib.hid (below_drewN hZ.out _)⟩
              case measure => simp [intOf]; omega
          · have hkt2 : ¬ (k : Int) < (th.length : Int) := by omega
            have hke : th.take k = th := List.take_of_length_le (by omega)
            rw [hke]
            clear hke
            by_cases hmem : thing x ∈ th
            · have HFN := Lib.hid (show ∀ j (hj : j < l.length), j < i + 1 → l[j].2.1 ≤ 3 → thing l[j] ∈ th from fun j hj hj2 h => by
                by_cases e : j = i
                · subst e; rw [HXE.out]; exact hmem
                · exact hF.out j hj (by omega) h)
              have hdm : decide (thing x ∈ th) = true := decide_eq_true hmem
              have hln := HLN.out
              rw [if_pos HX3.out] at hln
              have HL9 := Lib.hid hln
              rw [hdm]
              clear hdm hmem hln
              go_wp2
              go_roundw
              case rel => exact ⟨i + 1, by omega, by rw [HL9.out], by go_num, HFN, HBZ⟩
              case measure => simp [intOf]; omega
            · have hdm : decide (thing x ∈ th) = false := decide_eq_false hmem
              have HE := Lib.hid (makeP_no HRC0.out HSC0.out (x := x) (by rw [← HXE.out]; exact List.getElem_mem hil) HX3.out hmem)
              rw [hdm]
              clear hdm hmem
              have HZ9 := Lib.hid (HZ2.out.below HBZ.out)
              have HB9 := Lib.hid (below_step HB2.out HBZ.out)
              have z0 := HZ9.out.cell 0
              have z1 := HZ9.out.cell 1
              have f0 := HZ9.out.frozen 0
              have f1 := HZ9.out.frozen 1
              go_wp2
              obtain ⟨c0, c1, hbe⟩ := two_set (a := .int .i64 0) (b := .slice none 0 0) HZ9.out HB9.out (by omega)
              refine bodyPost_ret (v := .tuple #[.agg #[.int .i64 0, .slice none 0 0], .int .i64 4]) (by simp [results, Tryz.results10, go_sem, c0, c1]) rfl (mkS_bad HE.out hbe)
        · have HX3 := Lib.hid h3
          have hd3 : decide (3 < x.2.1) = true := by rw [decide_eq_true_iff]; omega
          have HFN := Lib.hid (show ∀ j (hj : j < l.length), j < i + 1 → l[j].2.1 ≤ 3 → thing l[j] ∈ th from fun j hj hj2 h => by
            by_cases e : j = i
            · subst e; rw [HXE.out] at h; exact absurd h h3
            · exact hF.out j hj (by omega) h)
          have hln := HLN.out
          rw [if_neg h3] at hln
          have HL9 := Lib.hid hln
          clear h3 hln
          go_wp2
          go_roundw
          case rel => exact ⟨i + 1, by omega, by rw [HL9.out], by go_num, HFN, HBX⟩
          case measure => simp [intOf]; omega
      · have hil2 : ¬ (i : Int) < (l.length : Int) := by omega
        have hie : i = l.length := by omega
        have HIN := Lib.hid (show ∀ x ∈ l, x.2.1 ≤ 3 → thing x ∈ th from fun x hx h => by
          obtain ⟨j, hj, rfl⟩ := List.getElem_of_mem hx
          exact hF.out j hj (by omega) h)
        have HL2 := Lib.hid (show lastT l = la by rw [← HLA.out, hie, List.take_length])
        have hla1 := (lastT_le RO.out i (by omega)).1
        have hla2 := (lastT_le RO.out i (by omega)).2
        rw [HLA.out] at hla1 hla2
        have y1 := (HY2.out.below hW.out).cell 1
        have HBR := Lib.hid (show Below W.heap.size W (wr.alloc (.cells #[.int .i64 ((th.length : Int) + 1), .slice none 0 0] 36)) from below_step hW.out ((Below.refl _ wr).alloc (Nat.le_refl _) _))
        have HR0 := Lib.hid (Blk.new wr 36 #[.int .i64 ((th.length : Int) + 1), .slice none 0 0])
        have HLW := Lib.hid (show w.heap.size + 1 + 1 < wr.heap.size from Nat.lt_of_lt_of_le HZ2.out.lt hW.out.size)
        go_upto_region 21 with fail
        obtain ⟨X, hX⟩ : ∃ X, wr.heap.size = X := ⟨_, rfl⟩
        rw [hX] at HR0 HLW ⊢
        generalize wr.alloc (.cells #[.int .i64 ((th.length : Int) + 1), .slice none 0 0] 36) = W3 at *
        have HY3 := Lib.hid (HY2.out.below HBR.out)
        have HZ3 := Lib.hid (HZ2.out.below HBR.out)
        have HB3 := Lib.hid (below_step HB2.out HBR.out)
        clear y1 hX hF hW hie
        by_cases hneg : la < 0
        · have HE := Lib.hid (makeP_none HRC0.out HSC0.out HIN.out (by rw [HL2.out]; exact hneg))
          have hnd : decide (la < 0) = true := decide_eq_true hneg
          clear hneg
          have r0 := HR0.out.cell 0
          have r1 := HR0.out.cell 1
          have z0 := HZ3.out.cell 0
          have z1 := HZ3.out.cell 1
          have f0 := HZ3.out.frozen 0
          have f1 := HZ3.out.frozen 1
          go_wp2
          obtain ⟨c0, c1, hbe⟩ := two_set (a := .int .i64 ((th.length : Int) + 1)) (b := .slice none 0 0) HZ3.out HB3.out (by omega)
          refine bodyPost_ret (v := .tuple #[.agg #[.int .i64 ((th.length : Int) + 1), .slice none 0 0], .int .i64 0]) (by simp [results, Tryz.results10, go_sem, c0, c1]) rfl ?_
          unfold MkS
          rw [HE.out]
          exact ⟨_, _, rfl, roRd_nil _ _, hbe⟩
        · have hnd : decide (la < 0) = false := decide_eq_false hneg
          have hneg2 : 0 ≤ la := by omega
          have HNG := Lib.hid hneg
          clear hneg
          obtain ⟨M, hM⟩ : ∃ M : Nat, (la + rt - 1) / rt + 1 = M := ⟨((la + rt - 1) / rt + 1).toNat, by have := Int.ediv_nonneg (show 0 ≤ la + rt - 1 by omega) (show 0 ≤ rt by omega); omega⟩
          have hq0 : 0 ≤ la + rt - 1 := by omega
          have hqd := Int.ediv_nonneg hq0 (show 0 ≤ rt by omega)
          have hqb : (la + rt - 1) / rt ≤ 200000000 := Int.le_trans (Int.ediv_le_self _ hq0) (by omega)
          have HM := Lib.hid (show (lastT l + rt - 1) / rt + 1 = M by rw [HL2.out]; exact hM)
          have y0 := HY3.out.cell 0
          by_cases hMb : 20000 < M
          · have HE := Lib.hid (makeP_long HRC0.out HSC0.out HIN.out (by rw [HL2.out]; exact HNG.out) (by rw [HM.out]; omega))
            have hMd : decide ((20000 : Int) < (M : Int)) = true := by rw [decide_eq_true_iff]; omega
            have z0 := HZ3.out.cell 0
            have z1 := HZ3.out.cell 1
            have f0 := HZ3.out.frozen 0
            have f1 := HZ3.out.frozen 1
            go_wp2
            obtain ⟨c0, c1, hbe⟩ := two_set (a := .int .i64 0) (b := .slice none 0 0) HZ3.out HB3.out (by omega)
            refine bodyPost_ret (v := .tuple #[.agg #[.int .i64 0, .slice none 0 0], .int .i64 3]) (by simp [results, Tryz.results10, go_sem, c0, c1]) rfl (mkS_bad HE.out hbe)
          · have HE := Lib.hid (makeP_rows HRC0.out HSC0.out HIN.out (by rw [HL2.out]; exact HNG.out) HM.out hMb)
            have hMd : decide ((20000 : Int) < (M : Int)) = false := by rw [decide_eq_false_iff_not]; omega
            go_upto_region 26 with fail
            have HPL := Lib.hid (show ∀ x ∈ l, Placed x from fun x hx => by
              obtain ⟨j, hj, rfl⟩ := List.getElem_of_mem hx
              exact ev_placed RO.out.sp (RO.out.at' j hj).2)
            have HI0 := Lib.hid (show MoI ((th.length : Int) + 1) (fun (i : Nat) => onRow (onV (l.take (upN l ((i : Int) * rt)))) th) w W3 (w.heap.size + 1 + 1) X 0 (.slice none 0 0) [] from ⟨fun cs e => by rw [e]; exact HR0.out, HZ3.out, rfl, World.ownsRow_nil _ _ _ _, fun j hj => absurd hj (Nat.not_lt_zero j), HB3.out, ⟨by omega, HLW.out⟩⟩)
            obtain ⟨i0, hi0, hz0, hz1, hz2⟩ := info_parts int_info
            obtain ⟨j0, hj0, jz0, jz1, jz2⟩ := info_parts ints_info
            have hM20 : M ≤ 20000 := by omega
            go_wp2
            clear y0 HM HL2 HNG hqd hqb hM hil2 hMd hMb
            go_loopw [17] (fun x wr => ∃ (i : Nat) (V : Value) (vs : List Value), i ≤ M ∧ x = .int .i64 i ∧ RowKit.Hid (MoI ((th.length : Int) + 1) (fun (i : Nat) => onRow (onV (l.take (upN l ((i : Int) * rt)))) th) w wr (w.heap.size + 1 + 1) X i V vs) ∧ RowKit.Hid (Blk wr (w.heap.size + 1) 31 #[.int .i64 rt, .slice at' th.length ct])) (fun x _ => M - (intOf x).toNat)
            case atStart => exact ⟨0, _, _, Nat.zero_le _, rfl, HI0, HY3⟩
            clear HI0 HY3 HZ3 HB3 HR0 HBR
            obtain ⟨i, V, vs, hi, rfl, hI, hY⟩ := hrel
            rename World => Wi
            by_cases hiM : i < M
            · have hiM2 : (i : Int) < (M : Int) := by omega
              have y0 : Wi.cell? ⟨w.heap.size + 1, 0, none⟩ = some (.int .i64 rt) := hY.out.cell 0
              have hir0 : 0 ≤ (i : Int) * rt := Int.mul_nonneg (by omega) (by omega)
              have hir1 : (i : Int) * rt ≤ 20000000 := by
                have h1 : (i : Int) * rt ≤ (i : Int) * 1000 := Int.mul_le_mul_of_nonneg_left hrt2 (by omega)
                omega
              obtain ⟨p, hp⟩ : ∃ p, (i : Int) * rt = p := ⟨_, rfl⟩
              have e1 : IntKind.i64.wrap ((i : Int) * rt) = p := by rw [hp]; exact IntWalk.i64_in _ (by omega)
              rw [hp] at hir0 hir1
              obtain ⟨f0, hf0⟩ : ∃ f0, onV (l.take (upN l p)) = f0 := ⟨_, rfl⟩
              have HRW := Lib.hid (show (fun (i : Nat) => onRow (onV (l.take (upN l ((i : Int) * rt)))) th) i = told (onB f0 th) (th.length + 1) by simp only; rw [hp, hf0]; rfl)
              have HF0 := Lib.hid hf0
              clear hp hf0
              go_wp2_with fail
              refine (up_any l _ p Wi (by omega) (HLV.out.later hI.out.b) HPL.out).mono ?_
              rw [HF0.out]
              rintro e W5 ⟨c2, rfl, hon, hb5⟩
              rename ∀ (a : Act) (w : World), wpList _ _ _ _ a w → _ => hkk
              dsimp only
              refine hkk _ _ ?_
              clear hkk
              have HON := Lib.hid hon
              have HNB := Lib.hid (Blk.new W5 59 Tryz.zeroCells59)
              have HB5 := Lib.hid hb5
              clear hon hb5 y0 e1
              refine wpList_plain rfl (fun K2 hK2 => ?_)
              go_simp
              refine hK2 _ _ ?_
              clear hK2
              refine wpList_store_mid rfl 59 _ _ rfl W5.heap.size 0 c2 rfl rfl (on_there HNB.out (by rw [onI_zero.size, HON.out.size])) (onB_info HON.out.size) HON.out.one ?_
              refine wpList_nil ?_
              obtain ⟨B, hB⟩ : ∃ B, W5.heap.size = B := ⟨_, rfl⟩
              obtain ⟨Wj, hWj⟩ : ∃ Wj, (W5.alloc (.cells Tryz.zeroCells59 59)).setCells B 0 c2.toList = Wj := ⟨_, rfl⟩
              rw [hB] at HNB ⊢
              have HOX := Lib.hid (show OnX f0 Wj B by rw [← hWj]; exact ⟨c2, HON.out, on_put HNB.out onI_zero.size HON.out.size⟩)
              have HBJ := Lib.hid (show Below Wi.heap.size Wi Wj by
                rw [← hWj]
                have h1 := below_step HB5.out ((Below.refl _ W5).alloc (Nat.le_refl _) (.cells Tryz.zeroCells59 59))
                exact h1.grown (grown_cells _ _ _ _) h1.size (fun k e => by cases e; rw [← hB]; exact HB5.out.size))
              rw [hWj]
              clear hWj hB HNB HB5
              have HIJ := Lib.hid (hI.out.below HBJ.out)
              have HYJ := Lib.hid (hY.out.below HBJ.out)
              have HST := Lib.hid (show (Wj.alloc (.cells #[.int .i64 0] 3)).ownsRow Wj.heap.size 3 1 (.slice (some ⟨Wj.heap.size, 0, none⟩) 1 1) (told (onB f0 th) 1).length (iCs (told (onB f0 th) 1)) by
                rw [told_on1]
                exact ⟨rfl, .inr ⟨Wj.heap.size, 1, #[.int .i64 0], rfl, Nat.le_refl _, Blk.new _ _ _, Nat.le_refl 1, by unfold maxLen; omega, rfl, rfl⟩⟩)
              have HSB := Lib.hid (show Below Wj.heap.size Wj (Wj.alloc (.cells #[.int .i64 0] 3)) from (Below.refl _ _).alloc (Nat.le_refl _) _)
              clear hI hY HBJ
              go_wp2
              go_loopw [19, 20] (fun u x wr => ∃ (k : Nat), k ≤ th.length ∧ x = .int .i64 k ∧ RowKit.Hid (wr.ownsRow Wj.heap.size 3 1 u (told (onB f0 th) (k + 1)).length (iCs (told (onB f0 th) (k + 1)))) ∧ RowKit.Hid (Below Wj.heap.size Wj wr)) (fun _ x _ => th.length - (intOf x).toNat)
              case atStart => exact ⟨0, Nat.zero_le _, rfl, by rw [told_on1] at HST ⊢; exact HST, HSB⟩
              clear HST HSB
              obtain ⟨k, hk, rfl, hrow, hW2⟩ := hrel
              have hsz2 := hW2.out.size
              have y1 : wr.cell? ⟨w.heap.size + 1, 1, none⟩ = some (.slice at' th.length ct) := (HYJ.out.below hW2.out).cell 1
              by_cases hkt : k < th.length
              · have hkt2 : (k : Int) < (th.length : Int) := by omega
                obtain ⟨b1, o1, c1, ev1, hbl1, p0, p1, p2⟩ := (HTH.out.later (below_step HIJ.out.b hW2.out)).thAt k hkt
                cases ev1
                have hle := told_len (onB f0 th) (k + 1)
                obtain ⟨bb, hbb⟩ := any_eq (decide (f0 th[k] = 1))
                have HBB := Lib.hid hbb
                have HNX := Lib.hid (show told (onB f0 th) (k + 1 + 1) = told (onB f0 th) (k + 1) ++ if bb then [((k : Int) + 1)] else [] by rw [told_onB f0 th hkt, hbb])
                have HTP := Lib.hid (th_placed RO.out.sp (SO.out.good th[k] (List.getElem_mem hkt)))
                clear hbb
                obtain ⟨cs, hon, hbk⟩ := (HOX.out.below hW2.out).ex
                have HON := Lib.hid hon
                have HBK := Lib.hid hbk
                clear hon hbk
                go_upto_region 34 with fail
                refine wp_region_still_tail 6 (by kernel_rfl) (by kernel_rfl) ?_
                simp only [List.take_succ_cons, List.take_zero, List.drop_succ_cons, List.drop_zero]
                refine still_load_on rfl _ rfl B rfl (c := cs) HBK.out HON.out.size ?_
                simp only [Act.put]
                iterate 5 still_step
                refine wpStill_nil ?_
                change wpList _ _ _ _ _ (World.drew wr)
                go_wp2_with fail
                refine (on_any cs f0 HON.out th[k] HTP.out.1 HTP.out.2 wr.drew).mono ?_
                rw [HBB.out]
                rintro e W7 ⟨rfl, hb7⟩
                have hb7' := below_undrew hb7
                have HW7 := Lib.hid (below_step hW2.out hb7')
                have hrow2 := Lib.hid (row_later hrow.out hb7')
                have hsz7 := HW7.out.size
                clear hb7 hb7' hrow hW2 y1 p0 p1 p2
                obtain ⟨ua, uc, rfl⟩ := own_form hrow2.out
                have HPU := Lib.hid (fun (o : Obj) (w3 : World) (hg : (W7.alloc o).grownBy w3 (Value.slice ua (told (onB f0 th) (k + 1)).length uc).ownBlock) => push_low HW7.out hrow2.out hg)
                cases bb with
                | false =>
                  have HN2 : RowKit.Hid (W7.ownsRow Wj.heap.size 3 1 (.slice ua (told (onB f0 th) (k + 1)).length uc) (told (onB f0 th) (k + 1 + 1)).length (iCs (told (onB f0 th) (k + 1 + 1)))) := by
                    rw [HNX.out, if_neg (by decide), List.append_nil]
                    exact hrow2
                  go_wp2
                  go_roundw
                  case rel => exact ⟨k + 1, by omega, by go_num, HN2, HW7⟩
                  case measure => simp [intOf]; omega
                | true =>
                  go_wp2_with (at_builtin; refine wpList_append_lies _ rfl _ _ 74 rfl Wj.heap.size 3 i0 _ 1 8 Tryz.underlying74 hi0 hz0 hz1 hz2 rfl (by omega) _ _ _ rfl (hrow2.out.alloc _) ⟨W7.heap.size, 0, none⟩ 1 1 [.int .i64 ((k : Int) + 1)] rfl rfl (World.news_of_block (cs := #[.int .i64 ((k : Int) + 1)]) (t := 3) (fr := (0, 0)) (heap_alloc_new W7 _)) (by simp [Value.oneCell']) (by omega) (by unfold maxLen; omega) (by omega) (by simp; omega) (W7.heap.size + 1) (by simp) ?_; intro gg cap3 w3 hown3 hgrow hat3 hlt3)
                  have HN2 : RowKit.Hid (w3.ownsRow Wj.heap.size 3 1 (.slice (some ⟨gg, 0, none⟩) ((told (onB f0 th) (k + 1)).length + 1) cap3) (told (onB f0 th) (k + 1 + 1)).length (iCs (told (onB f0 th) (k + 1 + 1)))) := by
                    rw [HNX.out, if_pos trivial, List.length_append, List.length_singleton, iCs_snoc]
                    exact Lib.hid hown3
                  have HB3 := Lib.hid (HPU.out _ _ hgrow)
                  exact ⟨⟨k + 1, by omega, by go_num, HN2, HB3⟩, by simp [intOf]; omega⟩
              · have hkt2 : ¬ (k : Int) < (th.length : Int) := by omega
                have hke : k = th.length := by omega
                have HI2 := Lib.hid (HIJ.out.below hW2.out)
                have HY2' := Lib.hid (HYJ.out.below hW2.out)
                have hszj := HIJ.out.b.size
                have HU : RowKit.Hid (wr.ownsRow w.heap.size 3 1 u19 ((fun (i : Nat) => onRow (onV (l.take (upN l ((i : Int) * rt)))) th) i).length (iCs ((fun (i : Nat) => onRow (onV (l.take (upN l ((i : Int) * rt)))) th) i))) := by
                  dsimp only
                  rw [HRW.out, ← hke]
                  exact Lib.hid (row_base hrow.out hszj)
                clear hrow hke
                obtain ⟨ua, uc, eu⟩ := own_form HU.out
                obtain ⟨m, hm⟩ := any_eq ((fun (i : Nat) => onRow (onV (l.take (upN l ((i : Int) * rt)))) th) i).length
                rw [hm] at eu
                subst eu
                obtain ⟨va, vc, eV⟩ := own_form HI2.out.out
                subst eV
                have HOUT := Lib.hid HI2.out.out
                have z1 := (HI2.out.x _ rfl).cell 1
                have hsz3 := HI2.out.b.size
                have HAP := Lib.hid (fun (o : Obj) (w3 : World) (V' : Value) => HI2.out.app (w3 := w3) HY2'.out HU.out o V')
                clear hm
                go_wp2_with (at_builtin; refine wpList_append_lies _ rfl _ _ 34 rfl w.heap.size 74 j0 _ 1 24 Tryz.underlying34 hj0 jz0 jz1 jz2 rfl (by omega) _ _ _ rfl (HOUT.out.alloc _) ⟨wr.heap.size, 0, none⟩ 1 1 [.slice ua m uc] rfl rfl (World.news_of_block (cs := #[.slice ua m uc]) (t := 74) (fr := (0, 0)) (heap_alloc_new wr _)) (by simp [Value.oneCell']) (by omega) (by unfold maxLen; omega) (by omega) (by simp; omega) (wr.heap.size + 1) (by simp) ?_; intro gg cap3 w3 hown3 hgrow hat3 hlt3; obtain ⟨s1, s2, HI3, HX3⟩ := HAP.out _ _ _ hgrow hown3; clear hown3 hgrow hat3 hlt3)
                go_roundw
                case rel => exact ⟨i + 1, _, _, by omega, by go_num, HI3, HX3⟩
                case measure => simp [intOf]; omega
            · have hiM2 : ¬ (i : Int) < (M : Int) := by omega
              have hie : i = M := by omega
              subst hie
              obtain ⟨va, vc, eV⟩ := own_form hI.out.out
              subst eV
              have x0 := (hI.out.x _ rfl).cell 0
              have x1 := (hI.out.x _ rfl).cell 1
              have z0 := hI.out.res.cell 0
              have z1 := hI.out.res.cell 1
              have g0 := hI.out.res.frozen 0
              have g1 := hI.out.res.frozen 1
              go_wp2
              obtain ⟨c0, c1, hrd, hbl⟩ := hI.out.fin (a := .int .i64 ((th.length : Int) + 1)) (b := .slice va i vc)
              refine bodyPost_ret (v := .tuple #[.agg #[.int .i64 ((th.length : Int) + 1), .slice va i vc], .int .i64 0]) (by simp [results, Tryz.results10, go_sem, c0, c1]) rfl ?_
              unfold MkS
              rw [HE.out]
              exact ⟨_, _, rfl, hrd, hbl⟩
    · have HE := Lib.hid (makeP_sc (l := l) (rt := rt) (th := th) (show (recE S l).2 = 0 by rw [HRC.out]) HSC.out hs0)
      have hne : (sc != 0) = true := by simpa using hs0
      have z0 := HZ2.out.cell 0
      have z1 := HZ2.out.cell 1
      have f0 := HZ2.out.frozen 0
      have f1 := HZ2.out.frozen 1
      go_wp2
      obtain ⟨c0, c1, hbe⟩ := two_set (a := .int .i64 0) (b := .slice none 0 0) HZ2.out HB2.out (by omega)
      refine bodyPost_ret (v := .tuple #[.agg #[.int .i64 0, .slice none 0 0], .int .i64 sc]) (by simp [results, Tryz.results10, go_sem, c0, c1]) rfl (mkS_bad HE.out hbe)
  · have HE := Lib.hid (makeP_rec (rt := rt) (th := th) (show (recE S l).2 = r2 by rw [HRC.out]) hr2)
    have hne : (r2 != 0) = true := by simpa using hr2
    have hne2 : (r2 == 0) = false := by simpa using hr2
    have z0 := HZ1.out.cell 0
    have z1 := HZ1.out.cell 1
    have f0 := HZ1.out.frozen 0
    have f1 := HZ1.out.frozen 1
    go_wp2
    obtain ⟨c0, c1, hbe⟩ := two_set (a := .int .i64 0) (b := .slice none 0 0) HZ1.out HB1.out (by omega)
    refine bodyPost_ret (v := .tuple #[.agg #[.int .i64 0, .slice none 0 0], .int .i64 r2]) (by simp [results, Tryz.results10, go_sem, c0, c1]) rfl (mkS_bad HE.out hbe)
theorem recE_big {S : Sp} {l : List Ev} (h : (recE S l).2 = 0) : l.length ≤ 20000 := (recE_ok h).len
theorem mkR_S {p : Ro × Int} (h : p.2 = 0) {w : World} {e : Ending} {w' : World} (hr : MkR p.1 w e w') : MkS p w e w' := by
  obtain ⟨v, g, h1, h2, h3, _⟩ := hr
  exact ⟨v, g, by rw [h1, h], h2, h3⟩
set_option maxRecDepth 100000 in
set_option maxHeartbeats 6400000 in
theorem make_any (v1 v2 v3 v4 : Value) (S : Sp) (ok : SpOk S) (f : Nat → Value) (l : List Ev) (vl : Value) (rt : Int) (th : List Th) (vt : Value) (w : World) (t : Tabs w) (hsp : SpRd w v1 v2 v3 v4 f S) (hl : l.length ≤ 1000000) (hlv : ARd w vl 5 (l.map evC)) (hcl : ∀ a n c, vl = .slice a n c → n ≤ c) (htl : th.length ≤ 1000000) (hth : ARd w vt 3 (th.map thC)) (hct : ∀ a n c, vt = .slice a n c → n ≤ c) :
    Calls Tryz.prog 9 #[.agg #[v1, v2, v3, v4], vl, .agg #[.int .i64 rt, vt]] w (MkS (makeP S l rt th) w) := by
  by_cases hgood : (recE S l).2 = 0 ∧ scE S rt th = 0 ∧ (∀ x ∈ l, x.2.1 ≤ 3 → thing x ∈ th) ∧ 0 ≤ lastT l ∧ (lastT l + rt - 1) / rt + 1 ≤ 20000
  · obtain ⟨h1, h2, h3, h4, h5⟩ := hgood
    have hrt := (scE_ok h2).rt1
    have hq := Int.ediv_nonneg (show 0 ≤ lastT l + rt - 1 by omega) (show 0 ≤ rt by omega)
    obtain ⟨M, hM⟩ := Int.eq_ofNat_of_zero_le (show 0 ≤ (lastT l + rt - 1) / rt + 1 by omega)
    refine (make_good v1 v2 v3 v4 S ok f l vl rt th vt w t hsp hlv hcl hth hct (ev_ok ok v1 v2 v3 v4 f l) (recE_two h1) h2 h3 h4 M hM (by omega)).mono ?_
    intro e w' hr
    exact mkR_S (by rw [makeP_rows h1 h2 h3 (by omega) hM (by omega)]) hr
  · obtain ⟨al, cl, rfl⟩ := hlv.evForm
    obtain ⟨at', ct, rfl⟩ := hth.thForm
    have hb0 : Below w.heap.size w (((w.alloc (.cells #[v1, v2, v3, v4] 27)).alloc (.cells #[.int .i64 rt, .slice at' th.length ct] 31)).alloc (.cells #[.int .i64 0, .slice none 0 0] 36)) := (below_two w _ _).alloc (by simp; omega) _
    have HX := Lib.hid (((Blk.new w 27 #[v1, v2, v3, v4]).alloc (.cells #[.int .i64 rt, .slice at' th.length ct] 31)).alloc (.cells #[.int .i64 0, .slice none 0 0] 36))
    have HY := Lib.hid ((Blk.new (w.alloc (.cells #[v1, v2, v3, v4] 27)) 31 #[.int .i64 rt, .slice at' th.length ct]).alloc (.cells #[.int .i64 0, .slice none 0 0] 36))
    have HZ := Lib.hid (Blk.new ((w.alloc (.cells #[v1, v2, v3, v4] 27)).alloc (.cells #[.int .i64 rt, .slice at' th.length ct] 31)) 36 #[.int .i64 0, .slice none 0 0])
    rw [World.size_alloc] at HY
    rw [World.size_alloc, World.size_alloc] at HZ
    have HB0 := Lib.hid hb0
    have HSP := Lib.hid hsp
    have HT := Lib.hid t
    have HOK := Lib.hid ok
    have HLV := Lib.hid hlv
    have HTH := Lib.hid hth
    have HCT := Lib.hid hct
    have HBAD := Lib.hid hgood
    obtain ⟨rc, hrc⟩ : ∃ rc, recE S l = rc := ⟨_, rfl⟩
    obtain ⟨r1, r2⟩ := rc
    have HRC := Lib.hid hrc
    obtain ⟨sc, hsc⟩ : ∃ sc, scE S rt th = sc := ⟨_, rfl⟩
    have HSC := Lib.hid hsc
    clear hb0 hsp t ok hlv hth hct hcl hgood hrc hsc
    go_enter Tryz.func9, Tryz.ntmps9
    go_wp2_with fail
    refine (rec_any v1 v2 v3 v4 S HOK.out f l _ _ (HT.out.below HB0.out) (HSP.out.later HB0.out) hl (HLV.out.later HB0.out) (ev_ok HOK.out v1 v2 v3 v4 f l)).mono ?_
    unfold RecR
    rw [HRC.out]
    rintro e W1 ⟨rfl, hb1⟩
    have HB1 := Lib.hid (below_step HB0.out hb1)
    have HX1 := Lib.hid (HX.out.below hb1)
    have HY1 := Lib.hid (HY.out.below hb1)
    have HZ1 := Lib.hid (HZ.out.below hb1)
    clear hb1
    by_cases hr2 : r2 = 0
    · subst hr2
      have x0 : W1.cell? ⟨w.heap.size, 0, none⟩ = some v1 := HX1.out.cell 0
      have x1 : W1.cell? ⟨w.heap.size, 1, none⟩ = some v2 := HX1.out.cell 1
      have x2 : W1.cell? ⟨w.heap.size, 2, none⟩ = some v3 := HX1.out.cell 2
      have x3 : W1.cell? ⟨w.heap.size, 3, none⟩ = some v4 := HX1.out.cell 3
      have y0 : W1.cell? ⟨w.heap.size + 1, 0, none⟩ = some (.int .i64 rt) := HY1.out.cell 0
      have y1 : W1.cell? ⟨w.heap.size + 1, 1, none⟩ = some (.slice at' th.length ct) := HY1.out.cell 1
      go_wp2_with fail
      refine (scale_any v1 v2 v3 v4 S HOK.out f rt th _ _ (HT.out.below HB1.out) (HSP.out.later HB1.out) htl (HTH.out.later HB1.out) HCT.out).mono ?_
      rintro e W2 ⟨rfl, hb2⟩
      rw [HSC.out]
      have HB2 := Lib.hid (below_step HB1.out hb2)
      have HY2 := Lib.hid (HY1.out.below hb2)
      have HZ2 := Lib.hid (HZ1.out.below hb2)
      clear hb2 x0 x1 x2 x3 y0 y1 HX1 HY1 HZ1 HB1
      by_cases hs0 : sc = 0
      · have SO := Lib.hid (scE_ok (show scE S rt th = 0 by rw [HSC.out]; exact hs0))
        have RO := Lib.hid (recE_ok (S := S) (l := l) (by rw [HRC.out]))
        have HSC0 : RowKit.Hid (scE S rt th = 0) := Lib.hid (by rw [HSC.out]; exact hs0)
        have HRC0 : RowKit.Hid ((recE S l).2 = 0) := Lib.hid (by rw [HRC.out])
        have hth1 := SO.out.th1
        have hth2 := SO.out.th2
        have hrt1 := SO.out.rt1
        have hrt2 := SO.out.rt2
        have hl20 := RO.out.len
        subst hs0
        clear HSC HRC
        obtain ⟨W, rfl⟩ : ∃ W, W = W2 := ⟨_, rfl⟩
        go_wp2
        go_loopw [11, 39] (fun y x wr => ∃ (i : Nat), i ≤ l.length ∧ y = .int .i64 (lastT (l.take i)) ∧ x = .int .i64 i ∧ RowKit.Hid (∀ j (hj : j < l.length), j < i → l[j].2.1 ≤ 3 → thing l[j] ∈ th) ∧ RowKit.Hid (Below W.heap.size W wr)) (fun _ x _ => l.length - (intOf x).toNat)
        case atStart => exact ⟨0, by omega, rfl, rfl, Lib.hid (fun j _ h => absurd h (Nat.not_lt_zero j)), Lib.hid (Below.refl _ _)⟩
        obtain ⟨i, hi, rfl, rfl, hF, hW⟩ := hrel
        obtain ⟨lt, hlt'⟩ : ∃ lt, lastT (l.take i) = lt := ⟨_, rfl⟩
        rw [hlt']
        have HLT := Lib.hid hlt'
        clear hlt'
        by_cases hlt : i < l.length
        · have hi2 : (i : Int) < (l.length : Int) := by omega
          have HBW := Lib.hid (below_step HB2.out hW.out)
          obtain ⟨b, o, c', ev', hbl, q0, q1, q2, q3, q4⟩ := (HLV.out.later HBW.out).evAt i hlt
          cases ev'
          have HLN := Lib.hid (show lastT (l.take (i + 1)) = if l[i].2.1 ≤ 3 then l[i].1 else lt by rw [List.take_succ_eq_append_getElem hlt, lastT_snoc, HLT.out])
          obtain ⟨x, hx⟩ : ∃ x, l[i] = x := ⟨_, rfl⟩
          have hxm : x ∈ l := by rw [← hx]; exact List.getElem_mem hlt
          have HXE := Lib.hid hx
          rw [hx] at q0 q1 q2 q3 q4 HLN
          have HXM := Lib.hid hxm
          have HKX := Lib.hid (Blk.new wr 68 #[.int .i64 x.1, .int .i64 x.2.1, .int .i64 x.2.2.1, .int .i64 x.2.2.2.1, .int .i64 x.2.2.2.2])
          have HBX := Lib.hid (show Below wr.heap.size wr (wr.alloc (.cells #[.int .i64 x.1, .int .i64 x.2.1, .int .i64 x.2.2.1, .int .i64 x.2.2.2.1, .int .i64 x.2.2.2.2] 68)) from (Below.refl _ wr).alloc (Nat.le_refl _) _)
          have HWX := Lib.hid (below_step hW.out HBX.out)
          have HFN := Lib.hid (show (x.2.1 ≤ 3 → thing x ∈ th) → ∀ j (hj : j < l.length), j < i + 1 → l[j].2.1 ≤ 3 → thing l[j] ∈ th from fun hm j hj hj2 h => by
            by_cases e : j = i
            · subst e; rw [HXE.out] at h ⊢; exact hm h
            · exact hF.out j hj (by omega) h)
          clear hx hxm
          by_cases h3 : 3 < x.2.1
          · have HLN2 : RowKit.Hid (lastT (l.take (i + 1)) = lt) := Lib.hid (by rw [HLN.out, if_neg (by omega)])
            have HFN2 := Lib.hid (HFN.out (fun h => by omega))
            go_wp2
            go_roundw
            case rel => exact ⟨i + 1, by omega, by rw [HLN2.out], by go_num, HFN2, HWX⟩
            case measure => simp [intOf]; omega
          · have h3' : decide (3 < x.2.1) = false := by rw [decide_eq_false_iff_not]; exact h3
            have HX3 := Lib.hid (show x.2.1 ≤ 3 by omega)
            have HLN2 : RowKit.Hid (lastT (l.take (i + 1)) = x.1) := Lib.hid (by rw [HLN.out, if_pos (by omega)])
            have y1 : wr.cell? ⟨w.heap.size + 1, 1, none⟩ = some (.slice at' th.length ct) := (HY2.out.below hW.out).cell 1
            have y1' := cell_alloc y1
            clear h3
            obtain ⟨bb, hbb⟩ : ∃ bb, decide (thing x ∈ th) = bb := ⟨_, rfl⟩
            have HCN := Lib.hid hbb
            go_wp2_with fail
            refine (contains_any th (thing x) _ _ (by omega) (HTH.out.later (below_step HB2.out HWX.out)) bb HCN.out).mono ?_
            rintro e w' ⟨rfl, hb3⟩
            have HW3 := Lib.hid (below_step HWX.out hb3)
            have k0 := (HKX.out.below hb3).cell 0
            clear hb3 hbb y1 y1' q0 q1 q2 q3 q4
            cases bb with
            | true =>
              have HFN2 := Lib.hid (HFN.out (fun _ => of_decide_eq_true HCN.out))
              go_wp2
              go_roundw
              case rel => exact ⟨i + 1, by omega, by rw [HLN2.out], by go_num, HFN2, HW3⟩
              case measure => simp [intOf]; omega
            | false =>
              have HE := Lib.hid (makeP_no HRC0.out HSC0.out HXM.out HX3.out (of_decide_eq_false HCN.out))
              have HZ9 := Lib.hid (HZ2.out.below HW3.out)
              have HB9 := Lib.hid (below_step HB2.out HW3.out)
              have z0 := HZ9.out.cell 0
              have z1 := HZ9.out.cell 1
              have f0 := HZ9.out.frozen 0
              have f1 := HZ9.out.frozen 1
              go_wp2
              obtain ⟨c0, c1, hbe⟩ := two_set (a := .int .i64 0) (b := .slice none 0 0) HZ9.out HB9.out (by omega)
              refine bodyPost_ret (v := .tuple #[.agg #[.int .i64 0, .slice none 0 0], .int .i64 4]) (by simp [results, Tryz.results9, go_sem, c0, c1]) rfl (mkS_bad HE.out hbe)
        · have hi2 : ¬ ((i : Int) < (l.length : Int)) := by omega
          have hie : i = l.length := by omega
          have HIN := Lib.hid (show ∀ x ∈ l, x.2.1 ≤ 3 → thing x ∈ th from fun x hx h => by
            obtain ⟨j, hj, rfl⟩ := List.getElem_of_mem hx
            exact hF.out j hj (by omega) h)
          have HL2 := Lib.hid (show lastT l = lt by rw [← HLT.out, hie, List.take_length])
          have hla1 := (lastT_le RO.out i (by omega)).1
          have hla2 := (lastT_le RO.out i (by omega)).2
          rw [HLT.out] at hla1 hla2
          have HBW := Lib.hid (below_step HB2.out hW.out)
          have HZ9 := Lib.hid (HZ2.out.below hW.out)
          have HY9 := Lib.hid (HY2.out.below hW.out)
          have y0 : wr.cell? ⟨w.heap.size + 1, 0, none⟩ = some (.int .i64 rt) := HY9.out.cell 0
          have y1 : wr.cell? ⟨w.heap.size + 1, 1, none⟩ = some (.slice at' th.length ct) := HY9.out.cell 1
          have y0' := cell_alloc y0
          obtain ⟨K, hK⟩ : ∃ K : Nat, K = th.length + 1 := ⟨_, rfl⟩
          have hK2 : 1 + (th.length : Int) = (K : Int) := by omega
          have hK128 : K ≤ 128 := by omega
          have HK := Lib.hid hK
          clear hK hie
          by_cases hneg : lt < 0
          · have HE := Lib.hid (makeP_none HRC0.out HSC0.out HIN.out (by rw [HL2.out]; exact hneg))
            have hnd : decide (lt < 0) = true := decide_eq_true hneg
            have HP := Lib.hid (show Pap (wr.alloc (.cells #[.int .i64 K, .slice none 0 0] 86)) wr.heap.size wr.heap.size (K : Int) (.slice none 0 0) [] from ⟨Blk.new wr _ _, World.ownsRow_nil _ _ _ _, Nat.le_refl _, fun q hq => by cases hq⟩)
            have HBP := Lib.hid (show Below w.heap.size w (wr.alloc (.cells #[.int .i64 K, .slice none 0 0] 86)) from below_step HBW.out ((Below.refl _ wr).alloc (Nat.le_refl _) _))
            have HZP := Lib.hid (HZ9.out.alloc (.cells #[.int .i64 K, .slice none 0 0] 86))
            have hlow : w.heap.size + 1 + 1 < wr.heap.size := HZ9.out.lt
            clear hneg y0 y0'
            go_wp2_with fail
            refine (roll_any K hK128 wr.heap.size wr.heap.size _ [] (Nat.zero_le _) _ HP.out).mono ?_
            rintro e W7 ⟨rv, rg, rfl, hrd, hb7, hrk⟩
            obtain ⟨ra, rc, rfl⟩ := hrd.form
            have HZ7 := Lib.hid (HZP.out.below hb7)
            have HB7 := Lib.hid (below_step HBP.out hb7)
            have z0 := HZ7.out.cell 0
            have z1 := HZ7.out.cell 1
            have g0 := HZ7.out.frozen 0
            have g1 := HZ7.out.frozen 1
            clear hb7 hrk
            go_wp2
            obtain ⟨c0, c1, hbe⟩ := two_set (a := .int .i64 (K : Int)) (b := .slice ra 0 rc) HZ7.out HB7.out (by omega)
            refine bodyPost_ret (v := .tuple #[.agg #[.int .i64 (K : Int), .slice ra 0 rc], .int .i64 0]) (by simp [results, Tryz.results9, go_sem, c0, c1]) rfl ?_
            unfold MkS
            rw [HE.out]
            exact ⟨_, fun _ => .slice none 0 0, by rw [HK.out]; rfl, ⟨⟨_, _, rfl, fun j hj => absurd hj (Nat.not_lt_zero j)⟩, fun i hi => absurd hi (Nat.not_lt_zero i)⟩, hbe⟩
          · have hnd : decide (lt < 0) = false := decide_eq_false hneg
            have hneg2 : 0 ≤ lt := by omega
            have hq0 : 0 ≤ lt + rt - 1 := by omega
            have hqd := Int.ediv_nonneg hq0 (show 0 ≤ rt by omega)
            have hqb : (lt + rt - 1) / rt ≤ 200000000 := Int.le_trans (Int.ediv_le_self _ hq0) (by omega)
            have hMb : 20000 < (lt + rt - 1) / rt + 1 := by
              rcases Int.lt_or_le 20000 ((lt + rt - 1) / rt + 1) with q | q
              · exact q
              · exact absurd ⟨HRC0.out, HSC0.out, HIN.out, by rw [HL2.out]; exact hneg2, by rw [HL2.out]; exact q⟩ HBAD.out
            have HE := Lib.hid (makeP_long HRC0.out HSC0.out HIN.out (by rw [HL2.out]; exact hneg) (by rw [HL2.out]; exact hMb))
            have HBP := Lib.hid (show Below w.heap.size w (wr.alloc (.cells #[.int .i64 K, .slice none 0 0] 86)) from below_step HBW.out ((Below.refl _ wr).alloc (Nat.le_refl _) _))
            have HZP := Lib.hid (HZ9.out.alloc (.cells #[.int .i64 K, .slice none 0 0] 86))
            have z0 := HZP.out.cell 0
            have z1 := HZP.out.cell 1
            have g0 := HZP.out.frozen 0
            have g1 := HZP.out.frozen 1
            clear hneg
            obtain ⟨q, hq⟩ : ∃ q, (lt + rt - 1) / rt = q := ⟨_, rfl⟩
            rw [hq] at hqd hqb hMb
            go_wp2
            obtain ⟨c0, c1, hbe⟩ := two_set (a := .int .i64 0) (b := .slice none 0 0) HZP.out HBP.out (by omega)
            refine bodyPost_ret (v := .tuple #[.agg #[.int .i64 0, .slice none 0 0], .int .i64 3]) (by simp [results, Tryz.results9, go_sem, c0, c1]) rfl (mkS_bad HE.out hbe)
      · have HE := Lib.hid (makeP_sc (l := l) (rt := rt) (th := th) (show (recE S l).2 = 0 by rw [HRC.out]) HSC.out hs0)
        have hne : (sc != 0) = true := by simpa using hs0
        have z0 := HZ2.out.cell 0
        have z1 := HZ2.out.cell 1
        have f0 := HZ2.out.frozen 0
        have f1 := HZ2.out.frozen 1
        go_wp2
        obtain ⟨c0, c1, hbe⟩ := two_set (a := .int .i64 0) (b := .slice none 0 0) HZ2.out HB2.out (by omega)
        refine bodyPost_ret (v := .tuple #[.agg #[.int .i64 0, .slice none 0 0], .int .i64 sc]) (by simp [results, Tryz.results9, go_sem, c0, c1]) rfl (mkS_bad HE.out hbe)
    · have HE := Lib.hid (makeP_rec (rt := rt) (th := th) (show (recE S l).2 = r2 by rw [HRC.out]) hr2)
      have hne : (r2 != 0) = true := by simpa using hr2
      have z0 := HZ1.out.cell 0
      have z1 := HZ1.out.cell 1
      have f0 := HZ1.out.frozen 0
      have f1 := HZ1.out.frozen 1
      go_wp2
      obtain ⟨c0, c1, hbe⟩ := two_set (a := .int .i64 0) (b := .slice none 0 0) HZ1.out HB1.out (by omega)
      refine bodyPost_ret (v := .tuple #[.agg #[.int .i64 0, .slice none 0 0], .int .i64 r2]) (by simp [results, Tryz.results9, go_sem, c0, c1]) rfl (mkS_bad HE.out hbe)
def DlEnds (S : Sp) (l : List Ev) (th : List Th) (w : World) (e : Ending) (w' : World) : Prop := ∃ b, e = .returned (.bool b) ∧ (b = false → SpOk S ∧ l.length ≤ 60 ∧ th.length ≤ 200) ∧ Below w.heap.size w w'
set_option maxRecDepth 100000 in
set_option maxHeartbeats 6400000 in
theorem deep_l (v1 v2 v3 v4 : Value) (S : Sp) (f : Nat → Value) (l : List Ev) (vl : Value) (rt : Int) (th : List Th) (vt : Value) (w : World) (hsp : SpRd w v1 v2 v3 v4 f S) (hlv : ARd w vl 5 (l.map evC)) (hth : ARd w vt 3 (th.map thC)) :
    Calls Tryz.prog 7 #[.agg #[v1, v2, v3, v4], vl, .agg #[.int .i64 rt, vt]] w (DlEnds S l th w) := by
  obtain ⟨⟨a1, c1, rfl⟩, ⟨a2, c2, rfl⟩, ⟨a3, c3, rfl⟩, ⟨a4, c4, rfl⟩⟩ := hsp.forms
  obtain ⟨at', ct, rfl⟩ := hth.thForm
  obtain ⟨al, cl, rfl⟩ := hlv.evForm
  obtain ⟨d1, hd1⟩ : ∃ d1, S.ds.length = d1 := ⟨_, rfl⟩
  obtain ⟨d2, hd2⟩ : ∃ d2, S.rs.length = d2 := ⟨_, rfl⟩
  obtain ⟨d3, hd3⟩ : ∃ d3, S.ss.length = d3 := ⟨_, rfl⟩
  obtain ⟨d4, hd4⟩ : ∃ d4, S.cs.length = d4 := ⟨_, rfl⟩
  rw [hd1, hd2, hd3, hd4] at hsp ⊢
  have hb0 : Below w.heap.size w ((w.alloc (.cells #[.slice a1 d1 c1, .slice a2 d2 c2, .slice a3 d3 c3, .slice a4 d4 c4] 27)).alloc (.cells #[.int .i64 rt, .slice at' th.length ct] 31)) := below_two w _ _
  have k2 := Blk.new (w.alloc (.cells #[.slice a1 d1 c1, .slice a2 d2 c2, .slice a3 d3 c3, .slice a4 d4 c4] 27)) 31 #[.int .i64 rt, .slice at' th.length ct]
  rw [World.size_alloc] at k2
  have HSP := Lib.hid hsp
  have HLV := Lib.hid hlv
  have HB0 := Lib.hid hb0
  have HY0 := Lib.hid k2
  clear hsp hth hb0 k2 hd1 hd2 hd3 hd4 hlv
  go_enter Tryz.func7, Tryz.ntmps7
  go_wp2_with fail
  refine (far_any _ _ _ _ S _ f (HSP.out.later HB0.out)).mono ?_
  rintro e W1 ⟨b, rfl, hok, hb1⟩
  have HB1 := Lib.hid (below_step HB0.out hb1)
  have HY1 := Lib.hid (HY0.out.below hb1)
  have y0 := HY1.out.cell 0
  have y1 := HY1.out.cell 1
  clear hb1
  cases b with
  | true =>
    clear hok
    go_wp2
    go_ret
    exact ⟨true, rfl, fun h => (by cases h), HB1.out⟩
  | false =>
    have OK := Lib.hid (hok rfl)
    clear hok
    by_cases h6 : (60 : Int) < (l.length : Int)
    · have h6' : decide ((60 : Int) < (l.length : Int)) = true := decide_eq_true h6
      clear h6
      go_wp2
      go_ret
      exact ⟨true, rfl, fun h => (by cases h), HB1.out⟩
    · have h6' : decide ((60 : Int) < (l.length : Int)) = false := decide_eq_false h6
      have h60 : l.length ≤ 60 := by omega
      clear h6
      by_cases h2 : (200 : Int) < (th.length : Int)
      · have h2' : decide ((200 : Int) < (th.length : Int)) = true := decide_eq_true h2
        clear h2
        go_wp2
        go_ret
        exact ⟨true, rfl, fun h => (by cases h), HB1.out⟩
      · have h2' : decide ((200 : Int) < (th.length : Int)) = false := decide_eq_false h2
        have h3 : th.length ≤ 200 := by omega
        have H3 := Lib.hid (show SpOk S ∧ l.length ≤ 60 ∧ th.length ≤ 200 from ⟨OK.out, h60, h3⟩)
        clear h2
        go_wp2
        go_loopw [7, 8] (fun x y wr => ∃ (i : Nat) (m : Int), i ≤ l.length ∧ 0 ≤ m ∧ x = .int .i64 m ∧ y = .int .i64 i ∧ wr = W1) (fun _ y _ => l.length - (intOf y).toNat)
        case atStart => exact ⟨0, 0, Nat.zero_le _, Int.le_refl _, rfl, rfl, rfl⟩
        obtain ⟨i, m, hi, hm, rfl, rfl, hwr⟩ := hrel
        subst hwr
        by_cases hil : i < l.length
        · have hil2 : (i : Int) < (l.length : Int) := by omega
          obtain ⟨b, o, c', ev, hbl, k0, k1, k2, k3, k4⟩ := (HLV.out.later HB1.out).evAt i hil
          cases ev
          clear k1 k2 k3 k4
          go_wp2
          go_roundw
          case rel => exact ⟨i + 1, _, by omega, by omega, rfl, by go_num, by trivial⟩
          case measure => simp [intOf]; omega
        · have hil2 : ¬ (i : Int) < (l.length : Int) := by omega
          by_cases b1 : rt < 1
          · go_wp2
            go_ret
            exact ⟨false, rfl, fun _ => H3.out, HB1.out⟩
          · by_cases b2 : 1000 < rt
            · go_wp2
              go_ret
              exact ⟨false, rfl, fun _ => H3.out, HB1.out⟩
            · have hnz : ¬ rt = 0 := by omega
              by_cases b3 : 100000000 < m
              · go_wp2
                go_ret
                exact ⟨false, rfl, fun _ => H3.out, HB1.out⟩
              · have hqd := Int.ediv_nonneg hm (show 0 ≤ rt by omega)
                have hqb : m / rt ≤ 100000000 := Int.le_trans (Int.ediv_le_self _ hm) (by omega)
                go_wp2
                all_goals go_ret
                all_goals exact ⟨_, rfl, fun _ => H3.out, HB1.out⟩
end Go.Proofs.YtppccacfdpkkgaaGreatDoor
