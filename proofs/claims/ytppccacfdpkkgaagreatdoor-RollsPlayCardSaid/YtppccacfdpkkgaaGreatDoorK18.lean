/-
  CONTRACTS: slots: the slots of a track, one after the other.
-/
import Derived.Test.YtppccacfdpkkgaaGreatDoorK4
import Derived.Test.YtppccacfdpkkgaaGreatDoorH
import Derived.RangeFuncWrites
import Derived.RangeFuncBox
import Derived.RangeFuncNested
import Derived.RangeFuncBound
import Derived.RangeFuncCalls
import Derived.RangeFuncLeaves
import Derived.Shelf.Abstract
import Derived.Shelf.RegionOpen
import Derived.OwnWalkIn
import Derived.TacticsInMore
import Derived.LoopNIn
import Derived.LoopIn
namespace Go.Proofs.YtppccacfdpkkgaaGreatDoor
open Go.RowKit Go.Shelf
/-- A slot: what a round may know of what it is handed. -/
abbrev SlP (N : Nat) := { x : Nat × Nat // x.1 ≤ x.2 ∧ x.2 < N }
def slE {N : Nat} (x : SlP N) : Array Value := #[.int .i64 x.1.1, .int .i64 x.1.2]
/-- Which rows have a hole of a track. -/
def holeF (qs : List Rw) (track : Int) (i : Nat) : Bool := hasB (qs.getD i rw0) track
/-- What the iterator reads. -/
structure SlIn (W : World) (base Bp Bt Bg P : Nat) (tr : Int) (pv : Value) (qs : List Rw) (track gap : Int) : Prop where
  bp : Boxed W Bp 83 (.pointer (some ⟨P, 0, none⟩))
  bt : Boxed W Bt 3 (.int .i64 track)
  bg : Boxed W Bg 3 (.int .i64 gap)
  pap : Pap W base P tr pv qs
theorem SlIn.below {W W' : World} {base Bp Bt Bg P : Nat} {tr : Int} {pv : Value} {qs : List Rw} {track gap : Int} (h : SlIn W base Bp Bt Bg P tr pv qs track gap) (hb : Below W.heap.size W W') : SlIn W' base Bp Bt Bg P tr pv qs track gap :=
  ⟨(hb.block Bp h.bp.lt).trans h.bp, (hb.block Bt h.bt.lt).trans h.bt, (hb.block Bg h.bg.lt).trans h.bg, h.pap.below hb⟩
/-- Between two rows: what has come, and the slot under way. -/
def SlSt {N : Nat} (sl : List (Nat × Nat)) (pre : List (SlP N)) (u v : Value) : Prop :=
  (u = .int .i64 (-1) ∧ v = .int .i64 (-1) ∧ sl = [] ∧ pre = []) ∨ ∃ a b : Nat, u = .int .i64 a ∧ v = .int .i64 b ∧ sl = pre.map (·.1) ++ [(a, b)]
theorem slotsP_mono {f : Nat → Bool} {gap : Int} : ∀ {n m : Nat}, n ≤ m → (slotsP f gap n).length ≤ (slotsP f gap m).length
  | n, 0, h => by rw [show n = 0 by omega]; exact Nat.le_refl _
  | n, m + 1, h => by
    by_cases e : n = m + 1
    · rw [e]; exact Nat.le_refl _
    · have ih := slotsP_mono (f := f) (gap := gap) (show n ≤ m by omega)
      refine Nat.le_trans ih ?_
      cases hf : f m with
      | false => rw [slotsP_skip hf]; exact Nat.le_refl _
      | true =>
        rcases List.eq_nil_or_concat (slotsP f gap m) with e | ⟨l, x, e⟩
        · rw [e]; exact Nat.zero_le _
        · rw [List.concat_eq_append] at e
          by_cases hg : (m : Int) - x.2 - 1 ≤ gap
          · rw [slotsP_join hf e hg, e]; simp
          · rw [slotsP_new hf e hg, e]; simp
set_option maxRecDepth 100000 in
set_option maxHeartbeats 3200000 in
theorem slots1_in (n : Nat) (hn : 1 ≤ n) (l base Bp Bt Bg P : Nat) (tr : Int) (pv : Value) (qs : List Rw) (track gap : Int) (hqs : qs.length ≤ 20000) (Kp : World → World → Prop) (J Jx : List (SlP qs.length) → World → Prop)
    (hJa : ∀ s A B, J s A → Below A.heap.size A B → J s B) (hKp : ∀ A B, Kp A B → SlIn A base Bp Bt Bg P tr pv qs track gap → SlIn B base Bp Bt Bg P tr pv qs track gap)
    (hY : ∀ pre x W, J pre W → pre.length < (slotsP (holeF qs track) gap qs.length).length → YieldAt Fence.wide (n - 1) Tryz.prog l (slE x) W fun e W' =>
      (e = .returned (.bool true) ∧ J (pre ++ [x]) W' ∧ Kp W W') ∨ (e = .returned (.bool false) ∧ Jx (pre ++ [x]) W'))
    (W : World) (hS : SlIn W base Bp Bt Bg P tr pv qs track gap) (h0 : J [] W) :
    CallsIn Fence.wide n Tryz.prog 81 #[.func (.yield l) #[] #[], .pointer (some ⟨Bp, 0, none⟩), .pointer (some ⟨Bt, 0, none⟩), .pointer (some ⟨Bg, 0, none⟩)] W fun e W' => (∃ v, e = .returned v) ∧
      ((∃ ys : List (SlP qs.length), ys.map (·.1) = slotsP (holeF qs track) gap qs.length ∧ J ys W') ∨ (∃ pre : List (SlP qs.length), True ∧ Jx pre W')) := by
  refine callsIn_of_wp Tryz.func81 rfl trivial ?_ rfl
  simp only [Tryz.ntmps81, List.size_toArray, List.length_cons, List.length_nil, Nat.reduceAdd, Nat.reduceSub, Array.replicate_succ, Array.replicate_zero, List.push_toArray, List.append_toArray, List.nil_append, List.cons_append]
  obtain ⟨pa, pc, epv⟩ := hS.pap.form
  subst epv
  have bp := hS.bp.cell
  have c1 : W.cell? ⟨P, 1, none⟩ = some (.slice pa qs.length pc) := hS.pap.p.cell 1
  gi_wp2
  clear bp c1
  gi_loopw [5, 6, 14] (fun u v x wr => ∃ (i : Nat) (pre : List (SlP qs.length)), i ≤ qs.length ∧ x = .int .i64 i ∧ SlSt (slotsP (holeF qs track) gap i) pre u v ∧ SlIn wr base Bp Bt Bg P tr (.slice pa qs.length pc) qs track gap ∧ J pre wr) (fun _ _ x _ => qs.length - (intOf x).toNat)
  case atStart => exact ⟨0, [], by omega, rfl, .inl ⟨rfl, rfl, rfl, rfl⟩, hS, h0⟩
  case round =>
    obtain ⟨i, pre, hi, rfl, hst, hI, hJs⟩ := hrel
    by_cases hlt : i < qs.length
    · obtain ⟨G, cap, ev, hpb⟩ := hI.pap.b (by omega)
      cases ev
      obtain ⟨q0, q1⟩ := rwB_cells hpb.r hlt
      have t0 := cell_alloc hI.bt.cell
      have g0 := hI.bg.cell
      have hi2 : (i : Int) < (qs.length : Int) := by omega
      have hok := hpb.ok _ (List.getElem_mem hlt)
      obtain ⟨bb, hbb⟩ : ∃ bb, hasB qs[i] track = bb := ⟨_, rfl⟩
      have hf : holeF qs track i = bb := by unfold holeF; rw [getD_at hlt]; exact hbb
      have HF := Lib.hid hf
      have HBB := Lib.hid hbb
      have HOK := Lib.hid hok
      have HI := Lib.hid hI
      have HJ := Lib.hid hJs
      have HST := Lib.hid hst
      have HBX := Lib.hid (show Below wr.heap.size wr (wr.alloc (.cells #[.int .u64 qs[i].1, .int .u64 qs[i].2] 89)) from (Below.refl _ wr).alloc (Nat.le_refl _) _)
      clear hf hbb hok hpb hI hJs hst
      cases bb with
      | false =>
        have HSK := Lib.hid (slotsP_skip (gap := gap) HF.out)
        gi_wp2_with fail
        refine ⟨trivial, ?_⟩
        refine (callsIn_wide.2 (has_any qs[i] HOK.out track false HBB.out _)).mono ?_
        rintro e W3 ⟨rfl, hb3⟩
        have HB3 := Lib.hid (below_step HBX.out hb3)
        clear hb3
        gi_wp2
        go_roundw
        case rel => exact ⟨i + 1, pre, by omega, by go_num, by rw [HSK.out]; exact HST.out, HI.out.below HB3.out, hJa _ _ _ HJ.out HB3.out⟩
        case measure => simp [intOf]; omega
      | true =>
        rcases HST.out with ⟨rfl, rfl, hsl, rfl⟩ | ⟨a, b, rfl, rfl, hsl⟩
        · have HSK := Lib.hid (slotsP_first (gap := gap) HF.out hsl)
          clear hsl
          gi_wp2_with fail
          refine ⟨trivial, ?_⟩
          refine (callsIn_wide.2 (has_any qs[i] HOK.out track true HBB.out _)).mono ?_
          rintro e W3 ⟨rfl, hb3⟩
          have HB3 := Lib.hid (below_step HBX.out hb3)
          clear hb3
          gi_wp2
          go_roundw
          case rel => exact ⟨i + 1, [], by omega, by go_num, .inr ⟨i, i, rfl, rfl, by rw [HSK.out]; rfl⟩, HI.out.below HB3.out, hJa _ _ _ HJ.out HB3.out⟩
          case measure => simp [intOf]; omega
        · have hin := slotsP_in (f := holeF qs track) (gap := gap) (n := i) (a, b) (by rw [hsl]; simp)
          have ha0 : (0 : Int) ≤ (a : Int) := by omega
          simp only at hin
          have hlen : pre.length < (slotsP (holeF qs track) gap qs.length).length := by
            have := slotsP_mono (f := holeF qs track) (gap := gap) hi
            rw [hsl] at this
            simp at this
            omega
          by_cases hgp : (i : Int) - b - 1 ≤ gap
          · have hgp2 : decide (gap < (i : Int) - b - 1) = false := by rw [decide_eq_false_iff_not]; omega
            have HSK := Lib.hid (slotsP_join HF.out hsl hgp)
            clear hsl hgp
            gi_wp2_with fail
            refine ⟨trivial, ?_⟩
            refine (callsIn_wide.2 (has_any qs[i] HOK.out track true HBB.out _)).mono ?_
            rintro e W3 ⟨rfl, hb3⟩
            have HB3 := Lib.hid (below_step HBX.out hb3)
            have g1 := (HI.out.below HB3.out).bg.cell
            clear hb3
            gi_wp2
            go_roundw
            case rel => exact ⟨i + 1, pre, by omega, by go_num, .inr ⟨a, i, rfl, rfl, by rw [HSK.out]⟩, HI.out.below HB3.out, hJa _ _ _ HJ.out HB3.out⟩
            case measure => simp [intOf]; omega
          · have hgp2 : decide (gap < (i : Int) - b - 1) = true := by rw [decide_eq_true_iff]; omega
            have HSK := Lib.hid (slotsP_new HF.out hsl hgp)
            clear hsl hgp
            gi_wp2_with fail
            refine ⟨trivial, ?_⟩
            refine (callsIn_wide.2 (has_any qs[i] HOK.out track true HBB.out _)).mono ?_
            rintro e W3 ⟨rfl, hb3⟩
            have HB3 := Lib.hid (below_step HBX.out hb3)
            have g1 := (HI.out.below HB3.out).bg.cell
            obtain ⟨fn, tmps, assign, body, hy, hR⟩ := hY pre ⟨(a, b), by simp only; omega⟩ W3 (hJa _ _ _ HJ.out HB3.out) hlen
            clear hb3
            dsimp only [slE] at hy
            gi_wp2_with fail
            refine hR.mono ?_
            rintro e W4 (⟨rfl, hJ4, hk4⟩ | ⟨rfl, hJx4⟩)
            · have HI4 := Lib.hid (hKp _ _ hk4 (HI.out.below HB3.out))
              have HJ4 := Lib.hid hJ4
              clear hJ4 hk4
              gi_wp2
              go_roundw
              case rel => exact ⟨i + 1, _, by omega, by go_num, .inr ⟨i, i, rfl, rfl, by rw [HSK.out, List.map_append]; rfl⟩, HI4.out, HJ4.out⟩
              case measure => simp [intOf]; omega
            · gi_wp2
              refine bodyPost_ret (results_none rfl _ _ _) rfl ?_
              exact ⟨⟨_, rfl⟩, .inr ⟨_, trivial, hJx4⟩⟩
    · have hi2 : ¬ ((i : Int) < (qs.length : Int)) := by omega
      have hie : i = qs.length := by omega
      rw [hie] at hst
      clear hie
      rcases hst with ⟨rfl, rfl, hsl, rfl⟩ | ⟨a, b, rfl, rfl, hsl⟩
      · have HSL := Lib.hid hsl
        clear hsl
        gi_wp2
        go_end0
        exact ⟨⟨_, rfl⟩, .inl ⟨[], by rw [HSL.out]; rfl, hJs⟩⟩
      · have hin := slotsP_in (f := holeF qs track) (gap := gap) (n := qs.length) (a, b) (by rw [hsl]; simp)
        simp only at hin
        have ha0 : (0 : Int) ≤ (a : Int) := by omega
        obtain ⟨fn, tmps, assign, body, hy, hR⟩ := hY pre ⟨(a, b), by simp only; omega⟩ wr hJs (by rw [hsl]; simp)
        dsimp only [slE] at hy
        have HSL := Lib.hid hsl
        clear hsl
        gi_wp2_with fail
        refine hR.mono ?_
        rintro e W4 (⟨rfl, hJ4, hk4⟩ | ⟨rfl, hJx4⟩)
        · gi_wp2
          go_end0
          exact ⟨⟨_, rfl⟩, .inl ⟨_, by rw [HSL.out, List.map_append]; rfl, hJ4⟩⟩
        · gi_wp2
          go_end0
          exact ⟨⟨_, rfl⟩, .inr ⟨_, trivial, hJx4⟩⟩
theorem slots_any (P : Nat) (track gap : Int) (w : World) :
    Calls Tryz.prog 45 #[.pointer (some ⟨P, 0, none⟩), .int .i64 track, .int .i64 gap] w fun e w' => e = .returned (.func (.func 81) #[] #[.pointer (some ⟨w.heap.size, 0, none⟩), .pointer (some ⟨w.heap.size + 1, 0, none⟩), .pointer (some ⟨w.heap.size + 1 + 1, 0, none⟩)]) ∧
      Boxed w' w.heap.size 83 (.pointer (some ⟨P, 0, none⟩)) ∧ Boxed w' (w.heap.size + 1) 3 (.int .i64 track) ∧ Boxed w' (w.heap.size + 1 + 1) 3 (.int .i64 gap) ∧ Below w.heap.size w w' := by
  have b1 := ((Boxed.new w 83 (.pointer (some ⟨P, 0, none⟩))).alloc (.cells #[.int .i64 track] 3)).alloc (.cells #[.int .i64 gap] 3)
  have b2 := (Boxed.new (w.alloc (.cells #[.pointer (some ⟨P, 0, none⟩)] 83)) 3 (.int .i64 track)).alloc (.cells #[.int .i64 gap] 3)
  have b3 := Boxed.new ((w.alloc (.cells #[.pointer (some ⟨P, 0, none⟩)] 83)).alloc (.cells #[.int .i64 track] 3)) 3 (.int .i64 gap)
  rw [World.size_alloc] at b2
  rw [World.size_alloc, World.size_alloc] at b3
  have hb : Below w.heap.size w (((w.alloc (.cells #[.pointer (some ⟨P, 0, none⟩)] 83)).alloc (.cells #[.int .i64 track] 3)).alloc (.cells #[.int .i64 gap] 3)) := (((Below.refl _ _).alloc (Nat.le_refl _) _).alloc (by simp) _).alloc (by simp; omega) _
  have H1 := Lib.hid b1
  have H2 := Lib.hid b2
  have H3 := Lib.hid b3
  have HB := Lib.hid hb
  clear b1 b2 b3 hb
  go_enter Tryz.func45, Tryz.ntmps45
  go_wp2
  go_ret
  exact ⟨rfl, H1.out, H2.out, H3.out, HB.out⟩
/-- The iterator's contract. -/
theorem slots_stops (n : Nat) (hn : 1 ≤ n) (base Bp Bt Bg P : Nat) (tr : Int) (pv : Value) (qs : List Rw) (track gap : Int) (hqs : qs.length ≤ 20000) (Kp : World → World → Prop)
    (hKp : ∀ A B, Kp A B → SlIn A base Bp Bt Bg P tr pv qs track gap → SlIn B base Bp Bt Bg P tr pv qs track gap) (w : World) (hS : SlIn w base Bp Bt Bg P tr pv qs track gap) :
    SeqStopsK Fence.wide n Tryz.prog 81 #[.pointer (some ⟨Bp, 0, none⟩), .pointer (some ⟨Bt, 0, none⟩), .pointer (some ⟨Bg, 0, none⟩)] (slE (N := qs.length)) Kp (fun xs => xs.map (·.1) = slotsP (holeF qs track) gap qs.length) (fun _ => True) (slotsP (holeF qs track) gap qs.length).length w := by
  intro l J Jx W hW hJ hJx hY h0
  refine slots1_in n hn l base Bp Bt Bg P tr pv qs track gap hqs Kp J Jx (fun s A B hs hb => hJ s A B none hs ⟨hb.os, hb.tape, hb.output, hb.size, fun i hi _ => hb.block i hi⟩ (fun r e => by cases e)) hKp hY W (hS.below hW) h0
end Go.Proofs.YtppccacfdpkkgaaGreatDoor
