/-
  CONTRACTS: the reference's holes.
-/
import Derived.Test.YtppccacfdpkkgaaGreatDoorK24
namespace Go.Proofs.YtppccacfdpkkgaaGreatDoor
open Go.RowKit
def bC (b : Bool) : List Value := [.bool b]
theorem bC_len (b : Bool) : (bC b).length = 1 := rfl
theorem bool_info : (Tryz.prog.info? 4).map (fun i => (i.zero, i.size, i.bytes)) = some (some (.bool false), 1, 1) := by kernel_rfl
theorem make_bools (n : Nat) (hn : n ≤ 1000000) : ∀ w : World, (Instr.makeSlice 115 (.int .i64 (n : Int)) (.int .i64 (n : Int))).run Tryz.prog w = .ok (.slice (some ⟨w.heap.size, 0, none⟩) n n) (w.alloc (.cells (madeCells (bC false).toArray (n * 1)) 4)) := fun w => by
  obtain ⟨i, hi, hz, h1, h2⟩ := info_parts bool_info
  have h := run_make_rowN 115 4 i _ Tryz.underlying115 hi hz .i64 .i64 n n (Nat.le_refl _) (by rw [h2]; omega) (by omega) w
  rw [h1] at h
  exact h
/-- The rows' holes of a track, as they are told so far. -/
def hoL (R : Ro) (track : Int) (i : Nat) : List Bool := (List.range R.rows.length).map fun j => decide (j < i) && rowB R track j
theorem hoL_len (R : Ro) (track : Int) (i : Nat) : (hoL R track i).length = R.rows.length := by simp [hoL]
theorem hoL_zero (R : Ro) (track : Int) : hoL R track 0 = List.replicate R.rows.length false := by
  apply List.ext_getElem
  · simp [hoL]
  · intro j h1 h2
    simp [hoL]
theorem hoL_next {R : Ro} {track : Int} {i : Nat} : hoL R track (i + 1) = (hoL R track i).set i (rowB R track i) := by
  apply List.ext_getElem
  · simp [hoL]
  · intro j h1 h2
    rw [List.getElem_set]
    simp only [hoL, List.getElem_map, List.getElem_range]
    by_cases e : i = j
    · subst e; simp
    · rw [if_neg e]
      congr 1
      exact decide_eq_decide.2 (by omega)
/-- How holes ends. -/
def HoR (R : Ro) (track : Int) (w : World) (e : Ending) (w' : World) : Prop := ∃ G, e = .returned (.slice (some ⟨G, 0, none⟩) R.rows.length R.rows.length) ∧ EnB w' 4 1 bC G R.rows.length (hoL R track R.rows.length) ∧ w.heap.size ≤ G ∧ Below w.heap.size w w'
set_option maxRecDepth 100000 in
set_option maxHeartbeats 3200000 in
theorem holes_any (R : Ro) (hok : RoOk R) (hl : R.rows.length ≤ 20000) (v : Value) (f : Nat → Value) (track : Int) (w : World) (hr : RoRd w v f R) :
    Calls Tryz.prog 56 #[.agg #[.int .i64 R.tracks, v], .int .i64 track] w (HoR R track w) := by
  obtain ⟨av, cv, rfl⟩ := hr.form
  have HR := Lib.hid hr
  have HO := Lib.hid hok
  have HB0 := Lib.hid ((Below.refl w.heap.size w).alloc (Nat.le_refl _) (.cells #[.int .i64 R.tracks, .slice av R.rows.length cv] 36))
  have HX := Lib.hid (Blk.new w 36 #[.int .i64 R.tracks, .slice av R.rows.length cv])
  have hmk := make_bools R.rows.length (by omega)
  clear hr hok
  go_enter Tryz.func56, Tryz.ntmps56
  go_wp2
  have hE0 : EnB ((w.alloc (.cells #[.int .i64 R.tracks, .slice av R.rows.length cv] 36)).alloc (.cells (madeCells (bC false).toArray (R.rows.length * 1)) 4)) 4 1 bC (w.heap.size + 1) R.rows.length (hoL R track 0) := by
    have := made_enB (w.alloc (.cells #[.int .i64 R.tracks, .slice av R.rows.length cv] 36)) 4 (enc := bC) false bC_len (by decide) R.rows.length
    rw [World.size_alloc] at this
    rw [hoL_zero]
    exact this
  have hb1 := HB0.out.alloc HB0.out.size (.cells (madeCells (bC false).toArray (R.rows.length * 1)) 4)
  have hx1 := HX.out.alloc (.cells (madeCells (bC false).toArray (R.rows.length * 1)) 4)
  have HE0 := Lib.hid hE0
  have HB1 := Lib.hid hb1
  have HX1 := Lib.hid hx1
  clear hE0 hb1 hx1
  go_loopw [6] (fun x wr => ∃ (i : Nat), i ≤ R.rows.length ∧ x = .int .i64 i ∧ RowKit.Hid (EnB wr 4 1 bC (w.heap.size + 1) R.rows.length (hoL R track i)) ∧ RowKit.Hid (Below w.heap.size w wr) ∧ RowKit.Hid (Blk wr w.heap.size 36 #[.int .i64 R.tracks, .slice av R.rows.length cv])) (fun x _ => R.rows.length - (intOf x).toNat)
  case atStart => exact ⟨0, by omega, rfl, by simpa using HE0, by simpa using HB1, by simpa using HX1⟩
  obtain ⟨i, hi, rfl, hE, hW, hX⟩ := hrel
  have x1 : wr.cell? ⟨w.heap.size, 1, none⟩ = some (.slice av R.rows.length cv) := hX.out.cell 1
  by_cases hlt : i < R.rows.length
  · obtain ⟨b, o, c, a2, c2, ev, hbl, hc0, hrow2⟩ := HR.out.at i hlt
    have hc := (hW.out.cell (p := ⟨b, o + i, none⟩) hbl).trans hc0
    cases ev
    have HROW := Lib.hid (hrow2.later hW.out)
    have hll : R.rows[i].length ≤ 1000 := HO.out.row hl _ (List.getElem_mem hlt)
    have hi2 : (i : Int) < (R.rows.length : Int) := by omega
    obtain ⟨bb, hbb⟩ := any_eq (decide (track ∈ R.rows[i]))
    have HBB := Lib.hid hbb
    have hf : rowB R track i = bb := by unfold rowB; rw [getD_at hlt]; exact hbb
    have hil : i < (hoL R track i).length := by rw [hoL_len]; exact hlt
    have f0 : wr.frozen? ⟨w.heap.size + 1, i, none⟩ = false := by
      have := (hE.out.cell bC_len hil (j := 0) rfl).2
      rwa [Nat.mul_one, Nat.add_zero] at this
    have k0 : wr.cell? ⟨w.heap.size + 1, i, none⟩ = some (.bool (hoL R track i)[i]) := by
      have := (hE.out.cell bC_len hil (j := 0) rfl).1
      rwa [Nat.mul_one, Nat.add_zero] at this
    have HE1 : RowKit.Hid (EnB (wr.setCell ⟨w.heap.size + 1, i, none⟩ (.bool bb)) 4 1 bC (w.heap.size + 1) R.rows.length (hoL R track (i + 1))) := by
      have h1 := hE.out.setk bC_len hil (j := 0) (by omega) (v := .bool bb) (y := bb) rfl
      rw [Nat.mul_one, Nat.add_zero] at h1
      rw [hoL_next, hf]
      exact Lib.hid h1
    have HW1 := Lib.hid (hW.out.setCell (p := ⟨w.heap.size + 1, i, none⟩) (by simp only; omega) (.bool bb))
    have HX2 := Lib.hid (hX.out.other ⟨w.heap.size + 1, i, none⟩ (.bool bb) (by simp))
    obtain ⟨v0, hv0⟩ : ∃ v0, (hoL R track i)[i] = v0 := ⟨_, rfl⟩
    rw [hv0] at k0
    clear hv0 hbb hf hil hc0 hrow2
    go_wp2_with (go_at_call 86; refine (in_any R.rows[i] track _ _ (by omega) HROW.out bb HBB.out).mono ?_; rintro e w' ⟨rfl, rfl⟩)
    go_roundw
    case rel => exact ⟨i + 1, by omega, by go_num, HE1, HW1, HX2⟩
    case measure => simp [intOf]; omega
  · have hi2 : ¬ ((i : Int) < (R.rows.length : Int)) := by omega
    have hie : i = R.rows.length := by omega
    have HE2 : RowKit.Hid (EnB wr 4 1 bC (w.heap.size + 1) R.rows.length (hoL R track R.rows.length)) := by rw [hie] at hE; exact hE
    clear hie hE
    go_wp2
    go_ret
    exact ⟨_, rfl, HE2.out, by omega, hW.out⟩
end Go.Proofs.YtppccacfdpkkgaaGreatDoor
