/-
  PLAIN: the examples of the document: what Make, Read, Bridge and Weak make of them. CONTRACTS: the examples' recording, scale and roll. CONTRACTS: the calls of the examples.
-/
import Derived.Test.YtppccacfdpkkgaaGreatDoorF2r
import Derived.Test.YtppccacfdpkkgaaGreatDoorH
import Derived.Test.YtppccacfdpkkgaaGreatDoorK7
import Derived.Test.YtppccacfdpkkgaaGreatDoorK17
import Derived.Test.YtppccacfdpkkgaaGreatDoorK14
import Derived.Test.YtppccacfdpkkgaaGreatDoorK20
import Derived.Test.YtppccacfdpkkgaaGreatDoorK22
import Derived.Test.YtppccacfdpkkgaaGreatDoorK6
namespace Go.Proofs.YtppccacfdpkkgaaGreatDoor
instance : DecidableEq Ro := fun a b => decidable_of_iff (a.tracks = b.tracks ∧ a.rows = b.rows) (by cases a; cases b; simp)
instance (a b : Ev) : Decidable (evLe a b) := by unfold evLe; infer_instance
/-- The roll of the examples. -/
def paX : Ro := ⟨4, [[0, 3], [0, 1, 3], [0, 1, 3], [0, 2, 3], [0, 3]]⟩
def evX : List Ev := [(0, 2, 0, 0, 1), (5, 1, 0, 40, 1), (25, 1, 0, 40, 0), (30, 1, 0, 41, 1), (38, 1, 0, 41, 0)]
def thX : List Th := [(1, 0, 40), (1, 0, 41), (2, 0, 0)]
def wantX : List Ev := [(0, 2, 0, 0, 1), (10, 1, 0, 40, 1), (30, 1, 0, 40, 0), (50, 2, 0, 0, 0)]
def brX : Ro := ⟨4, [[0, 3], [0, 1], [0, 1, 3], [0, 2], [0, 3]]⟩
theorem pa_err : rollErr paX true = 0 := by decide +kernel
theorem pa_ok : RoOk paX := ⟨by decide, fun _ => by decide⟩
theorem sc_err : scE (exS 37) 10 thX = 0 := by
  unfold scE
  rw [ex_check]
  decide +kernel
theorem rec_err : recE (exS 37) evX = (0, 0) := by
  unfold recE
  rw [ex_check]
  decide +kernel
theorem make_ex : makeP (exS 37) evX 10 thX = (paX, 0) := by
  unfold makeP
  rw [rec_err, sc_err]
  decide +kernel
theorem bridge_ex : bridgeP paX 1 1 = (brX, 0) := by
  unfold bridgeP
  rw [pa_err]
  decide +kernel
theorem weak_ex : weakP paX 1 = ([1, 2, 3], 0) := by
  unfold weakP
  rw [pa_err]
  decide +kernel
theorem read_ex : rdErr (exS 37) paX 10 thX 2 0 = 0 := by
  unfold rdErr
  rw [pa_err, sc_err]
  decide +kernel
theorem want_ex : RdP (evsR paX 10 2 0 thX) wantX 0 := .inr ⟨by decide +kernel, by decide +kernel, by decide +kernel, rfl⟩
theorem read_want {m : List Ev} {c : Int} (h : ReadP (exS 37) paX 10 thX 2 0 m c) : m = wantX ∧ c = 0 := h.one (.inr ⟨read_ex, want_ex⟩)
open Go.RowKit
/-- The recording. -/
def EvX (w : World) (e : Ending) (w' : World) : Prop := e = .returned (.slice (some ⟨w.heap.size, 0, none⟩) 5 5) ∧ ARd w' (.slice (some ⟨w.heap.size, 0, none⟩) 5 5) 5 (evX.map evC) ∧ Below w.heap.size w w'
set_option maxHeartbeats 1600000 in
theorem events_any (w : World) : Calls Tryz.prog 27 #[] w (EvX w) := by
  go_enter Tryz.func27, Tryz.ntmps27
  go_wp2
  refine bodyPost_ret (v := .slice (some ⟨w.heap.size, 0, none⟩) 5 5) (by simp [results, Tryz.results27, go_sem]) rfl ⟨rfl, ?_, (Below.refl _ _).alloc (Nat.le_refl _) _⟩
  exact ARd.of_blk (blk_at rfl) (fun r h => by obtain ⟨e, _, rfl⟩ := List.mem_map.1 h; rfl) rfl _ _ rfl
/-- The scale. -/
def ScX (w : World) (e : Ending) (w' : World) : Prop := e = .returned (.agg #[.int .i64 10, .slice (some ⟨w.heap.size + 1, 0, none⟩) 3 3]) ∧ ARd w' (.slice (some ⟨w.heap.size + 1, 0, none⟩) 3 3) 3 (thX.map thC) ∧ Below w.heap.size w w'
set_option maxHeartbeats 1600000 in
theorem scaleX_any (w : World) : Calls Tryz.prog 28 #[] w (ScX w) := by
  go_enter Tryz.func28, Tryz.ntmps28
  go_wp2
  refine bodyPost_ret (v := .agg #[.int .i64 10, .slice (some ⟨w.heap.size + 1, 0, none⟩) 3 3]) (by simp [results, Tryz.results28, go_sem]) rfl ⟨rfl, ?_, ?_⟩
  · exact ARd.of_blk (blk_at (by simp)) (fun r h => by obtain ⟨e, _, rfl⟩ := List.mem_map.1 h; rfl) rfl _ _ rfl
  · exact ((Below.refl _ _).alloc (Nat.le_refl _) _).alloc (by simp) _
/-- The roll. -/
def paG (b : Nat) (i : Nat) : Value := .slice (some ⟨b + 1 + i, 0, none⟩) (paX.rows.getD i []).length (paX.rows.getD i []).length
def PaX (w : World) (e : Ending) (w' : World) : Prop := e = .returned (.agg #[.int .i64 4, .slice (some ⟨w.heap.size + 6, 0, none⟩) 5 5]) ∧ RoRd w' (.slice (some ⟨w.heap.size + 6, 0, none⟩) 5 5) (paG w.heap.size) paX ∧ Below w.heap.size w w'
set_option maxHeartbeats 3200000 in
theorem paper_any (w : World) : Calls Tryz.prog 29 #[] w (PaX w) := by
  go_enter Tryz.func29, Tryz.ntmps29
  go_wp2
  have hk : ∀ l : List Int, ∀ r ∈ l.map iC, r.length = 1 := fun l r h => by obtain ⟨e, _, rfl⟩ := List.mem_map.1 h; rfl
  refine bodyPost_ret (v := .agg #[.int .i64 4, .slice (some ⟨w.heap.size + 6, 0, none⟩) 5 5]) (by simp [results, Tryz.results29, go_sem]) rfl ⟨rfl, ⟨?_, ?_⟩, ?_⟩
  · exact ARd.of_blk (blk_at (by simp)) (fun r h => by
      obtain ⟨i, hi, rfl⟩ := List.getElem_of_mem h
      rw [List.getElem_mapIdx]; rfl) rfl _ _ rfl
  · intro i hi
    match i, hi with
    | 0, _ => exact ARd.of_blk ((((((blk_at (B := w.heap.size + 1) (by simp)).alloc _).alloc _).alloc _).alloc _).alloc _) (hk [0, 3]) rfl _ _ rfl
    | 1, _ => exact ARd.of_blk (((((blk_at (B := w.heap.size + 1 + 1) (by simp)).alloc _).alloc _).alloc _).alloc _) (hk [0, 1, 3]) rfl _ _ rfl
    | 2, _ => exact ARd.of_blk ((((blk_at (B := w.heap.size + 1 + 1 + 1) (by simp)).alloc _).alloc _).alloc _) (hk [0, 1, 3]) rfl _ _ rfl
    | 3, _ => exact ARd.of_blk (((blk_at (B := w.heap.size + 1 + 1 + 1 + 1) (by simp)).alloc _).alloc _) (hk [0, 2, 3]) rfl _ _ rfl
    | 4, _ => exact ARd.of_blk ((blk_at (B := w.heap.size + 1 + 1 + 1 + 1 + 1) (by simp)).alloc _) (hk [0, 3]) rfl _ _ rfl
  · exact (((((((Below.refl _ _).alloc (Nat.le_refl _) _).alloc (by simp) _).alloc (by simp; omega) _).alloc (by simp; omega) _).alloc (by simp; omega) _).alloc (by simp; omega) _).alloc (by simp; omega) _
/-- The specification of the examples as a value. -/
def spX (b : Nat) : Value := .agg #[.slice (some ⟨b + 3, 0, none⟩) 1 1, .slice (some ⟨b + 4, 0, none⟩) 2 2, .slice (some ⟨b + 8, 0, none⟩) 3 3, .slice (some ⟨b + 9, 0, none⟩) 1 1]
set_option maxRecDepth 100000 in
theorem evX_ok (b : Nat) (f : Nat → Value) : EvOk (exS 37) (.slice (some ⟨b + 3, 0, none⟩) 1 1) (.slice (some ⟨b + 4, 0, none⟩) 2 2) (.slice (some ⟨b + 8, 0, none⟩) 3 3) (.slice (some ⟨b + 9, 0, none⟩) 1 1) f evX := by
  intro x hx w hs
  have hkey : ∀ tick n v : Int, 36 ≤ n → n ≤ 60 → 0 ≤ v → v ≤ 1 → Calls Tryz.prog 61 #[spX b, .agg #[.int .i64 tick, .int .i64 1, .int .i64 0, .int .i64 n, .int .i64 v]] w (NumR 0 w) := fun tick n v h1 h2 h3 h4 =>
by
    have e1 : (exS 37).ds[0].lo = 36 := rfl
    have e2 : (exS 37).ds[0].hi = 60 := rfl
    have h := event_key _ _ _ _ (exS 37) (exS_ok 37) f tick 0 n v w hs (by decide) (by rw [e1]; exact h1) (by rw [e2]; exact h2) h3 h4
    exact h
  simp only [evX, List.mem_cons, List.mem_nil_iff, or_false] at hx
  rcases hx with rfl | rfl | rfl | rfl | rfl
  · rw [show evE (exS 37) (0, 2, 0, 0, 1) = 0 by decide +kernel]
    have h := event_stop (some ⟨b + 3, 0, none⟩) (some ⟨b + 4, 0, none⟩) (some ⟨b + 8, 0, none⟩) (some ⟨b + 9, 0, none⟩) 1 2 3 1 (exS 37) (exS_ok 37) 0 0 1 w (by decide) (by decide) (by decide) (by decide)
    exact h
  · rw [show evE (exS 37) (5, 1, 0, 40, 1) = 0 by decide +kernel]
    exact hkey 5 40 1 (by decide) (by decide) (by decide) (by decide)
  · rw [show evE (exS 37) (25, 1, 0, 40, 0) = 0 by decide +kernel]
    exact hkey 25 40 0 (by decide) (by decide) (by decide) (by decide)
  · rw [show evE (exS 37) (30, 1, 0, 41, 1) = 0 by decide +kernel]
    exact hkey 30 41 1 (by decide) (by decide) (by decide) (by decide)
  · rw [show evE (exS 37) (38, 1, 0, 41, 0) = 0 by decide +kernel]
    exact hkey 38 41 0 (by decide) (by decide) (by decide) (by decide)
set_option maxRecDepth 100000 in
theorem make_x (W : World) (t : Tabs W) (b : Nat) (hx : ExMem W b 37) (a1 a2 : Option Addr) (hev : ARd W (.slice a1 5 5) 5 (evX.map evC)) (hth : ARd W (.slice a2 3 3) 3 (thX.map thC)) :
    Calls Tryz.prog 9 #[spX b, .slice a1 5 5, .agg #[.int .i64 10, .slice a2 3 3]] W (MkR paX W) := by
  have h := make_good _ _ _ _ (exS 37) (exS_ok 37) _ evX _ 10 thX _ W t hx.rd hev (fun a n c e => by cases e; exact Nat.le_refl _) hth (fun a n c e => by cases e; exact Nat.le_refl _) (evX_ok b _) rec_err sc_err (by decide) (by decide) 5 (by decide) (by decide)
  rw [make_ex] at h
  exact h
def ReX (w : World) (e : Ending) (w' : World) : Prop := ∃ a c, e = .returned (.tuple #[.slice a 4 c, .int .i64 0]) ∧ ARd w' (.slice a 4 c) 5 (wantX.map evC) ∧ Below w.heap.size w w'
theorem read_x (W : World) (t : Tabs W) (b : Nat) (hx : ExMem W b 37) (v : Value) (g : Nat → Value) (hr : RoRd W v g paX) (a2 : Option Addr) (hth : ARd W (.slice a2 3 3) 3 (thX.map thC)) :
    Calls Tryz.prog 15 #[spX b, .agg #[.int .i64 4, v], .agg #[.int .i64 10, .slice a2 3 3], .agg #[.int .i64 2, .int .i64 0]] W (ReX W) := by
  refine (read_any _ _ _ _ (exS 37) (exS_ok 37) _ paX pa_ok v g 10 thX _ 2 0 W t hx.rd hr (by decide) hth (fun a n c e => by cases e; exact Nat.le_refl _)).mono ?_
  rintro e w' ⟨v', m, c, rfl, hp, ha, hb⟩
  obtain ⟨rfl, rfl⟩ := read_want hp
  obtain ⟨a, c', hv⟩ := ha.form
  subst hv
  exact ⟨a, c', rfl, ha, hb⟩
def BrX (w : World) (e : Ending) (w' : World) : Prop := ∃ a c g, e = .returned (.tuple #[.agg #[.int .i64 4, .slice a 5 c], .int .i64 0]) ∧ RoRd w' (.slice a 5 c) g brX ∧ Below w.heap.size w w'
theorem bridge_x (W : World) (v : Value) (g : Nat → Value) (hr : RoRd W v g paX) : Calls Tryz.prog 30 #[.agg #[.int .i64 4, v], .int .i64 1, .int .i64 1] W (BrX W) := by
  refine (bridge_any paX pa_ok v g 1 1 W hr).mono ?_
  rw [bridge_ex]
  rintro e w' ⟨v', f, rfl, hrd, hb⟩
  obtain ⟨a, c, rfl⟩ := hrd.form
  exact ⟨a, c, f, rfl, hrd, hb⟩
def WkX (w : World) (e : Ending) (w' : World) : Prop := ∃ a c, e = .returned (.tuple #[.slice a 3 c, .int .i64 0]) ∧ ARd w' (.slice a 3 c) 1 (([1, 2, 3] : List Int).map iC) ∧ Below w.heap.size w w'
theorem weak_x (W : World) (v : Value) (g : Nat → Value) (hr : RoRd W v g paX) : Calls Tryz.prog 31 #[.agg #[.int .i64 4, v], .int .i64 1] W (WkX W) := by
  refine (weak_any paX pa_ok v g 1 W hr).mono ?_
  rw [weak_ex]
  rintro e w' ⟨v', rfl, ho, hb⟩
  have ha := ARd.of_ints ho
  obtain ⟨a, c, hv⟩ := ha.form
  subst hv
  exact ⟨a, c, rfl, ha, hb⟩
end Go.Proofs.YtppccacfdpkkgaaGreatDoor
