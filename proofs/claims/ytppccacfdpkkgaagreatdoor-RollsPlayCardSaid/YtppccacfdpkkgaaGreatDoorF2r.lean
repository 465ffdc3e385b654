/-
  CONTRACTS: Example.
-/
import Derived.Test.YtppccacfdpkkgaaGreatDoorArr
import Derived.Test.YtppccacfdpkkgaaGreatDoorRowG
import Derived.Test.YtppccacfdpkkgaaGreatDoorSpL
namespace Go.Proofs.YtppccacfdpkkgaaGreatDoor
open Go.RowKit
/-- The specification of the examples, with c pipes in its first rank. -/
def exS (c : Int) : Sp where
  ds := [⟨⟨#[103, 114, 101, 97, 116]⟩, 36, 60⟩]
  rs := [⟨⟨#[102, 108, 117, 116, 101]⟩, 2, 8, 1, 36, c⟩, ⟨⟨#[114, 101, 101, 100]⟩, 4, 8, 1, 36, 13⟩]
  ss := [⟨⟨#[102, 108, 117, 116, 101, 56]⟩, 0, 8, 1, [⟨0, 0, 36, 60⟩]⟩, ⟨⟨#[102, 108, 117, 116, 101, 52]⟩, 0, 4, 1, [⟨0, 12, 36, 60⟩]⟩, ⟨⟨#[98, 97, 115, 115]⟩, 0, 8, 1, [⟨1, 0, 36, 48⟩]⟩]
  cs := [⟨⟨#[111, 99, 116, 97, 118, 101]⟩, 0, 0, 12, 0, false⟩]
theorem exS_ok (c : Int) : SpOk (exS c) := ⟨by show 1 ≤ 1000; omega, by show 2 ≤ 1000; omega, by show 3 ≤ 1000; omega, by show 1 ≤ 1000; omega, by
  intro x hx; simp only [exS, List.mem_singleton] at hx; subst hx; decide, by
  intro x hx; simp only [exS, List.mem_cons, List.mem_nil_iff, or_false] at hx; rcases hx with rfl | rfl; exact (by decide : (5 : Nat) ≤ 1000); exact (by decide : (4 : Nat) ≤ 1000), by
  intro x hx; simp only [exS, List.mem_cons, List.mem_nil_iff, or_false] at hx; rcases hx with rfl | rfl | rfl <;> decide, by
  intro x hx; simp only [exS, List.mem_singleton] at hx; subst hx; decide, by
  intro x hx; simp only [exS, List.mem_cons, List.mem_nil_iff, or_false] at hx; rcases hx with rfl | rfl | rfl <;> decide⟩
theorem ex_check : checkP (exS 37) = ((0, 0, 0), 0) := by decide +kernel
theorem ex_check2 : checkP (exS 36) = ((3, 1, 1), 4) := by decide +kernel
theorem ARd.of_blk {W : World} {B : Nat} {t : TypeId} {cs : Array Value} (h : Blk W B t cs) {k : Nat} {rows : List (List Value)} (hk : ∀ r ∈ rows, r.length = k) (hcs : cs.toList = rows.flatten) (n c : Nat) (hn : n = rows.length) : ARd W (.slice (some ⟨B, 0, none⟩) n c) k rows := by
  subst hn
  refine ⟨_, _, rfl, fun i hi => ⟨B, 0, rfl, h.lt, fun j u hj => ?_⟩⟩
  have hjk : j < k := by
    have := (List.getElem?_eq_some_iff.1 hj).1
    rwa [hk _ (List.getElem_mem hi)] at this
  have e := flat_get rows hk i hi j hjk
  rw [hj, ← hcs, Array.getElem?_toList] at e
  rw [Nat.zero_add, h.cell, e]
/-- The example in memory, its blocks from b on. -/
structure ExMem (W : World) (b : Nat) (c : Int) : Prop where
  d : Blk W (b + 3) 120 #[.string ⟨#[103, 114, 101, 97, 116]⟩, .int .i64 36, .int .i64 60]
  r : Blk W (b + 4) 124 #[.string ⟨#[102, 108, 117, 116, 101]⟩, .int .i64 2, .int .i64 8, .int .i64 1, .int .i64 36, .int .i64 c, .string ⟨#[114, 101, 101, 100]⟩, .int .i64 4, .int .i64 8, .int .i64 1, .int .i64 36, .int .i64 13]
  p0 : Blk W (b + 5) 131 #[.int .i64 0, .int .i64 0, .int .i64 36, .int .i64 60]
  p1 : Blk W (b + 6) 131 #[.int .i64 0, .int .i64 12, .int .i64 36, .int .i64 60]
  p2 : Blk W (b + 7) 131 #[.int .i64 1, .int .i64 0, .int .i64 36, .int .i64 48]
  s : Blk W (b + 8) 127 #[.string ⟨#[102, 108, 117, 116, 101, 56]⟩, .int .i64 0, .int .i64 8, .int .i64 1, .slice (some ⟨b + 5, 0, none⟩) 1 1, .string ⟨#[102, 108, 117, 116, 101, 52]⟩, .int .i64 0, .int .i64 4, .int .i64 1, .slice (some ⟨b + 6, 0, none⟩) 1 1, .string ⟨#[98, 97, 115, 115]⟩, .int .i64 0, .int .i64 8, .int .i64 1, .slice (some ⟨b + 7, 0, none⟩) 1 1]
  c : Blk W (b + 9) 129 #[.string ⟨#[111, 99, 116, 97, 118, 101]⟩, .int .i64 0, .int .i64 0, .int .i64 12, .int .i64 0, .bool false]
theorem ExMem.below {W W' : World} {b : Nat} {c : Int} (h : ExMem W b c) (hb : Below W.heap.size W W') : ExMem W' b c := ⟨h.d.below hb, h.r.below hb, h.p0.below hb, h.p1.below hb, h.p2.below hb, h.s.below hb, h.c.below hb⟩
theorem ExMem.set {W : World} {b : Nat} {c : Int} (h : ExMem W b c) (c' : Int) : ExMem (W.setCell ⟨b + 4, 5, none⟩ (.int .i64 c')) b c' :=
  ⟨h.d.other _ _ (by simp), h.r.set 5 _, h.p0.other _ _ (by simp), h.p1.other _ _ (by simp), h.p2.other _ _ (by simp), h.s.other _ _ (by simp), h.c.other _ _ (by simp)⟩
theorem ExMem.rd {W : World} {b : Nat} {c : Int} (h : ExMem W b c) : SpRd W (.slice (some ⟨b + 3, 0, none⟩) 1 1) (.slice (some ⟨b + 4, 0, none⟩) 2 2) (.slice (some ⟨b + 8, 0, none⟩) 3 3) (.slice (some ⟨b + 9, 0, none⟩) 1 1) (fun i => .slice (some ⟨b + 5 + i, 0, none⟩) 1 1) (exS c) where
  d := ARd.of_blk (k := 3) (rows := (exS c).ds.map dvC) h.d (by intro r hr; obtain ⟨x, _, rfl⟩ := List.mem_map.1 hr; rfl) rfl _ _ rfl
  r := ARd.of_blk (k := 6) (rows := (exS c).rs.map rkC) h.r (by intro r hr; obtain ⟨x, _, rfl⟩ := List.mem_map.1 hr; rfl) rfl _ _ rfl
  s := ARd.of_blk (k := 5) (rows := (exS c).ss.mapIdx fun i x => stC x (.slice (some ⟨b + 5 + i, 0, none⟩) 1 1)) h.s (by intro r hr; obtain ⟨i, hi, rfl⟩ := List.mem_mapIdx.1 hr; rfl) rfl _ _ rfl
  c := ARd.of_blk (k := 6) (rows := (exS c).cs.map cpC) h.c (by intro r hr; obtain ⟨x, _, rfl⟩ := List.mem_map.1 hr; rfl) rfl _ _ rfl
  p i hi := by
    have hi' : i < 3 := hi
    match i, hi' with
    | 0, _ => exact ARd.of_blk (k := 4) (rows := [ptC ⟨0, 0, 36, 60⟩]) h.p0 (by intro r hr; rw [List.mem_singleton.1 hr]; rfl) rfl _ _ rfl
    | 1, _ => exact ARd.of_blk (k := 4) (rows := [ptC ⟨0, 12, 36, 60⟩]) h.p1 (by intro r hr; rw [List.mem_singleton.1 hr]; rfl) rfl _ _ rfl
    | 2, _ => exact ARd.of_blk (k := 4) (rows := [ptC ⟨1, 0, 36, 48⟩]) h.p2 (by intro r hr; rw [List.mem_singleton.1 hr]; rfl) rfl _ _ rfl
def ExEnds (w : World) (e : Ending) (w' : World) : Prop := e = .returned (.agg #[.slice (some ⟨w.heap.size + 3, 0, none⟩) 1 1, .slice (some ⟨w.heap.size + 4, 0, none⟩) 2 2, .slice (some ⟨w.heap.size + 8, 0, none⟩) 3 3, .slice (some ⟨w.heap.size + 9, 0, none⟩) 1 1]) ∧ ExMem w' w.heap.size 37 ∧ Below w.heap.size w w'
theorem blk_at {W : World} {B : Nat} {t : TypeId} {cs : Array Value} (hn : B = W.heap.size) : Blk (W.alloc (.cells cs t)) B t cs := by subst hn; exact Blk.new _ _ _
set_option maxRecDepth 100000 in
set_option maxHeartbeats 3200000 in
theorem example_any (w : World) : Calls Tryz.prog 26 #[] w (ExEnds w) := by
  go_enter Tryz.func26, Tryz.ntmps26
  go_wp2
  refine bodyPost_ret (v := .agg #[.slice (some ⟨w.heap.size + 3, 0, none⟩) 1 1, .slice (some ⟨w.heap.size + 4, 0, none⟩) 2 2, .slice (some ⟨w.heap.size + 8, 0, none⟩) 3 3, .slice (some ⟨w.heap.size + 9, 0, none⟩) 1 1]) (by simp [results, Tryz.results26, go_sem]) rfl ⟨rfl, ⟨?_, ?_, ?_, ?_, ?_, ?_, ?_⟩, ?_⟩
  · exact ((((((blk_at (by simp)).alloc _).alloc _).alloc _).alloc _).alloc _).alloc _
  · exact (((((blk_at (by simp)).alloc _).alloc _).alloc _).alloc _).alloc _
  · exact ((((blk_at (by simp)).alloc _).alloc _).alloc _).alloc _
  · exact (((blk_at (by simp)).alloc _).alloc _).alloc _
  · exact ((blk_at (by simp)).alloc _).alloc _
  · exact (blk_at (by simp)).alloc _
  · exact blk_at (by simp)
  · exact ((((((((((Below.refl _ w).alloc (Nat.le_refl _) _).alloc (by simp) _).alloc (by simp; omega) _).alloc (by simp; omega) _).alloc (by simp; omega) _).alloc (by simp; omega) _).alloc (by simp; omega) _).alloc (by simp; omega) _).alloc (by simp; omega) _).alloc (by simp; omega) _
end Go.Proofs.YtppccacfdpkkgaaGreatDoor
