/-
  CONTRACTS: the reference's Plays, SamePipes.
-/
import Derived.Test.YtkddeliifadcoaaDoorE1
import Derived.Test.YtkddeliifadcoaaDoorPpP
namespace Go.Proofs.YtkddeliifadcoaaDoor
open Go.RowKit
def plB (y : Pt) (key : Int) (p : Pp) : Bool := decide (y.rank = p.1 ∧ y.lo ≤ key ∧ key ≤ y.hi ∧ key + y.shift = p.2)
structure PlSt (w : World) (cx cp : Array Value) (W : World) : Prop where
  st : Blk W w.heap.size 61 cx
  pp : Blk W (w.heap.size + 1) 46 cp
  low : Below w.heap.size w W
theorem PlSt.below {w W W' : World} {cx cp : Array Value} (h : PlSt w cx cp W) (hb : Below W.heap.size W W') : PlSt w cx cp W' := ⟨h.st.below hb, h.pp.below hb, below_step h.low hb⟩
theorem PlSt.new (w : World) (cx cp : Array Value) : PlSt w cx cp ((w.alloc (.cells cx 61)).alloc (.cells cp 46)) where
  st := (Blk.new w _ _).alloc _
  pp := by
    have := Blk.new (w.alloc (.cells cx 61)) 46 cp
    rwa [World.size_alloc] at this
  low := ((Below.refl _ w).alloc (Nat.le_refl _) _).alloc (by simp) _
set_option maxRecDepth 100000 in
set_option maxHeartbeats 3200000 in
theorem rplays_any (x : St) (v : Value) (key : Int) (p : Pp) (w : World) (hv : ARd w v 4 (x.parts.map ptC)) (hl : x.parts.length ≤ 1000) (hr : ∀ y ∈ x.parts, -96 ≤ y.shift ∧ y.shift ≤ 96) (hk : -1000 ≤ key ∧ key ≤ 1000) :
    Calls Tryd.prog 41 #[.agg #[.string x.name, .int .i64 x.div, .int .i64 x.num, .int .i64 x.den, v], .int .i64 key, .agg #[.int .i64 p.1, .int .i64 p.2]] w fun e w' => e = .returned (.bool (playsB x key p)) ∧ Below w.heap.size w w' := by
  obtain ⟨a, c, ev⟩ := hv.form
  rw [List.length_map] at ev
  subst ev
  have HV := Lib.hid hv
  have HST := Lib.hid (PlSt.new w #[.string x.name, .int .i64 x.div, .int .i64 x.num, .int .i64 x.den, .slice a x.parts.length c] #[.int .i64 p.1, .int .i64 p.2])
  go_enter Tryd.func41, Tryd.ntmps41
  go_wp2
  go_loopw [7] (fun n wr => ∃ k : Nat, k ≤ x.parts.length ∧ n = .int .i64 k ∧ RowKit.Hid (∀ j (h : j < x.parts.length), j < k → plB x.parts[j] key p = false) ∧ RowKit.Hid (PlSt w #[.string x.name, .int .i64 x.div, .int .i64 x.num, .int .i64 x.den, .slice a x.parts.length c] #[.int .i64 p.1, .int .i64 p.2] wr)) (fun n _ => x.parts.length - (intOf n).toNat)
  case atStart => exact ⟨0, by omega, rfl, Lib.hid (fun j _ hj => by omega), HST⟩
  obtain ⟨k, hk', rfl, hE, hS⟩ := hrel
  have t3 := hS.out.st.cell 4
  by_cases hlt : k < x.parts.length
  · obtain ⟨b, o, c', ev', hbl, hc⟩ := (HV.out.later hS.out.low).at k (by simpa using hlt)
    rw [List.getElem_map] at hc
    have q0 : wr.cell? ⟨b, o + k * 4, none⟩ = some (.int .i64 x.parts[k].rank) := hc 0 _ rfl
    have q1 : wr.cell? ⟨b, o + k * 4 + 1, none⟩ = some (.int .i64 x.parts[k].shift) := hc 1 _ rfl
    have q2 : wr.cell? ⟨b, o + k * 4 + 2, none⟩ = some (.int .i64 x.parts[k].lo) := hc 2 _ rfl
    have q3 : wr.cell? ⟨b, o + k * 4 + 3, none⟩ = some (.int .i64 x.parts[k].hi) := hc 3 _ rfl
    rw [List.length_map] at ev'
    cases ev'
    have hk2 : (k : Int) < (x.parts.length : Int) := by omega
    have hsh := hr x.parts[k] (List.getElem_mem hlt)
    have u0 : ∀ cs, (wr.alloc (.cells cs 75)).cell? ⟨w.heap.size + 1, 0, none⟩ = some (.int .i64 p.1) := fun cs => (hS.out.pp.alloc (.cells cs 75)).cell 0
    have u1 : ∀ cs, (wr.alloc (.cells cs 75)).cell? ⟨w.heap.size + 1, 1, none⟩ = some (.int .i64 p.2) := fun cs => (hS.out.pp.alloc (.cells cs 75)).cell 1
    go_wp2
    all_goals first
      | (have HT := Lib.hid (show playsB x key p = true from List.any_eq_true.2 ⟨x.parts[k], List.getElem_mem hlt, decide_eq_true ⟨by assumption, by assumption, by assumption, beq_iff_eq.1 (by assumption)⟩⟩); go_ret; exact ⟨by rw [HT.out]; rfl, hS.out.low.alloc hS.out.low.size _⟩)
      | (refine ⟨⟨k + 1, by omega, by go_num, Lib.hid (fun j h hj => by rcases Nat.lt_succ_iff_lt_or_eq.1 hj with h' | h'; exact hE.out j h h'; subst h'; unfold plB; rw [decide_eq_false_iff_not]; rintro ⟨g1, g2, g3, g4⟩; first | omega | simp_all), Lib.hid (hS.out.below ((Below.refl _ _).alloc (Nat.le_refl _) _))⟩, by simp [intOf]; omega⟩)
  · have hk2 : ¬ ((k : Int) < (x.parts.length : Int)) := by omega
    have HF := Lib.hid (show playsB x key p = false from List.any_eq_false.2 (fun y hy => by
      obtain ⟨j, hj, rfl⟩ := List.mem_iff_getElem.1 hy
      have := hE.out j hj (by omega)
      unfold plB at this
      simpa using this))
    have HL := Lib.hid hS.out.low
    go_wp2
    go_ret
    exact ⟨by rw [HF.out]; rfl, HL.out⟩
end Go.Proofs.YtkddeliifadcoaaDoor
