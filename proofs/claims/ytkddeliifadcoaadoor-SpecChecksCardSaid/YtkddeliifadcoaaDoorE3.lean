/-
  CONTRACTS: the reference's SamePipes.
-/
import Derived.Test.YtkddeliifadcoaaDoorE2
namespace Go.Proofs.YtkddeliifadcoaaDoor
open Go.RowKit
def ppC (p : Pp) : List Value := [.int .i64 p.1, .int .i64 p.2]
set_option maxRecDepth 100000 in
set_option maxHeartbeats 3200000 in
theorem same_pipes (l : List Pp) (v u : Value) (w : World) (hv : ARd w v 2 (l.map ppC)) (hu : ARd w u 2 (l.map ppC)) (hl : l.length ≤ 100000) :
    Calls Tryd.prog 14 #[v, u] w fun e w' => e = .returned (.bool true) ∧ Below w.heap.size w w' := by
  obtain ⟨a, c, ev⟩ := hv.form
  obtain ⟨a2, c2, eu⟩ := hu.form
  rw [List.length_map] at ev eu
  subst ev
  subst eu
  have HV := Lib.hid hv
  have HU := Lib.hid hu
  go_enter Tryd.func14, Tryd.ntmps14
  go_wp2
  go_loopw [5] (fun x wr => ∃ k : Nat, k ≤ l.length ∧ x = .int .i64 k ∧ RowKit.Hid (Below w.heap.size w wr)) (fun x _ => l.length - (intOf x).toNat)
  case atStart => exact ⟨0, by omega, rfl, Lib.hid (Below.refl _ _)⟩
  obtain ⟨k, hk, rfl, hW⟩ := hrel
  by_cases hlt : k < l.length
  · obtain ⟨b, o, c', ev', hbl, hc⟩ := (HV.out.later hW.out).at k (by simpa using hlt)
    obtain ⟨b2, o2, c2', eu', hbl2, hc2⟩ := (HU.out.later hW.out).at k (by simpa using hlt)
    rw [List.getElem_map] at hc hc2
    rw [List.length_map] at ev' eu'
    have q0 : wr.cell? ⟨b, o + k * 2, none⟩ = some (.int .i64 l[k].1) := hc 0 _ rfl
    have q1 : wr.cell? ⟨b, o + k * 2 + 1, none⟩ = some (.int .i64 l[k].2) := hc 1 _ rfl
    have r0 : wr.cell? ⟨b2, o2 + k * 2, none⟩ = some (.int .i64 l[k].1) := hc2 0 _ rfl
    have r1 : wr.cell? ⟨b2, o2 + k * 2 + 1, none⟩ = some (.int .i64 l[k].2) := hc2 1 _ rfl
    cases ev'
    cases eu'
    have hk2 : (k : Int) < (l.length : Int) := by omega
    go_wp2_with fail
    go_quiet (fail)
    go_wp2
    go_roundw
    case rel => exact ⟨k + 1, by omega, by go_num, Lib.hid (below_drewN hW.out nq)⟩
    case measure => simp [intOf]; omega
  · have hk2 : ¬ ((k : Int) < (l.length : Int)) := by omega
    go_wp2
    go_ret
    exact ⟨rfl, hW.out⟩
end Go.Proofs.YtkddeliifadcoaaDoor
