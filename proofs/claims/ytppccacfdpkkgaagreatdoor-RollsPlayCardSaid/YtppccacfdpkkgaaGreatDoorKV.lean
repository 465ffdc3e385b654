/-
  CONTRACTS: SameEvents.
-/
import Derived.Test.YtppccacfdpkkgaaGreatDoorK6
import Derived.Test.YtppccacfdpkkgaaGreatDoorK14
import Derived.ChangeKeysEq
import Derived.ChangeAlike
namespace Go.Proofs.YtppccacfdpkkgaaGreatDoor
open Go.RowKit
theorem run_neEv (a b c d f : Int) (w : World) : (binOp .neq 68 (.agg #[.int .i64 a, .int .i64 b, .int .i64 c, .int .i64 d, .int .i64 f]) (.agg #[.int .i64 a, .int .i64 b, .int .i64 c, .int .i64 d, .int .i64 f])).run Tryz.prog w = .ok (.bool false) w := by
  rw [run_neq_struct]
  rw [run_equalIn_agg w 9999 68 _ _ (by kernel_rfl) (by kernel_rfl)]
  simp only [Program.fieldsOf, Tryz.underlying68]
  simp [go_sem, Tryz.underlying3, Tryz.underlying2, part]
set_option maxRecDepth 100000 in
set_option maxHeartbeats 3200000 in
theorem same_events (l : List Ev) (v u : Value) (w : World) (hv : ARd w v 5 (l.map evC)) (hu : ARd w u 5 (l.map evC)) (hl : l.length ≤ 1000000) :
    Calls Tryz.prog 17 #[v, u] w fun e w' => e = .returned (.bool true) ∧ ∃ n, w' = w.drewN n := by
  obtain ⟨a, c, ev⟩ := hv.evForm
  obtain ⟨a2, c2, eu⟩ := hu.evForm
  subst ev
  subst eu
  have HV := Lib.hid hv
  have HU := Lib.hid hu
  clear hv hu
  go_enter Tryz.func17, Tryz.ntmps17
  go_wp2
  go_loopw [5] (fun x wr => ∃ k : Nat, k ≤ l.length ∧ x = .int .i64 k ∧ RowKit.Hid (∃ n, wr = w.drewN n)) (fun x _ => l.length - (intOf x).toNat)
  case atStart => exact ⟨0, by omega, rfl, Lib.hid ⟨0, rfl⟩⟩
  obtain ⟨k, hk, rfl, hW⟩ := hrel
  by_cases hlt : k < l.length
  · obtain ⟨n, hn⟩ := hW.out
    obtain ⟨b, o, c', ev', hbl, q0, q1, q2, q3, q4⟩ := HV.out.evAt k hlt
    obtain ⟨b2, o2, c2', eu', hbl2, r0, r1, r2, r3, r4⟩ := HU.out.evAt k hlt
    obtain ⟨⟨e1, e2, e3, e4, e5⟩, he⟩ : ∃ x, l[k] = x := ⟨_, rfl⟩
    rw [he] at q0 q1 q2 q3 q4 r0 r1 r2 r3 r4
    simp only at q0 q1 q2 q3 q4 r0 r1 r2 r3 r4
    replace q0 : wr.cell? ⟨b, o + k * 5, none⟩ = some (.int .i64 e1) := by rw [hn]; exact q0
    replace q1 : wr.cell? ⟨b, o + k * 5 + 1, none⟩ = some (.int .i64 e2) := by rw [hn]; exact q1
    replace q2 : wr.cell? ⟨b, o + k * 5 + 2, none⟩ = some (.int .i64 e3) := by rw [hn]; exact q2
    replace q3 : wr.cell? ⟨b, o + k * 5 + 3, none⟩ = some (.int .i64 e4) := by rw [hn]; exact q3
    replace q4 : wr.cell? ⟨b, o + k * 5 + 4, none⟩ = some (.int .i64 e5) := by rw [hn]; exact q4
    replace r0 : wr.cell? ⟨b2, o2 + k * 5, none⟩ = some (.int .i64 e1) := by rw [hn]; exact r0
    replace r1 : wr.cell? ⟨b2, o2 + k * 5 + 1, none⟩ = some (.int .i64 e2) := by rw [hn]; exact r1
    replace r2 : wr.cell? ⟨b2, o2 + k * 5 + 2, none⟩ = some (.int .i64 e3) := by rw [hn]; exact r2
    replace r3 : wr.cell? ⟨b2, o2 + k * 5 + 3, none⟩ = some (.int .i64 e4) := by rw [hn]; exact r3
    replace r4 : wr.cell? ⟨b2, o2 + k * 5 + 4, none⟩ = some (.int .i64 e5) := by rw [hn]; exact r4
    cases ev'
    cases eu'
    have hne := run_neEv e1 e2 e3 e4 e5
    have hk2 : (k : Int) < (l.length : Int) := by omega
    have HN := Lib.hid hn
    clear hn he
    go_wp2_with fail
    go_quiet (fail)
    go_wp2
    go_roundw
    case rel => exact ⟨k + 1, by omega, by go_num, Lib.hid ⟨n + nq, by rw [HN.out, drew_add]⟩⟩
    case measure => simp [intOf]; omega
  · have hk2 : ¬ ((k : Int) < (l.length : Int)) := by omega
    go_wp2
    go_ret
    exact ⟨rfl, hW.out⟩
end Go.Proofs.YtppccacfdpkkgaaGreatDoor
