/-
  ARGUMENTS OF RollsEdit: a roll, and how much room its rows have; how a roll is edited.
-/
import Derived.Test.YtppccacfdpkkgaaGreatDoorOpen
import Derived.Test.YtppccacfdpkkgaaGreatDoorOpenR
namespace Go.Proofs.YtppccacfdpkkgaaGreatDoor
open Go.ChangeShapes Go.WideShapes Go.ChangeAt Go.ChangeMaps Go.RowKit
section
variable {H : Type} {enc : TypeId × Value → H} {W : World} {base : Nat} {spare : Nat → Bool} {held : Bool}
theorem cP_int : Tryz.prog.cellsOf 3 = 1 := by kernel_rfl
theorem cP_rows : Tryz.prog.cellsOf 34 = 1 := by kernel_rfl
theorem cP_ro : Tryz.prog.cellsOf 36 = 2 := by kernel_rfl
theorem cP_ed : Tryz.prog.cellsOf 62 = 7 := by kernel_rfl
set_option maxRecDepth 100000 in
theorem rows_cap {v1 : Value} {y1 : DataW H × List MemPlace} {n : Nat} (h1 : DataW.trod enc Tryz.prog W base spare held n 34 [v1] = some y1) : ∀ a k c, v1 = .slice a k c → k ≤ c := by
  obtain ⟨v, rows, hv, _, _, _, hc⟩ := slice_rowsB (fun r : List Int × Value => [r.2]) (fun r => ARd W r.2 1 (r.1.map iC) ∧ (∀ k ∈ r.1, i64 k) ∧ r.1.length ≤ maxLen) Tryz.underlying34 cO_ints (by omega) row_open h1
  have hv1 : v1 = v := by simpa using hv
  rw [hv1]
  exact hc
set_option maxRecDepth 100000 in
theorem roll_openC {b0 : Nat} {r : Reach} {v : Value} {d : DataW H} {p : List MemPlace} (hv : Value.okWide Tryz.prog W r b0 36 v) (h : DataW.Trod enc Tryz.prog W base spare held 36 v d p) :
    ∃ (R : Ro) (u : Value) (f : Nat → Value), v = .agg #[.int .i64 R.tracks, u] ∧ RoRd W u f R ∧ RoB R ∧ ∀ a k c, u = .slice a k c → k ≤ c := by
  obtain ⟨v0, v1, y0, y1, n, rfl, _, _, e0, e1⟩ := Go.Joins.open_agg2 Tryz.underlying36 (by kernel_rfl) (by kernel_rfl) hv h
  obtain ⟨R, f, rfl, h1, h2⟩ := roll_cells e0 e1
  exact ⟨R, v1, f, rfl, h1, h2, rows_cap e1⟩
theorem array7 {α : Type} {cs : Array α} (h : cs.size = 7) : ∃ c0 c1 c2 c3 c4 c5 c6, cs = #[c0, c1, c2, c3, c4, c5, c6] := by
  obtain ⟨l⟩ := cs
  match l, h with
  | [c0, c1, c2, c3, c4, c5, c6], _ => exact ⟨c0, c1, c2, c3, c4, c5, c6, rfl⟩
set_option maxRecDepth 100000 in
theorem edit_open {b0 : Nat} {r : Reach} {v : Value} {d : DataW H} {p : List MemPlace} (hv : Value.okWide Tryz.prog W r b0 62 v) (h : DataW.Trod enc Tryz.prog W base spare held 62 v d p) :
    ∃ (t a b k : Int) (on : Bool) (M : Ro) (u : Value) (f : Nat → Value), v = .agg #[.int .i64 t, .int .i64 a, .int .i64 b, .int .i64 k, .bool on, .int .i64 M.tracks, u] ∧ RoRd W u f M ∧ RoB M := by
  obtain ⟨cs, rfl, hsz⟩ := okWide_struct Tryz.underlying62 hv
  obtain ⟨c0, c1, c2, c3, c4, c5, c6, rfl⟩ := array7 (hsz.trans cP_ed)
  obtain ⟨fuel, hf⟩ := h
  obtain ⟨t, ht, _⟩ := fld_int Tryz.underlying62 hf 0 _ rfl Tryz.underlying3
  obtain ⟨a, ha, _⟩ := fld_int Tryz.underlying62 hf 1 _ rfl Tryz.underlying3
  obtain ⟨b, hb, _⟩ := fld_int Tryz.underlying62 hf 2 _ rfl Tryz.underlying3
  obtain ⟨k, hk, _⟩ := fld_int Tryz.underlying62 hf 3 _ rfl Tryz.underlying3
  obtain ⟨on, ho⟩ := fld_bool Tryz.underlying62 hf 4 _ rfl Tryz.underlying4
  obtain ⟨m, z, hz⟩ := fld Tryz.underlying62 hf 5 _ rfl
  simp [Value.cells] at ht ha hb hk ho
  simp [Value.cells, cP_ro] at hz
  obtain ⟨z0, z1, m2, _, _, k0, k1⟩ := trod_struct2 Tryz.underlying36 hz
  simp [cP_int] at k0
  simp [cP_rows] at k1
  obtain ⟨M, f, e5, h1, h2⟩ := roll_cells k0 k1
  subst ht; subst ha; subst hb; subst hk; subst ho; subst e5
  exact ⟨t, a, b, k, on, M, c6, f, rfl, h1, h2⟩
end
end Go.Proofs.YtppccacfdpkkgaaGreatDoor
