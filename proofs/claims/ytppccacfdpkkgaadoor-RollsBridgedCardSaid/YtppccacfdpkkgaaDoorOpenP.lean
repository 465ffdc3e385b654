/-
  AN ARGUMENT THAT SAYS HOW A ROLL IS BRIDGED: opened to its cells.
-/
import Derived.Test.YtppccacfdpkkgaaDoorOpen
import Derived.Test.YtppccacfdpkkgaaDoorOpenR
import Derived.Test.YtppccacfdpkkgaaDoorK10
namespace Go.Proofs.YtppccacfdpkkgaaDoor
open Go.ChangeShapes Go.WideShapes Go.ChangeAt Go.ChangeMaps Go.RowKit
section
variable {H : Type} {enc : TypeId × Value → H} {W : World} {base : Nat} {spare : Nat → Bool} {held : Bool}
theorem cP_u8 : Tryd.prog.cellsOf 5 = 1 := by kernel_rfl
theorem cP_i64 : Tryd.prog.cellsOf 2 = 1 := by kernel_rfl
theorem cP_th : Tryd.prog.cellsOf 96 = 3 := by kernel_rfl
theorem cP_ths : Tryd.prog.cellsOf 44 = 1 := by kernel_rfl
theorem cP_sc : Tryd.prog.cellsOf 46 = 2 := by kernel_rfl
theorem cP_pa : Tryd.prog.cellsOf 48 = 5 := by kernel_rfl
theorem th_open (n : Nat) (cs : List Value) (y : DataW H × List MemPlace) (h : DataW.trod enc Tryd.prog W base spare held n 96 cs = some y) : ∃ x : Th, cs = thC x ∧ True := by
  have hl := (len_struct Tryd.underlying96 h).trans cP_th
  obtain ⟨a, ha, _⟩ := fld_int Tryd.underlying96 h 0 _ rfl Tryd.underlying3
  obtain ⟨b, hb, _⟩ := fld_int Tryd.underlying96 h 1 _ rfl Tryd.underlying3
  obtain ⟨c, hc, _⟩ := fld_int Tryd.underlying96 h 2 _ rfl Tryd.underlying3
  exact ⟨(a, b, c), list3 hl ha hb hc, trivial⟩
theorem byte_cell {n : Nat} {c : Value} {y : DataW H × List MemPlace} (h : DataW.trod enc Tryd.prog W base spare held n 5 [c] = some y) : ∃ k : Int, c = .int .u8 k ∧ 0 ≤ k ∧ k < 256 := by
  obtain ⟨k, hk, _, hw⟩ := DataW.trod_int Tryd.underlying5 h
  exact ⟨k, by simpa using hk, (u8_bounds hw).1, (u8_bounds hw).2⟩
theorem array5 {α : Type} {cs : Array α} (h : cs.size = 5) : ∃ c0 c1 c2 c3 c4, cs = #[c0, c1, c2, c3, c4] := by
  obtain ⟨l⟩ := cs
  match l, h with
  | [c0, c1, c2, c3, c4], _ => exact ⟨c0, c1, c2, c3, c4, rfl⟩
/-- What is known of the argument. -/
structure PaB (W : World) (a b c rt : Int) (th : List Th) (vt : Value) : Prop where
  a0 : 0 ≤ a
  a1 : a < 256
  b0 : 0 ≤ b
  b1 : b < 256
  c0 : 0 ≤ c
  c1 : c < 256
  th : ARd W vt 3 (th.map thC)
  ct : ∀ p n q, vt = .slice p n q → n ≤ q
set_option maxRecDepth 100000 in
theorem parts_open {b0 : Nat} {r : Reach} {v : Value} {d : DataW H} {p : List MemPlace} (hv : Value.okWide Tryd.prog W r b0 48 v) (h : DataW.Trod enc Tryd.prog W base spare held 48 v d p) :
    ∃ (a b c rt : Int) (th : List Th) (vt : Value), v = .agg #[.int .u8 a, .int .u8 b, .int .u8 c, .int .i64 rt, vt] ∧ PaB W a b c rt th vt := by
  obtain ⟨cs, rfl, hsz⟩ := okWide_struct Tryd.underlying48 hv
  obtain ⟨c0, c1, c2, c3, c4, rfl⟩ := array5 (hsz.trans cP_pa)
  obtain ⟨fuel, hf⟩ := h
  obtain ⟨y0, y1, y2, y3, n, _, _, h0, h1, h2, h3⟩ := Go.Joins.trod_struct4 Tryd.underlying48 hf
  simp [Value.cells, cP_u8] at h0 h1 h2
  simp [Value.cells, cP_sc] at h3
  obtain ⟨a, rfl, a0, a1⟩ := byte_cell h0
  obtain ⟨b, rfl, b0, b1⟩ := byte_cell h1
  obtain ⟨c, rfl, g0, g1⟩ := byte_cell h2
  obtain ⟨z0, z1, m, _, _, k0, k1⟩ := trod_struct2 Tryd.underlying46 h3
  simp [cP_i64] at k0
  simp [cP_ths] at k1
  obtain ⟨rt, hrt, _, _⟩ := DataW.trod_int Tryd.underlying2 k0
  obtain ⟨v', th, hc, hr, _, _, hct⟩ := slice_rowsB thC (fun _ => True) Tryd.underlying44 cP_th (by omega) th_open k1
  obtain rfl : c4 = v' := by simpa using hc
  obtain rfl : c3 = .int .i64 rt := by simpa using hrt
  exact ⟨a, b, c, rt, th, c4, rfl, a0, a1, b0, b1, g0, g1, hr, hct⟩
end
end Go.Proofs.YtppccacfdpkkgaaDoor
