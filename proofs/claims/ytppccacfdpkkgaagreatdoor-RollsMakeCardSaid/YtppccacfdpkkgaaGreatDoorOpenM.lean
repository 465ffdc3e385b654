/-
  AN ARGUMENT THAT SAYS HOW A ROLL IS READ: opened to its cells. ARGUMENTS THAT ARE A RECORDING, A SCALE: opened to their cells.
-/
import Derived.Test.YtppccacfdpkkgaaGreatDoorOpen
import Derived.Test.YtppccacfdpkkgaaGreatDoorOpenR
import Derived.Test.YtppccacfdpkkgaaGreatDoorK10
import Derived.Test.YtppccacfdpkkgaaGreatDoorK14
namespace Go.Proofs.YtppccacfdpkkgaaGreatDoor
open Go.ChangeShapes Go.WideShapes Go.ChangeAt Go.ChangeMaps Go.RowKit
section
variable {H : Type} {enc : TypeId × Value → H} {W : World} {base : Nat} {spare : Nat → Bool} {held : Bool}
theorem cP_int : Tryz.prog.cellsOf 3 = 1 := by kernel_rfl
theorem cP_i64 : Tryz.prog.cellsOf 2 = 1 := by kernel_rfl
theorem cP_th : Tryz.prog.cellsOf 82 = 3 := by kernel_rfl
theorem cP_ths : Tryz.prog.cellsOf 29 = 1 := by kernel_rfl
theorem cP_sc : Tryz.prog.cellsOf 31 = 2 := by kernel_rfl
theorem cP_to : Tryz.prog.cellsOf 43 = 2 := by kernel_rfl
theorem cP_ho : Tryz.prog.cellsOf 45 = 4 := by kernel_rfl
theorem th_open (n : Nat) (cs : List Value) (y : DataW H × List MemPlace) (h : DataW.trod enc Tryz.prog W base spare held n 82 cs = some y) : ∃ x : Th, cs = thC x ∧ True := by
  have hl := (len_struct Tryz.underlying82 h).trans cP_th
  obtain ⟨a, ha, _⟩ := fld_int Tryz.underlying82 h 0 _ rfl Tryz.underlying3
  obtain ⟨b, hb, _⟩ := fld_int Tryz.underlying82 h 1 _ rfl Tryz.underlying3
  obtain ⟨c, hc, _⟩ := fld_int Tryz.underlying82 h 2 _ rfl Tryz.underlying3
  exact ⟨(a, b, c), list3 hl ha hb hc, trivial⟩
theorem array4 {α : Type} {cs : Array α} (h : cs.size = 4) : ∃ c0 c1 c2 c3, cs = #[c0, c1, c2, c3] := by
  obtain ⟨l⟩ := cs
  match l, h with
  | [c0, c1, c2, c3], _ => exact ⟨c0, c1, c2, c3, rfl⟩
/-- What is known of the argument. -/
structure HoB (W : World) (th : List Th) (vt : Value) : Prop where
  th : ARd W vt 3 (th.map thC)
  ct : ∀ p n q, vt = .slice p n q → n ≤ q
set_option maxRecDepth 100000 in
theorem how_open {b0 : Nat} {r : Reach} {v : Value} {d : DataW H} {p : List MemPlace} (hv : Value.okWide Tryz.prog W r b0 45 v) (h : DataW.Trod enc Tryz.prog W base spare held 45 v d p) :
    ∃ (rt least gap : Int) (th : List Th) (vt : Value), v = .agg #[.int .i64 rt, vt, .int .i64 least, .int .i64 gap] ∧ HoB W th vt := by
  obtain ⟨cs, rfl, hsz⟩ := okWide_struct Tryz.underlying45 hv
  obtain ⟨c0, c1, c2, c3, rfl⟩ := array4 (hsz.trans cP_ho)
  obtain ⟨fuel, hf⟩ := h
  obtain ⟨y0, y1, n, _, _, h0, h1⟩ := trod_struct2 Tryz.underlying45 hf
  simp [Value.cells, cP_sc] at h0
  simp [Value.cells, cP_to] at h1
  obtain ⟨z0, z1, m, _, _, k0, k1⟩ := trod_struct2 Tryz.underlying31 h0
  simp [cP_i64] at k0
  simp [cP_ths] at k1
  obtain ⟨u0, u1, m2, _, _, l0, l1⟩ := trod_struct2 Tryz.underlying43 h1
  simp [cP_int] at l0 l1
  obtain ⟨rt, hrt, _, _⟩ := DataW.trod_int Tryz.underlying2 k0
  obtain ⟨least, hle, _, _⟩ := DataW.trod_int Tryz.underlying3 l0
  obtain ⟨gap, hga, _, _⟩ := DataW.trod_int Tryz.underlying3 l1
  obtain ⟨v', th, hc, hr, _, _, hct⟩ := slice_rowsB thC (fun _ => True) Tryz.underlying29 cP_th (by omega) th_open k1
  obtain rfl : c1 = v' := by simpa using hc
  obtain rfl : c0 = .int .i64 rt := by simpa using hrt
  obtain rfl : c2 = .int .i64 least := by simpa using hle
  obtain rfl : c3 = .int .i64 gap := by simpa using hga
  exact ⟨rt, least, gap, th, c1, rfl, hr, hct⟩
end
section
variable {H : Type} {enc : TypeId × Value → H} {W : World} {base : Nat} {spare : Nat → Bool} {held : Bool}
theorem cP_ev : Tryz.prog.cellsOf 68 = 5 := by kernel_rfl
theorem ev_open (n : Nat) (cs : List Value) (y : DataW H × List MemPlace) (h : DataW.trod enc Tryz.prog W base spare held n 68 cs = some y) : ∃ x : Ev, cs = evC x ∧ True := by
  have hl := (len_struct Tryz.underlying68 h).trans cP_ev
  obtain ⟨a, ha, _⟩ := fld_int Tryz.underlying68 h 0 _ rfl Tryz.underlying2
  obtain ⟨b, hb, _⟩ := fld_int Tryz.underlying68 h 1 _ rfl Tryz.underlying3
  obtain ⟨c, hc, _⟩ := fld_int Tryz.underlying68 h 2 _ rfl Tryz.underlying3
  obtain ⟨d, hd, _⟩ := fld_int Tryz.underlying68 h 3 _ rfl Tryz.underlying3
  obtain ⟨e, he, _⟩ := fld_int Tryz.underlying68 h 4 _ rfl Tryz.underlying3
  exact ⟨(a, b, c, d, e), list5 hl ha hb hc hd he, trivial⟩
/-- What is known of a recording. -/
structure ReB (W : World) (l : List Ev) (v : Value) : Prop where
  l : ARd W v 5 (l.map evC)
  cap : ∀ p n q, v = .slice p n q → n ≤ q
set_option maxRecDepth 100000 in
theorem rec_open {b0 : Nat} {r : Reach} {v : Value} {d : DataW H} {p : List MemPlace} (hv : Value.okWide Tryz.prog W r b0 28 v) (h : DataW.Trod enc Tryz.prog W base spare held 28 v d p) :
    ∃ l : List Ev, ReB W l v := by
  obtain ⟨a0, l0, c0, rfl⟩ := okWide_slice Tryz.underlying28 hv
  obtain ⟨fuel, hf⟩ := h
  obtain ⟨v', l, hc, hr, _, _, hct⟩ := slice_rowsB evC (fun _ => True) Tryz.underlying28 cP_ev (by omega) ev_open hf
  simp only [Value.cells, List.cons.injEq, and_true] at hc
  exact ⟨l, by rw [hc]; exact hr, by rw [hc]; exact hct⟩
set_option maxRecDepth 100000 in
theorem scale_open {b0 : Nat} {r : Reach} {v : Value} {d : DataW H} {p : List MemPlace} (hv : Value.okWide Tryz.prog W r b0 31 v) (h : DataW.Trod enc Tryz.prog W base spare held 31 v d p) :
    ∃ (rt : Int) (th : List Th) (vt : Value), v = .agg #[.int .i64 rt, vt] ∧ HoB W th vt := by
  obtain ⟨v0, v1, y0, y1, n, rfl, _, _, k0, k1⟩ := Go.Joins.open_agg2 Tryz.underlying31 (by kernel_rfl) (by kernel_rfl) hv h
  obtain ⟨rt, hrt, _, _⟩ := DataW.trod_int Tryz.underlying2 k0
  obtain ⟨v', th, hc, hr, _, _, hct⟩ := slice_rowsB thC (fun _ => True) Tryz.underlying29 cP_th (by omega) th_open k1
  obtain rfl : v1 = v' := by simpa using hc
  obtain rfl : v0 = .int .i64 rt := by simpa using hrt
  exact ⟨rt, th, v1, rfl, hr, hct⟩
end
end Go.Proofs.YtppccacfdpkkgaaGreatDoor
