/-
  ARGUMENTS THAT ARE ROWS OF BYTES OR OF NUMBERS; the table of the lowest bits, off the rows' list.
-/
import Derived.Test.YtppccacfdpkkgaaDoorOpen
import Derived.Test.YtppccacfdpkkgaaDoorOpenR
import Derived.Test.YtppccacfdpkkgaaDoorK29
namespace Go.Proofs.YtppccacfdpkkgaaDoor
open Go.ChangeShapes Go.WideShapes Go.ChangeAt Go.ChangeMaps Go.RowKit
/-- A byte as a cell. -/
def uC (k : Int) : List Value := [.int .u8 k]
theorem ARd.u8Form {w : World} {v : Value} {l : List Int} (h : ARd w v 1 (l.map uC)) : ∃ a c, v = .slice a l.length c := by
  obtain ⟨a, c, e⟩ := h.form
  exact ⟨a, c, by simpa using e⟩
theorem ARd.u8At {w : World} {v : Value} {l : List Int} (h : ARd w v 1 (l.map uC)) (i : Nat) (hi : i < l.length) : ∃ b o c, v = .slice (some ⟨b, o, none⟩) l.length c ∧ b < w.heap.size ∧ w.cell? ⟨b, o + i, none⟩ = some (.int .u8 l[i]) := by
  obtain ⟨b, o, c, e, hlt, hc⟩ := h.at i (by simpa using hi)
  rw [List.getElem_map] at hc
  rw [List.length_map] at e
  exact ⟨b, o, c, e, hlt, by have := hc 0 _ rfl; rwa [Nat.mul_one] at this⟩
section
variable {H : Type} {enc : TypeId × Value → H} {W : World} {base : Nat} {spare : Nat → Bool} {held : Bool}
theorem cO_u8 : Tryd.prog.cellsOf 5 = 1 := by kernel_rfl
theorem byte_open (n : Nat) (cs : List Value) (y : DataW H × List MemPlace) (h : DataW.trod enc Tryd.prog W base spare held n 5 cs = some y) : ∃ k : Int, cs = uC k ∧ 0 ≤ k ∧ k ≤ 255 := by
  obtain ⟨k, hk, _, hw⟩ := DataW.trod_int Tryd.underlying5 h
  have := u8_bounds hw
  exact ⟨k, hk, this.1, by omega⟩
set_option maxRecDepth 100000 in
theorem bytes_open {b0 : Nat} {r : Reach} {v : Value} {d : DataW H} {p : List MemPlace} (hv : Value.okWide Tryd.prog W r b0 65 v) (h : DataW.Trod enc Tryd.prog W base spare held 65 v d p) :
    ∃ l : List Int, ARd W v 1 (l.map uC) ∧ (∀ k ∈ l, 0 ≤ k ∧ k ≤ 255) ∧ l.length ≤ maxLen := by
  obtain ⟨a0, l0, c0, rfl⟩ := okWide_slice Tryd.underlying65 hv
  obtain ⟨fuel, hf⟩ := h
  obtain ⟨v', l, hc, hr, hg, hn, _⟩ := slice_rowsB uC (fun k => 0 ≤ k ∧ k ≤ 255) Tryd.underlying65 cO_u8 (by omega) byte_open hf
  simp only [Value.cells, List.cons.injEq, and_true] at hc
  exact ⟨l, by rw [hc]; exact hr, hg, hn⟩
set_option maxRecDepth 100000 in
theorem ints_open {b0 : Nat} {r : Reach} {v : Value} {d : DataW H} {p : List MemPlace} (hv : Value.okWide Tryd.prog W r b0 32 v) (h : DataW.Trod enc Tryd.prog W base spare held 32 v d p) :
    ∃ l : List Int, ARd W v 1 (l.map iC) ∧ (∀ k ∈ l, i64 k) ∧ l.length ≤ maxLen := by
  obtain ⟨a0, l0, c0, rfl⟩ := okWide_slice Tryd.underlying32 hv
  obtain ⟨fuel, hf⟩ := h
  obtain ⟨v', l, hc, hr, hg, hn, _⟩ := slice_rowsB iC i64 Tryd.underlying32 cO_int (by omega) int_open hf
  simp only [Value.cells, List.cons.injEq, and_true] at hc
  exact ⟨l, by rw [hc]; exact hr, hg, hn⟩
end
theorem gDeb : Tryd.prog.globalNamed "math/bits.deBruijn64tab" = some 0 := by kernel_rfl
theorem yDeb : (Tryd.prog.globals[0]?).map (·.type) = some 163 := by kernel_rfl
theorem cDeb : Tryd.prog.cellsOf 163 = 64 := by kernel_rfl
def debZ : List Int := [0, 1, 56, 2, 57, 49, 28, 3, 61, 58, 42, 50, 38, 29, 17, 4, 62, 47, 59, 36, 45, 43, 51, 22, 53, 39, 33, 30, 24, 18, 12, 5, 63, 55, 48, 27, 60, 41, 37, 16, 46, 35, 44, 21, 52, 32, 23, 11, 54, 26, 40, 15, 34, 20, 31, 10, 25, 14, 19, 9, 13, 8, 7, 6]
theorem debT {W : World} (h : laidMetH Tryd.prog listT W) : Deb W := by
  rw [MakeChecks.laidMetH_plain _ _ _ (by kernel_rfl)] at h
  have ht : Lib.TabIs Tryd.prog W "math/bits.deBruijn64tab" .u8 debZ := Lib.tabIs_of_head gDeb yDeb Tryd.underlying163 Tryd.underlying5 cO_u8 cDeb h.tail
  intro j hj
  have h1 := ht.cell gDeb j (by simpa [debZ] using hj)
  have h2 : debZ.getD j 0 = ((Lib.deBruijn64tab.getD j 0 : Nat) : Int) := by
    have : ∀ k, k < 64 → debZ.getD k 0 = ((Lib.deBruijn64tab.getD k 0 : Nat) : Int) := by decide +kernel
    exact this j hj
  rw [h2] at h1
  exact h1
end Go.Proofs.YtppccacfdpkkgaaDoor
