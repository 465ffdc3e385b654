/-
  AN ARGUMENT THAT IS A ROLL: opened to its cells.
-/
import Derived.Test.YtppccacfdpkkgaaGreatDoorOpenS
import Derived.Test.YtppccacfdpkkgaaGreatDoorK3
namespace Go.Proofs.YtppccacfdpkkgaaGreatDoor
open Go.ChangeShapes Go.WideShapes Go.RowKit Go.Deep
section
variable {H : Type} {enc : TypeId × Value → H} {P : Program} {w : World} {base : Nat} {spare : Nat → Bool} {held : Bool}
/-- A slice whose elements read; its length is one of a slice. -/
theorem slice_rowsB {α : Type} {t e : TypeId} {fuel k : Nat} {cs : List Value} {x : DataW H × List MemPlace} (cells : α → List Value) (Good : α → Prop) (ht : P.underlying t = some (.slice e)) (hC : P.cellsOf e = k) (hk : 0 < k)
    (each : ∀ n cs' y, DataW.trod enc P w base spare held n e cs' = some y → ∃ r : α, cs' = cells r ∧ Good r) (h : DataW.trod enc P w base spare held fuel t cs = some x) :
    ∃ (v : Value) (rows : List α), cs = [v] ∧ ARd w v k (rows.map cells) ∧ (∀ r ∈ rows, Good r) ∧ rows.length ≤ maxLen ∧ ∀ a n c, v = .slice a n c → n ≤ c := by
  obtain ⟨v, rows, hc, hr, hg⟩ := slice_rows cells Good ht hC hk each h
  rcases open_slice ht h with ⟨hc2, _⟩ | ⟨a, len, cap, m, n, D, Pl, hc2, _, hl, hm, _⟩
  · obtain ⟨a', c', hv⟩ := hr.form
    rw [hc2, hv] at hc
    simp only [List.cons.injEq, Value.slice.injEq, and_true] at hc
    obtain ⟨_, h2, _⟩ := hc
    rw [List.length_map] at h2
    refine ⟨v, rows, by rw [hc2, hv, List.length_map, ← h2]; simp_all, hr, hg, by rw [← h2]; exact Nat.zero_le _, fun a n c e => ?_⟩
    rw [hv] at e
    simp only [Value.slice.injEq, List.length_map] at e
    omega
  · obtain ⟨a', c', hv⟩ := hr.form
    have hc3 := hc
    rw [hc2, hv] at hc3
    simp only [List.cons.injEq, Value.slice.injEq, and_true, List.length_map] at hc3
    obtain ⟨_, h2, h3⟩ := hc3
    refine ⟨v, rows, hc, hr, hg, by omega, fun a n c e => ?_⟩
    rw [hv] at e
    simp only [Value.slice.injEq, List.length_map] at e
    omega
end
section
variable {H : Type} {enc : TypeId × Value → H} {W : World} {base : Nat} {spare : Nat → Bool} {held : Bool}
theorem cO_int : Tryz.prog.cellsOf 3 = 1 := by kernel_rfl
theorem cO_ints : Tryz.prog.cellsOf 74 = 1 := by kernel_rfl
theorem int_open (n : Nat) (cs : List Value) (y : DataW H × List MemPlace) (h : DataW.trod enc Tryz.prog W base spare held n 3 cs = some y) : ∃ k : Int, cs = iC k ∧ i64 k := by
  obtain ⟨k, hk, _, hw⟩ := DataW.trod_int Tryz.underlying3 h
  exact ⟨k, hk, wf_i64 hw⟩
/-- A slice of numbers. -/
theorem ints_trod {n : Nat} {cs : List Value} {y : DataW H × List MemPlace} (h : DataW.trod enc Tryz.prog W base spare held n 74 cs = some y) : ∃ (v : Value) (l : List Int), cs = [v] ∧ ARd W v 1 (l.map iC) ∧ (∀ k ∈ l, i64 k) ∧ l.length ≤ maxLen ∧ ∀ a n c, v = .slice a n c → n ≤ c :=
  slice_rowsB iC i64 Tryz.underlying74 cO_int (by omega) int_open h
theorem row_open (n : Nat) (cs : List Value) (y : DataW H × List MemPlace) (h : DataW.trod enc Tryz.prog W base spare held n 74 cs = some y) : ∃ r : List Int × Value, cs = [r.2] ∧ ARd W r.2 1 (r.1.map iC) ∧ (∀ k ∈ r.1, i64 k) ∧ r.1.length ≤ maxLen := by
  obtain ⟨v, l, h1, h2, h3, h4, _⟩ := ints_trod h
  exact ⟨(l, v), h1, h2, h3, h4⟩
structure RoB (R : Ro) : Prop where
  n : R.rows.length ≤ maxLen
  l : ∀ l ∈ R.rows, l.length ≤ maxLen
  t : i64 R.tracks
  i : ∀ l ∈ R.rows, ∀ k ∈ l, i64 k
set_option maxRecDepth 100000 in
/-- Two cells that are a roll's. -/
theorem roll_cells {v0 v1 : Value} {y0 y1 : DataW H × List MemPlace} {n : Nat} (h0 : DataW.trod enc Tryz.prog W base spare held n 3 [v0] = some y0) (h1 : DataW.trod enc Tryz.prog W base spare held n 34 [v1] = some y1) :
    ∃ (R : Ro) (f : Nat → Value), v0 = .int .i64 R.tracks ∧ RoRd W v1 f R ∧ RoB R := by
  obtain ⟨k, hk, hw⟩ := int_open _ _ _ h0
  obtain ⟨v, rows, hv, hr, hg, hn, _⟩ := slice_rowsB (fun r : List Int × Value => [r.2]) (fun r => ARd W r.2 1 (r.1.map iC) ∧ (∀ k ∈ r.1, i64 k) ∧ r.1.length ≤ maxLen) Tryz.underlying34 cO_ints (by omega) row_open h1
  have hv1 : v1 = v := by simpa using hv
  have hv0 : v0 = .int .i64 k := by simpa [iC] using hk
  subst hv1
  refine ⟨⟨k, rows.map (·.1)⟩, fun i => (rows.getD i ([], .slice none 0 0)).2, hv0, ⟨?_, fun i hi => ?_⟩, by rw [List.length_map]; exact hn, fun l hl => ?_, hw, fun l hl => ?_⟩
  · have e : (rows.map (·.1)).mapIdx (fun i _ => [(rows.getD i ([], .slice none 0 0)).2]) = rows.map (fun r : List Int × Value => [r.2]) := by
      apply List.ext_getElem
      · simp
      · intro i h1 h2
        have hi : i < rows.length := by simpa using h2
        rw [List.getElem_mapIdx, List.getElem_map, getD_at hi]
    rw [e]
    exact hr
  · have hi' : i < rows.length := by simpa using hi
    simp only [List.getElem_map]
    rw [getD_at hi']
    exact (hg _ (List.getElem_mem hi')).1
  · obtain ⟨r, hr', rfl⟩ := List.mem_map.1 hl
    exact (hg r hr').2.2
  · obtain ⟨r, hr', rfl⟩ := List.mem_map.1 hl
    exact (hg r hr').2.1
set_option maxRecDepth 100000 in
theorem roll_open {b0 : Nat} {r : Reach} {v : Value} {d : DataW H} {p : List MemPlace} (hv : Value.okWide Tryz.prog W r b0 36 v) (h : DataW.Trod enc Tryz.prog W base spare held 36 v d p) :
    ∃ (R : Ro) (u : Value) (f : Nat → Value), v = .agg #[.int .i64 R.tracks, u] ∧ RoRd W u f R ∧ RoB R := by
  obtain ⟨v0, v1, y0, y1, n, rfl, _, _, e0, e1⟩ := Go.Joins.open_agg2 Tryz.underlying36 (by kernel_rfl) (by kernel_rfl) hv h
  obtain ⟨R, f, rfl, h1, h2⟩ := roll_cells e0 e1
  exact ⟨R, v1, f, rfl, h1, h2⟩
end
end Go.Proofs.YtppccacfdpkkgaaGreatDoor
