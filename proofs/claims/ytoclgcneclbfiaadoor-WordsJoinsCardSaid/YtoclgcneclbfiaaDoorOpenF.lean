/-
  AN ARGUMENT THAT IS A SLICE OF FIELDS: opened to its cells, whole or empty.
-/
import Derived.Test.YtoclgcneclbfiaaDoorL7
import Derived.Test.YtoclgcneclbfiaaDoorOpen
import Derived.Deep.Slices
import Derived.Deep.Fields
import Derived.ChangeSame
namespace Go.Proofs.YtoclgcneclbfiaaDoor
open Go.ChangeShapes Go.WideShapes Go.RowKit Go.Deep
section
variable {H : Type} {enc : TypeId × Value → H} {P : Program} {w : World} {base : Nat} {spare : Nat → Bool} {held : Bool}
theorem open_slice_fields {t e : TypeId} {fs : Array Field} {fuel : Nat} {cs : List Value} {x : DataW H × List MemPlace} (ht : P.underlying t = some (.slice e)) (he : P.underlying e = some (.struct fs))
    (hone : oneCellFields P fs = true) (hC : P.cellsOf e = fs.size) (h : DataW.trod enc P w base spare held fuel t cs = some x) :
    (cs = [.slice none 0 0] ∧ x = (.nil, [])) ∨
    ∃ (a : Addr) (len cap m : Nat) (D : Nat → DataW H) (Pl : Nat → List MemPlace), cs = [.slice (some a) len cap] ∧ base ≤ a.block ∧ len ≤ cap ∧ cap ≤ maxLen ∧ m = (if spare a.block then cap else len) ∧
      x = (.slice ((List.range len).map D) ((List.range (m - len)).map fun j => D (len + j)), MemPlace.row a (m * fs.size) ++ (List.range m).flatMap Pl) ∧
      ∀ i, i < m → ∃ (ys : List (DataW H × List MemPlace)) (n : Nat), D i = .agg (ys.map (·.1)) ∧ Pl i = ys.flatMap (·.2) ∧ ys.length = fs.size ∧
        ∀ (j : Nat) (f : Field), fs[j]? = some f → ∃ (v : Value) (y : DataW H × List MemPlace), w.cell? (a.add (i * fs.size + j)) = some v ∧ ys[j]? = some y ∧ DataW.trod enc P w base spare held n f.type [v] = some y := by
  rcases open_slice ht h with h0 | ⟨a, len, cap, m, n, D, Pl, hcs, hb, hl, hm, hmm, hx, hi⟩
  · exact .inl h0
  · refine .inr ⟨a, len, cap, m, D, Pl, hcs, hb, hl, hm, hmm, by rw [hC] at hx; exact hx, fun i him => ?_⟩
    obtain ⟨cs', hc, ht'⟩ := hi i him
    rw [hC] at hc
    obtain ⟨ys, n', hn', hy, hlen, hyl, hf⟩ := DataW.trod_struct he ht'
    obtain ⟨_, hcl, hat⟩ := World.cells?_some hc
    simp only [Prod.mk.injEq] at hy
    refine ⟨ys, n', hy.1, hy.2, hyl, fun j f hj => ?_⟩
    obtain ⟨ho, hk⟩ := hone_of hone j f hj
    have hjl : j < fs.size := (Array.getElem?_eq_some_iff.1 hj).1
    have hcell := hat j hjl
    have hv : cs'[j]? = some (cs'[j]'(by omega)) := List.getElem?_eq_getElem (by omega)
    have h1 := hf j f hj
    rw [ho, hk] at h1
    have hone' : (cs'.drop j).take 1 = [cs'[j]'(by omega)] := by
      rw [List.drop_eq_getElem_cons (by omega)]
      rfl
    rw [hone'] at h1
    have hys : ys[j]? = some (ys[j]'(by omega)) := List.getElem?_eq_getElem (by omega)
    refine ⟨_, _, ?_, hys, h1.trans hys⟩
    rw [← Go.Deep.add_add, hcell, hv]
end
theorem spot_none {w : World} {a : Addr} {v : Value} (h : w.cell? a = some v) : a = ⟨a.block, a.off, none⟩ := by
  obtain ⟨b, o, s⟩ := a
  cases s with
  | none => rfl
  | some x =>
    unfold World.cell? at h
    split at h
    · simp at h
    · cases h
theorem add_at (b o n : Nat) : (⟨b, o, none⟩ : Addr).add n = ⟨b, o + n, none⟩ := by
  unfold Addr.add
  split
  · next h => subst h; rfl
  · rfl
set_option maxRecDepth 100000 in
theorem aread_open {H : Type} {enc : TypeId × Value → H} {W : World} {base b0 : Nat} {r : Reach} {held : Bool} {v : Value} {d : DataW H} {p : List MemPlace} (hv : Value.okWide Tryd.prog W r b0 33 v) (h : DataW.Trod enc Tryd.prog W base (fun _ => true) held 33 v d p) :
    ∃ fs, ARead W v fs := by
  obtain ⟨a0, l0, c0, rfl⟩ := okWide_slice Tryd.underlying33 hv
  obtain ⟨fuel, hf⟩ := h
  rcases open_slice_fields Tryd.underlying33 Tryd.underlying43 (by kernel_rfl) (by kernel_rfl) hf with ⟨hc, _⟩ | ⟨a, len, cap, m, D, Pl, hc, _, hlc, _, hm, _, hi⟩
  · simp only [Value.cells, List.cons.injEq, Value.slice.injEq, and_true] at hc
    obtain ⟨rfl, rfl, rfl⟩ := hc
    exact ⟨[], none, 0, rfl, fun i h => absurd h (Nat.not_lt_zero i)⟩
  · simp only [Value.cells, List.cons.injEq, Value.slice.injEq, and_true] at hc
    obtain ⟨rfl, rfl, rfl⟩ := hc
    rw [if_pos rfl] at hm
    have each : ∀ i, i < l0 → ∃ q x, W.cell? (a.add (i * 2)) = some (.bool q) ∧ W.cell? (a.add (i * 2 + 1)) = some (.string x) := by
      intro i hil
      obtain ⟨ys, n, _, _, _, hj⟩ := hi i (by omega)
      obtain ⟨v0, y0, e0, _, t0⟩ := hj 0 _ rfl
      obtain ⟨v1, y1, e1, _, t1⟩ := hj 1 _ rfl
      obtain ⟨q, hq, _⟩ := DataW.trod_bool Tryd.underlying4 t0
      obtain ⟨x, hx, _, _⟩ := DataW.trod_string Tryd.underlying9 t1
      refine ⟨q, x, ?_, ?_⟩
      · rw [show v0 = .bool q by simpa using hq] at e0; exact e0
      · rw [show v1 = .string x by simpa using hx] at e1; exact e1
    obtain ⟨fs, hfs, hat⟩ : ∃ fs : List (Bool × ByteArray), fs.length = l0 ∧ ∀ i (h : i < fs.length), W.cell? (a.add (i * 2)) = some (.bool fs[i].1) ∧ W.cell? (a.add (i * 2 + 1)) = some (.string fs[i].2) := by
      have pick : ∀ i : Fin l0, ∃ f : Bool × ByteArray, W.cell? (a.add (i.val * 2)) = some (.bool f.1) ∧ W.cell? (a.add (i.val * 2 + 1)) = some (.string f.2) := fun i => by
        obtain ⟨q, x, h1, h2⟩ := each i.val i.isLt
        exact ⟨(q, x), h1, h2⟩
      refine ⟨List.ofFn fun i : Fin l0 => Classical.choose (pick i), by simp, fun i h => ?_⟩
      have hil : i < l0 := by simpa using h
      simp only [List.getElem_ofFn]
      exact Classical.choose_spec (pick ⟨i, hil⟩)
    refine ⟨fs, some a, c0, by rw [hfs], fun i h => ?_⟩
    have h0 := hat 0 (by omega)
    rw [Nat.zero_mul] at h0
    have ha : a.add 0 = a := rfl
    rw [ha] at h0
    have hs := spot_none h0.1
    obtain ⟨e1, e2⟩ := hat i h
    rw [hs, add_at] at e1 e2
    exact ⟨a.block, a.off, by rw [← hs], e1, by rw [Nat.add_assoc]; exact e2⟩
end Go.Proofs.YtoclgcneclbfiaaDoor
