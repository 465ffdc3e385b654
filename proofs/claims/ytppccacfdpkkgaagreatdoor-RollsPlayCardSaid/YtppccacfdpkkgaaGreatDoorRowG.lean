/-
  ROWS THAT A CALL MADE: laws on them.
-/
import Derived.Test.YtppccacfdpkkgaaGreatDoorArr
import Derived.OwnWalk
import Derived.Deep.AppendLies
namespace Go.Proofs.YtppccacfdpkkgaaGreatDoor
open Go.RowKit
theorem row_ne {A : World} {row : Option Nat} {base : Nat} {t : TypeId} {size k : Nat} {v : Value} {xs : List Value} (h : A.ownsRow base t size v k xs) (hr : ∀ r, row = some r → ∃ o : Obj, A.heap[r]? = some o ∧ o.isCells = false) : v.ownBlock = none ∨ v.ownBlock ≠ row := by
  rcases h.2 with ⟨rfl, _⟩ | ⟨g, cap, cur, rfl, _, hgb, _⟩
  · exact .inl rfl
  · refine .inr fun e' => ?_
    obtain ⟨o, ho, hc⟩ := hr g (by simpa [Value.ownBlock] using e'.symm)
    rw [hgb] at ho; cases ho; cases hc
theorem row_far {A : World} {base B : Nat} {t : TypeId} {size k : Nat} {v : Value} {xs : List Value} (h : A.ownsRow base t size v k xs) (hB : B < base) : v.ownBlock = none ∨ v.ownBlock ≠ some B := by
  rcases h.2 with ⟨rfl, _⟩ | ⟨g, cap, cur, rfl, hg, _⟩
  · exact .inl rfl
  · refine .inr fun e' => ?_
    have : g = B := by simpa [Value.ownBlock] using e'
    omega
theorem grown_none {W W' : World} (hb : Below W.heap.size W W') : W.grownBy W' none := ⟨hb.os, hb.tape, hb.output, hb.size, fun i hi _ => hb.block i hi⟩
theorem row_later {W W' : World} {base : Nat} {t : TypeId} {size k : Nat} {v : Value} {xs : List Value} (h : W.ownsRow base t size v k xs) (hb : Below W.heap.size W W') : W'.ownsRow base t size v k xs :=
  h.kept (grown_none hb) (row_ne h (fun r e => by cases e))
theorem row_ge {W : World} {base : Nat} {t : TypeId} {size k : Nat} {v : Value} {xs : List Value} (h : W.ownsRow base t size v k xs) {j : Nat} (e : v.ownBlock = some j) : base ≤ j := by
  rcases h.2 with ⟨rfl, _⟩ | ⟨g, cap, cur, rfl, hg, _⟩
  · simp [Value.ownBlock] at e
  · have : g = j := by simpa [Value.ownBlock] using e
    omega
theorem row_base {W : World} {base base' : Nat} {t : TypeId} {size k : Nat} {v : Value} {xs : List Value} (h : W.ownsRow base t size v k xs) (hb : base' ≤ base) : W.ownsRow base' t size v k xs := by
  obtain ⟨h1, h2 | ⟨g, cap, cur, e1, e2, e3⟩⟩ := h
  · exact ⟨h1, .inl h2⟩
  · exact ⟨h1, .inr ⟨g, cap, cur, e1, Nat.le_trans hb e2, e3⟩⟩
/-- A list of rows of k, flat. -/
theorem flat_get {α : Type} {k : Nat} : ∀ (rows : List (List α)), (∀ r ∈ rows, r.length = k) → ∀ (i : Nat) (h : i < rows.length) (j : Nat), j < k → rows.flatten[i * k + j]? = rows[i][j]?
  | [], _, i, h, _, _ => absurd h (Nat.not_lt_zero i)
  | r :: rows, hk, 0, _, j, hj => by
    have hr := hk r (by simp)
    rw [List.flatten_cons, List.getElem?_append_left (by omega)]
    simp
  | r :: rows, hk, i + 1, h, j, hj => by
    have hr := hk r (by simp)
    have hm : r.length ≤ (i + 1) * k + j := by rw [Nat.add_mul]; omega
    rw [List.flatten_cons, List.getElem?_append_right hm, show (i + 1) * k + j - r.length = i * k + j by rw [Nat.add_mul]; omega]
    exact flat_get rows (fun r hr => hk r (by simp [hr])) i (by simpa using h) j hj
theorem flat_len {α : Type} {k : Nat} : ∀ (rows : List (List α)), (∀ r ∈ rows, r.length = k) → rows.flatten.length = rows.length * k
  | [], _ => by simp
  | r :: rows, hk => by
    rw [List.flatten_cons, List.length_append, hk r (by simp), flat_len rows (fun r hr => hk r (by simp [hr])), List.length_cons, Nat.add_mul]
    omega
theorem ARd.empty (w : World) (k : Nat) : ARd w (.slice none 0 0) k [] := ⟨_, _, rfl, fun i hi => absurd hi (Nat.not_lt_zero i)⟩
theorem ARd.of_row {W : World} {base : Nat} {t : TypeId} {k : Nat} {v : Value} {rows : List (List Value)} (hk : ∀ r ∈ rows, r.length = k) (h : W.ownsRow base t k v rows.length rows.flatten) : ARd W v k rows := by
  obtain ⟨_, ⟨rfl, h0⟩ | ⟨g, cap, cur, rfl, _, hg, _, _, _, hx⟩⟩ := h
  · have := List.length_eq_zero_iff.1 h0
    subst this
    exact ARd.empty W k
  · refine ⟨_, _, rfl, fun i hi => ⟨g, 0, rfl, (Array.getElem?_eq_some_iff.1 hg).1, fun j u hj => ?_⟩⟩
    have hjk : j < k := by
      have := (List.getElem?_eq_some_iff.1 hj).1
      rwa [hk _ (List.getElem_mem hi)] at this
    have e := flat_get rows hk i hi j hjk
    rw [hj, ← hx, List.getElem?_take] at e
    split at e
    · simp only [World.cell?, hg, Nat.zero_add]
      simpa using e
    · cases e
theorem cell_alloc {W : World} {p : Addr} {v : Value} (h : W.cell? p = some v) : ∀ o, (W.alloc o).cell? p = some v := fun o => (((Below.refl _ W).alloc (Nat.le_refl _) o).cell (cell_size h)).trans h
theorem push_low {W0 W W' : World} {o : Obj} {t : TypeId} {k n : Nat} {v : Value} {xs : List Value} (hb : Below W0.heap.size W0 W) (hrow : W.ownsRow W0.heap.size t k v n xs) (hg : (W.alloc o).grownBy W' v.ownBlock) : Below W0.heap.size W0 W' :=
  (hb.alloc hb.size o).grown hg (by simp; have := hb.size; omega) (fun j e => row_ge hrow e)
end Go.Proofs.YtppccacfdpkkgaaGreatDoor
