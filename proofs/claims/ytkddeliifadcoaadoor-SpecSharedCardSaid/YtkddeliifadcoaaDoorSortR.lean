/-
  ROWS OF k CELLS AN ELEMENT UNDER THE SORT: what the kit's sort says of a row, in the words of 'ownsRow'. No program in sight.
-/
import Derived.Shelf.GgSortFunc.InsertionK
import Derived.Shelf.SlSortCmp.Insertion
import Derived.Laws.AppendOwn
namespace Go.Proofs.YtkddeliifadcoaaDoor
open Go.RowKit
section
variable {α : Type} [Inhabited α]
theorem flatK_at {enc : α → List Value} {k : Nat} (hk : ∀ x, (enc x).length = k) : ∀ (l : List α) (t : Nat), t < l.length * k → ((l.map enc).flatten)[t]? = some (enc l[t / k]!)[t % k]!
  | [], t, h => by simp at h
  | a :: l, t, h => by
    have ha := hk a
    rw [List.map_cons, List.flatten_cons]
    by_cases hlt : t < k
    · rw [List.getElem?_append_left (by omega), Nat.div_eq_of_lt hlt, Nat.mod_eq_of_lt hlt, List.getElem?_eq_getElem (by omega)]
      simp [List.getElem!_eq_getElem?_getD, List.getElem?_eq_getElem (show t < (enc a).length by omega)]
    · have k0 : 0 < k := by
        rcases Nat.eq_zero_or_pos k with h0 | h0
        · subst h0; simp at h
        · exact h0
      rw [List.getElem?_append_right (by omega), ha, flatK_at hk l (t - k) (by rw [List.length_cons, Nat.add_mul] at h; omega)]
      have e1 : t / k = (t - k) / k + 1 := by
        rw [← Nat.add_div_right _ k0]; congr 1; omega
      have e2 : t % k = (t - k) % k := by
        rw [Nat.mod_eq_sub_mod (by omega)]
      rw [e1, e2]
      simp
theorem flatK_list {enc : α → List Value} {k : Nat} (hk : ∀ x, (enc x).length = k) (d : Array α) : (Sort.flatK enc k d).toList = (d.toList.map enc).flatten := by
  apply List.ext_getElem?
  intro t
  have hl : ((d.toList.map enc).flatten).length = d.size * k := by
    have : ∀ l : List α, ((l.map enc).flatten).length = l.length * k := by
      intro l
      induction l with
      | nil => simp
      | cons a l ih => rw [List.map_cons, List.flatten_cons, List.length_append, hk, ih, List.length_cons, Nat.add_mul]; omega
    rw [this, Array.length_toList]
  by_cases h : t < d.size * k
  · rw [flatK_at hk d.toList t (by rw [Array.length_toList]; exact h), Array.getElem?_toList, Array.getElem?_eq_getElem (by rw [Sort.size_flatK]; exact h)]
    have := Sort.get_flatK enc k d t h
    rw [getElem!_pos _ t (by rw [Sort.size_flatK]; exact h)] at this
    rw [this, show d.toList[t / k]! = d[t / k]! by simp [List.getElem!_eq_getElem?_getD, Array.getElem!_eq_getD, Array.getD_eq_getD_getElem?]]
  · rw [List.getElem?_eq_none (by rw [Array.length_toList, Sort.size_flatK]; omega), List.getElem?_eq_none (by rw [hl]; omega)]
theorem holdsK_row {W : World} {base g : Nat} {t : TypeId} {k n cap : Nat} {enc : α → List Value} (hk : ∀ x, (enc x).length = k) {d : Array α} (h : W.ownsRow base t k (.slice (some ⟨g, 0, none⟩) n cap) d.size (d.toList.map enc).flatten) : Sort.HoldsK enc k W g 0 d ∧ g < W.heap.size := by
  obtain ⟨hl, ⟨e, _⟩ | ⟨g', cap', cur, e, _, hg, hn, _, hz, hx⟩⟩ := h
  · cases e
  · cases e
    refine ⟨fun j hj => ?_, (Array.getElem?_eq_some_iff.1 hg).1⟩
    rw [Sort.size_flatK] at hj
    have hjc : j < cur.size := by
      have : d.size * k ≤ cap * k := Nat.mul_le_mul_right k hn
      omega
    have hj2 : (Sort.flatK enc k d)[j]? = cur[j]? := by
      rw [← Array.getElem?_toList, flatK_list hk, ← hx, List.getElem?_take, if_pos hj, Array.getElem?_toList]
    constructor
    · simp only [World.cell?, hg, Nat.zero_add]
      show cur[j]? = _
      rw [← hj2, Array.getElem?_eq_getElem (by rw [Sort.size_flatK]; exact hj), getElem!_pos _ j (by rw [Sort.size_flatK]; exact hj)]
      rfl
    · simp only [World.frozen?, hg]
      rfl
theorem sorted_heap {enc : α → List Value} {k : Nat} {W : World} {g n : Nat} {d : Array α} {os : Array Obj} {cur : Array Value} {e : TypeId} {fr : Nat × Nat} (h : W.heap[g]? = some (.cells cur e fr)) :
    (sortWorldK enc k W g 0 n d os).heap[g]? = some (.cells (Sort.putCells id 0 (Sort.flatK enc k d) cur) e fr) := by
  have hlt := (Array.getElem?_eq_some_iff.1 h).1
  show (((Sort.mapBlock (Sort.ahead W n) g _).heap) ++ os)[g]? = _
  rw [Array.getElem?_append_left (by simpa [Sort.mapBlock] using hlt)]
  show ((Sort.ahead W n).heap.modify g _)[g]? = _
  rw [Array.getElem?_modify, if_pos rfl]
  show Option.map _ (W.heap[g]?) = _
  simp only [h, Option.map_some]
  rfl
theorem sorted_grown {enc : α → List Value} {k : Nat} {W : World} {g n : Nat} {d : Array α} {os : Array Obj} : W.grownBy (sortWorldK enc k W g 0 n d os) (some g) where
  os := rfl
  tape := rfl
  output := rfl
  size := by
    show W.heap.size ≤ (((Sort.ahead W n).heap.modify g _) ++ os).size
    rw [Array.size_append, Array.size_modify]
    exact Nat.le_add_right _ _
  block i hi hne := by
    show (((Sort.ahead W n).heap.modify g _) ++ os)[i]? = W.heap[i]?
    rw [Array.getElem?_append_left (by rw [Array.size_modify]; exact hi), Array.getElem?_modify, if_neg (fun e => hne (by rw [e]))]
    rfl
theorem sorted_row {W : World} {base g : Nat} {t : TypeId} {k m cap n : Nat} {enc : α → List Value} (hk : ∀ x, (enc x).length = k) {d d' : Array α} {os : Array Obj} (hs : d'.size = d.size) (h : W.ownsRow base t k (.slice (some ⟨g, 0, none⟩) m cap) d.size (d.toList.map enc).flatten) :
    (sortWorldK enc k W g 0 n d' os).ownsRow base t k (.slice (some ⟨g, 0, none⟩) m cap) d'.size (d'.toList.map enc).flatten := by
  obtain ⟨hl, ⟨e, _⟩ | ⟨g', cap', cur, e, hbg, hg, hn, hmx, hz, hx⟩⟩ := h
  · cases e
  · cases e
    have hle : d'.size * k ≤ cur.size := by rw [hz, hs]; exact Nat.mul_le_mul_right k hn
    refine ⟨?_, .inr ⟨g, cap, _, by rw [hs], hbg, sorted_heap hg, by rw [hs]; exact hn, hmx, by simp [Sort.putCells, hz], ?_⟩⟩
    · rw [← flatK_list hk, Array.length_toList, Sort.size_flatK]
    · rw [← flatK_list hk]
      apply List.ext_getElem?
      intro t
      rw [List.getElem?_take, Array.getElem?_toList, Array.getElem?_toList]
      by_cases ht : t < d'.size * k
      · rw [if_pos ht]
        simp only [Sort.putCells, Array.getElem?_mapIdx]
        rw [Array.getElem?_eq_getElem (by omega), Option.map_some, if_pos ⟨Nat.zero_le _, by rw [Sort.size_flatK]; omega⟩, Nat.sub_zero, getElem!_pos _ t (by rw [Sort.size_flatK]; exact ht), Array.getElem?_eq_getElem (by rw [Sort.size_flatK]; exact ht)]
        rfl
      · rw [if_neg ht, Array.getElem?_eq_none (by rw [Sort.size_flatK]; omega)]
end
end Go.Proofs.YtkddeliifadcoaaDoor
