/-
  CONTRACTS: Compact of pipes.
-/
import Derived.Test.YtkddeliifadcoaaDoorRow
import Derived.Laws.IdiomCopy
import Derived.Maps.AppendAt
namespace Go.Proofs.YtkddeliifadcoaaDoor
open Go.RowKit
theorem squeeze_snoc : ∀ (l : List Pp) (x y : Pp), squeeze (l ++ [x, y]) = if x = y then squeeze (l ++ [x]) else squeeze (l ++ [x]) ++ [y]
  | [], x, y => by by_cases h : x = y <;> simp [squeeze, h]
  | [a], x, y => by
    by_cases h : x = y <;> by_cases k : a = x <;> simp_all [squeeze]
  | a :: b :: l, x, y => by
    have ih := squeeze_snoc (b :: l) x y
    rw [List.cons_append, List.cons_append] at ih
    rw [List.cons_append, List.cons_append, List.cons_append, List.cons_append, squeeze, ih, squeeze]
    by_cases h : x = y <;> by_cases k : a = b <;> simp [h, k]
theorem take_two {l : List Pp} {j : Nat} (h0 : 0 < j) (h : j < l.length) : l.take (j + 1) = l.take (j - 1) ++ [l[j - 1], l[j]] := by
  obtain ⟨i, rfl⟩ : ∃ i, j = i + 1 := ⟨j - 1, by omega⟩
  rw [List.take_succ_eq_append_getElem h, List.take_succ_eq_append_getElem (show i < l.length by omega), List.append_assoc]
  rfl
theorem take_one {l : List Pp} {j : Nat} (h0 : 0 < j) (h : j < l.length) : l.take j = l.take (j - 1) ++ [l[j - 1]] := by
  obtain ⟨i, rfl⟩ : ∃ i, j = i + 1 := ⟨j - 1, by omega⟩
  rw [List.take_succ_eq_append_getElem (show i < l.length by omega)]
  simp
theorem squeeze_same {l : List Pp} {j : Nat} (h0 : 0 < j) (h : j < l.length) (he : l[j] = l[j - 1]) : squeeze (l.take (j + 1)) = squeeze (l.take j) := by
  rw [take_two h0 h, squeeze_snoc, if_pos he.symm, ← take_one h0 h]
theorem squeeze_other {l : List Pp} {j : Nat} (h0 : 0 < j) (h : j < l.length) (he : ¬ l[j] = l[j - 1]) : squeeze (l.take (j + 1)) = squeeze (l.take j) ++ [l[j]] := by
  rw [take_two h0 h, squeeze_snoc, if_neg (fun e => he e.symm), ← take_one h0 h]
/-- Between two rounds of the inner loop: behind j, k pipes are kept. -/
structure CpInv (l : List Pp) (j k : Nat) (m : List Pp) : Prop where
  eq : m = squeeze (l.take j) ++ l.drop k
  len : (squeeze (l.take j)).length = k
  lt : k < j
  le : j ≤ l.length
theorem CpInv.length {l : List Pp} {j k : Nat} {m : List Pp} (h : CpInv l j k m) : m.length = l.length := by
  have := h.lt; have := h.le
  rw [h.eq, List.length_append, h.len, List.length_drop]
  omega
theorem CpInv.at {l : List Pp} {j k : Nat} {m : List Pp} (h : CpInv l j k m) {i : Nat} (hi : i < l.length) (hk : k ≤ i) : m[i]'(by rw [h.length]; exact hi) = l[i] := by
  have e : m[i]? = l[i]? := by
    rw [h.eq, List.getElem?_append_right (by rw [h.len]; exact hk), h.len, List.getElem?_drop]
    congr 1
    omega
  rw [List.getElem?_eq_getElem (by rw [h.length]; exact hi), List.getElem?_eq_getElem hi] at e
  exact Option.some.inj e
theorem CpInv.start {l : List Pp} {k : Nat} (h0 : 0 < k) (h : k < l.length) (hs : squeeze (l.take k) = l.take k) (he : l[k] = l[k - 1]) : CpInv l (k + 1) k l where
  eq := by rw [squeeze_same h0 h he, hs, List.take_append_drop]
  len := by rw [squeeze_same h0 h he, hs, List.length_take]; omega
  lt := by omega
  le := h
theorem CpInv.skip {l : List Pp} {j k : Nat} {m : List Pp} (h : CpInv l j k m) (hj : j < l.length) (he : l[j] = l[j - 1]) : CpInv l (j + 1) k m where
  eq := by rw [squeeze_same (by have := h.lt; omega) hj he]; exact h.eq
  len := by rw [squeeze_same (by have := h.lt; omega) hj he]; exact h.len
  lt := by have := h.lt; omega
  le := hj
theorem CpInv.keep {l : List Pp} {j k : Nat} {m : List Pp} (h : CpInv l j k m) (hj : j < l.length) (he : ¬ l[j] = l[j - 1]) : CpInv l (j + 1) (k + 1) (m.set k l[j]) where
  eq := by
    have hk : k < l.length := by have := h.lt; omega
    rw [squeeze_other (by have := h.lt; omega) hj he, h.eq, List.set_append_right _ _ (by rw [h.len]; exact Nat.le_refl k), h.len, Nat.sub_self, List.append_assoc, List.drop_eq_getElem_cons hk]
    rfl
  len := by rw [squeeze_other (by have := h.lt; omega) hj he, List.length_append, h.len]; rfl
  lt := by have := h.lt; omega
  le := hj
/-- A list of pipes in a block. -/
structure PpB (W : World) (g cap : Nat) (m : List Pp) : Prop where
  cur : ∃ cur, Blk W g 46 cur ∧ cur.size = cap * 2 ∧ cur.toList.take (m.length * 2) = ppCs m
  le : m.length ≤ cap
theorem ppCs_len (l : List Pp) : (ppCs l).length = l.length * 2 := by
  have := flat_len (k := 2) (l.map ppC) (by intro r hr; obtain ⟨p, _, rfl⟩ := List.mem_map.1 hr; rfl)
  rwa [List.length_map] at this
theorem ppCs_get {l : List Pp} {i : Nat} (h : i < l.length) : (ppCs l)[i * 2]? = some (.int .i64 l[i].1) ∧ (ppCs l)[i * 2 + 1]? = some (.int .i64 l[i].2) := by
  have hk : ∀ r ∈ l.map ppC, r.length = 2 := by intro r hr; obtain ⟨p, _, rfl⟩ := List.mem_map.1 hr; rfl
  have h0 := flat_get (l.map ppC) hk i (by simpa using h) 0 (by omega)
  have h1 := flat_get (l.map ppC) hk i (by simpa using h) 1 (by omega)
  rw [List.getElem_map] at h0 h1
  exact ⟨h0, h1⟩
theorem ppCs_set {l : List Pp} {i : Nat} (h : i < l.length) (p : Pp) : ((ppCs l).set (i * 2) (.int .i64 p.1)).set (i * 2 + 1) (.int .i64 p.2) = ppCs (l.set i p) := by
  induction l generalizing i with
  | nil => simp at h
  | cons a l ih =>
    cases i with
    | zero => simp [ppCs, ppC]
    | succ i =>
      have := ih (i := i) (by simpa using h)
      rw [show (i + 1) * 2 = i * 2 + 2 by omega]
      simpa [ppCs, ppC] using this
theorem PpB.of_row {W : World} {base g n cap : Nat} {l : List Pp} (h : W.ownsRow base 46 2 (.slice (some ⟨g, 0, none⟩) n cap) l.length (ppCs l)) : PpB W g cap l ∧ base ≤ g ∧ cap ≤ maxLen ∧ n = l.length := by
  obtain ⟨hl, ⟨e, _⟩ | ⟨g', cap', cur, e, hb, hg, hn, hc, hz, hx⟩⟩ := h
  · cases e
  · cases e
    exact ⟨⟨⟨cur, hg, hz, hx⟩, hn⟩, hb, hc, rfl⟩
theorem PpB.row {W : World} {base g cap : Nat} {l : List Pp} (h : PpB W g cap l) (hb : base ≤ g) (hc : cap ≤ maxLen) : W.ownsRow base 46 2 (.slice (some ⟨g, 0, none⟩) l.length cap) l.length (ppCs l) := by
  obtain ⟨⟨cur, hg, hz, hx⟩, hn⟩ := h
  exact ⟨ppCs_len l, .inr ⟨g, cap, cur, rfl, hb, hg, hn, hc, hz, hx⟩⟩
theorem PpB.cell {W : World} {g cap : Nat} {l : List Pp} (h : PpB W g cap l) {i : Nat} (hi : i < l.length) : W.cell? ⟨g, i * 2, none⟩ = some (.int .i64 l[i].1) ∧ W.cell? ⟨g, i * 2 + 1, none⟩ = some (.int .i64 l[i].2) ∧ W.frozen? ⟨g, i * 2, none⟩ = false ∧ W.frozen? ⟨g, i * 2 + 1, none⟩ = false := by
  obtain ⟨⟨cur, hg, hz, hx⟩, hn⟩ := h
  obtain ⟨e0, e1⟩ := ppCs_get hi
  rw [← hx, List.getElem?_take, if_pos (by omega), Array.getElem?_toList] at e0 e1
  exact ⟨(hg.cell _).trans e0, (hg.cell _).trans e1, hg.frozen _, hg.frozen _⟩
theorem PpB.drewN {W : World} {g cap : Nat} {l : List Pp} (h : PpB W g cap l) (n : Nat) : PpB (W.drewN n) g cap l := ⟨h.cur, h.le⟩
theorem PpB.set {W : World} {g cap : Nat} {l : List Pp} (h : PpB W g cap l) {i : Nat} (hi : i < l.length) (p : Pp) : PpB ((W.setCell ⟨g, i * 2, none⟩ (.int .i64 p.1)).setCell ⟨g, i * 2 + 1, none⟩ (.int .i64 p.2)) g cap (l.set i p) := by
  obtain ⟨⟨cur, hg, hz, hx⟩, hn⟩ := h
  refine ⟨⟨_, (hg.set _ _).set _ _, by simpa using hz, ?_⟩, by simpa using hn⟩
  rw [List.length_set, ← ppCs_set hi, ← hx]
  simp only [Array.toList_setIfInBounds, List.take_set]
theorem grown_two (W : World) (g i : Nat) (a b : Value) : W.grownBy ((W.setCell ⟨g, i, none⟩ a).setCell ⟨g, i + 1, none⟩ b) (some g) := by
  have h : ∀ (W : World) (i : Nat) (v : Value), W.grownBy (W.setCell ⟨g, i, none⟩ v) (some g) := fun W i v =>
    ⟨rfl, rfl, rfl, by simp [World.setCell], fun k _ hne => (Below.heap_setCell W ⟨g, i, none⟩ v k (fun e => hne (by rw [e])))⟩
  exact (h W i a).trans (h _ (i + 1) b)
theorem grown_cells (g : Nat) : ∀ (vs : List Value) (o : Nat) (W : World), W.grownBy (W.setCells g o vs) (some g)
  | [], _, W => World.grownBy.refl W _
  | v :: r, o, W => by
    have h : W.grownBy (W.setCell ⟨g, o, none⟩ v) (some g) :=
      ⟨rfl, rfl, rfl, by simp [World.setCell], fun k _ hne => (Below.heap_setCell W ⟨g, o, none⟩ v k (fun e => hne (by rw [e])))⟩
    exact h.trans (grown_cells g r (o + 1) _)
theorem blk_cells {t : TypeId} {g : Nat} : ∀ (vs : List Value) (o : Nat) (W : World) (cur : Array Value), Blk W g t cur → ∃ c2, Blk (W.setCells g o vs) g t c2 ∧ c2.size = cur.size ∧ ∀ q, q ≤ o → c2.toList.take q = cur.toList.take q
  | [], _, _, cur, h => ⟨cur, h, rfl, fun _ _ => rfl⟩
  | v :: r, o, W, cur, h => by
    obtain ⟨c2, h1, h2, h3⟩ := blk_cells r (o + 1) _ _ (h.set o v)
    refine ⟨c2, h1, by simpa using h2, fun q hq => ?_⟩
    rw [h3 q (by omega), Array.toList_setIfInBounds, List.take_set_of_le hq]
theorem PpB.cut {W : World} {g cap k : Nat} {l : List Pp} (h : PpB W g cap l) (hk : k ≤ l.length) (vs : List Value) : PpB (W.setCells g (k * 2) vs) g cap (l.take k) := by
  obtain ⟨⟨cur, hg, hz, hx⟩, hn⟩ := h
  obtain ⟨c2, h1, h2, h3⟩ := blk_cells vs (k * 2) W cur hg
  refine ⟨⟨c2, h1, by rw [h2, hz], ?_⟩, by rw [List.length_take]; omega⟩
  rw [List.length_take, Nat.min_eq_left hk, h3 _ (Nat.le_refl _)]
  have e : (ppCs l).take (k * 2) = ppCs (l.take k) := by
    have : l = l.take k ++ l.drop k := (List.take_append_drop k l).symm
    have e2 : ppCs l = ppCs (l.take k) ++ ppCs (l.drop k) := by
      conv => lhs; rw [this]
      unfold ppCs
      rw [List.map_append, List.flatten_append]
    rw [e2, List.take_append_of_le_length (by rw [ppCs_len, List.length_take]; omega), List.take_of_length_le (by rw [ppCs_len, List.length_take]; omega)]
  rw [← e, ← hx, List.take_take, Nat.min_eq_left (by omega)]
/-- 'clear' of elements of two cells. -/
theorem run_clear_pp (w : World) (ty : TypeId) (b o n c : Nat) (hn : 0 < n) (hc : ∀ j, j < n * 2 → (w.cell? ⟨b, o + j, none⟩).isSome = true) (hf : ∀ j, j < n * 2 → w.frozen? ⟨b, o + j, none⟩ = false) :
    (Builtin.clear_ #[37] ty #[.slice (some ⟨b, o, none⟩) n c]).run Tryd.prog w = .ok (.tuple #[]) (w.setCells b o (List.replicate (n * 2) (.int .i64 0))) := by
  have hzc : (Builtin.zeroCells (Value.agg #[.int .i64 0, .int .i64 0]).cells n).toList = List.replicate (n * 2) (.int .i64 0) := by
    simp [Builtin.zeroCells, Value.cells]
    apply List.ext_getElem
    · simp
    · intro i h1 h2
      simp
      have : i % 2 < 2 := Nat.mod_lt _ (by omega)
      rcases (show i % 2 = 0 ∨ i % 2 = 1 by omega) with e | e <;> simp [e]
  have hst := run_storeCells_cells (P := Tryd.prog) b o (List.replicate (n * 2) (.int .i64 0)) 0 w (by simpa using hc) (by simpa using hf) (by intro v hv'; rw [List.eq_of_mem_replicate hv']; rfl)
  simp only [Nat.add_zero] at hst
  obtain ⟨m, rfl⟩ : ∃ m, n = m + 1 := ⟨n - 1, by omega⟩
  simp [Builtin.clear_, run_underlying Tryd.underlying37, Tryd.zeroValue46, hzc, hst]
end Go.Proofs.YtkddeliifadcoaaDoor
