/-
  ROWS THAT A CALL MADE: lists of numbers; a row known whole, whatever its elements.
-/
import Derived.Test.YtppccacfdpkkgaaGreatDoorRowG
namespace Go.Proofs.YtppccacfdpkkgaaGreatDoor
open Go.RowKit
def iC (n : Int) : List Value := [.int .i64 n]
def iCs (l : List Int) : List Value := l.map (Value.int .i64)
theorem iCs_flat (l : List Int) : iCs l = (l.map iC).flatten := by
  induction l with
  | nil => rfl
  | cons a l ih => simp [iCs, iC] at *; exact ih
theorem iCs_snoc (l : List Int) (n : Int) : iCs (l ++ [n]) = iCs l ++ [.int .i64 n] := by simp [iCs]
theorem ARd.of_ints {W : World} {base : Nat} {t : TypeId} {v : Value} {l : List Int} (h : W.ownsRow base t 1 v l.length (iCs l)) : ARd W v 1 (l.map iC) :=
  ARd.of_row (by intro r hr; obtain ⟨p, _, rfl⟩ := List.mem_map.1 hr; rfl) (by rw [List.length_map, ← iCs_flat]; exact h)
/-- A slice of numbers, its cells one by one. -/
theorem ARd.intAt {w : World} {v : Value} {l : List Int} (h : ARd w v 1 (l.map iC)) (i : Nat) (hi : i < l.length) : ∃ b o c, v = .slice (some ⟨b, o, none⟩) l.length c ∧ b < w.heap.size ∧ w.cell? ⟨b, o + i, none⟩ = some (.int .i64 l[i]) := by
  obtain ⟨b, o, c, e, hlt, hc⟩ := h.at i (by simpa using hi)
  rw [List.getElem_map] at hc
  rw [List.length_map] at e
  exact ⟨b, o, c, e, hlt, by have := hc 0 _ rfl; rwa [Nat.mul_one] at this⟩
theorem ARd.intForm {w : World} {v : Value} {l : List Int} (h : ARd w v 1 (l.map iC)) : ∃ a c, v = .slice a l.length c := by
  obtain ⟨a, c, e⟩ := h.form
  exact ⟨a, c, by simpa using e⟩
section
variable {α : Type}
/-- A row of elements of k cells each, its block known whole. -/
structure EnB (W : World) (t : TypeId) (k : Nat) (enc : α → List Value) (g cap : Nat) (m : List α) : Prop where
  cur : ∃ cur, Blk W g t cur ∧ cur.size = cap * k ∧ cur.toList.take (m.length * k) = (m.map enc).flatten
  le : m.length ≤ cap
variable {W W' : World} {t : TypeId} {k g cap : Nat} {enc : α → List Value} {m : List α}
theorem enc_len (hk : ∀ x, (enc x).length = k) (m : List α) : ((m.map enc).flatten).length = m.length * k := by
  have := flat_len (k := k) (m.map enc) (by intro r hr; obtain ⟨p, _, rfl⟩ := List.mem_map.1 hr; exact hk p)
  rwa [List.length_map] at this
theorem EnB.lt (h : EnB W t k enc g cap m) : g < W.heap.size := by obtain ⟨⟨cur, hb, _⟩, _⟩ := h; exact hb.lt
theorem EnB.kept {row : Option Nat} (h : EnB W t k enc g cap m) (hg : W.grownBy W' row) (hne : some g ≠ row) : EnB W' t k enc g cap m := by
  obtain ⟨⟨cur, hb, h2⟩, h3⟩ := h
  exact ⟨⟨cur, (hg.block g hb.lt hne).trans hb, h2⟩, h3⟩
theorem EnB.below (h : EnB W t k enc g cap m) (hb : Below W.heap.size W W') : EnB W' t k enc g cap m := by
  obtain ⟨⟨cur, hc, h2⟩, h3⟩ := h
  exact ⟨⟨cur, hc.below hb, h2⟩, h3⟩
theorem EnB.drewN (h : EnB W t k enc g cap m) (n : Nat) : EnB (W.drewN n) t k enc g cap m := ⟨h.cur, h.le⟩
/-- A cell of an element. -/
theorem EnB.cell (hk : ∀ x, (enc x).length = k) (h : EnB W t k enc g cap m) {i : Nat} (hi : i < m.length) {j : Nat} {u : Value} (hj : (enc m[i])[j]? = some u) : W.cell? ⟨g, i * k + j, none⟩ = some u ∧ W.frozen? ⟨g, i * k + j, none⟩ = false := by
  obtain ⟨⟨cur, hg, hz, hx⟩, hn⟩ := h
  have hjk : j < k := by
    have := (List.getElem?_eq_some_iff.1 hj).1
    rwa [hk] at this
  have e := flat_get (m.map enc) (by intro r hr; obtain ⟨p, _, rfl⟩ := List.mem_map.1 hr; exact hk p) i (by simpa using hi) j hjk
  rw [List.getElem_map, hj, ← hx, List.getElem?_take] at e
  split at e
  · exact ⟨(hg.cell _).trans (by simpa using e), hg.frozen _⟩
  · cases e
theorem EnB.of_row {base n : Nat} (h : W.ownsRow base t k (.slice (some ⟨g, 0, none⟩) n cap) m.length (m.map enc).flatten) : EnB W t k enc g cap m ∧ base ≤ g ∧ cap ≤ maxLen ∧ n = m.length := by
  obtain ⟨hl, ⟨e, _⟩ | ⟨g', cap', cur, e, hb, hg, hn, hc, hz, hx⟩⟩ := h
  · cases e
  · cases e
    exact ⟨⟨⟨cur, hg, hz, hx⟩, hn⟩, hb, hc, rfl⟩
theorem EnB.row {base : Nat} (hk : ∀ x, (enc x).length = k) (h : EnB W t k enc g cap m) (hb : base ≤ g) (hc : cap ≤ maxLen) : W.ownsRow base t k (.slice (some ⟨g, 0, none⟩) m.length cap) m.length (m.map enc).flatten := by
  obtain ⟨⟨cur, hg, hz, hx⟩, hn⟩ := h
  exact ⟨enc_len hk m, .inr ⟨g, cap, cur, rfl, hb, hg, hn, hc, hz, hx⟩⟩
theorem flat_set (hk : ∀ x, (enc x).length = k) : ∀ (m : List α) (i : Nat) (x : α) (L : List Value), i < m.length → L.length = m.length * k → (∀ q, q < m.length * k → L[q]? = if i * k ≤ q ∧ q < i * k + k then (enc x)[q - i * k]? else ((m.map enc).flatten)[q]?) → L = ((m.set i x).map enc).flatten := by
  intro m i x L hi hL hq
  apply List.ext_getElem?
  intro q
  have hlen : (((m.set i x).map enc).flatten).length = m.length * k := by rw [enc_len hk, List.length_set]
  by_cases hlt : q < m.length * k
  · rw [hq q hlt]
    have k0 : 0 < k := by
      rcases Nat.eq_zero_or_pos k with h0 | h0
      · subst h0; simp at hlt
      · exact h0
    have hd := Nat.div_add_mod q k
    have hm := Nat.mod_lt q k0
    have hql : q / k < m.length := (Nat.div_lt_iff_lt_mul k0).2 hlt
    have e1 := flat_get ((m.set i x).map enc) (by intro r hr; obtain ⟨p, _, rfl⟩ := List.mem_map.1 hr; exact hk p) (q / k) (by simpa using hql) (q % k) hm
    have e2 := flat_get (m.map enc) (by intro r hr; obtain ⟨p, _, rfl⟩ := List.mem_map.1 hr; exact hk p) (q / k) (by simpa using hql) (q % k) hm
    rw [Nat.mul_comm (q / k) k, hd] at e1 e2
    rw [e1, List.getElem_map, List.getElem_set]
    by_cases c : i = q / k
    · have c1 : i * k ≤ q ∧ q < i * k + k := by rw [c, Nat.mul_comm]; omega
      rw [if_pos c1, if_pos c]
      congr 1
      rw [c, Nat.mul_comm]
      omega
    · have c1 : ¬ (i * k ≤ q ∧ q < i * k + k) := by
        rintro ⟨a, b⟩
        apply c
        have b' : q < (i + 1) * k := by rw [Nat.add_mul]; omega
        have := (Nat.le_div_iff_mul_le k0).2 a
        have := (Nat.div_lt_iff_lt_mul k0).2 b'
        omega
      rw [if_neg c1, if_neg c, e2, List.getElem_map]
  · rw [List.getElem?_eq_none (by omega), List.getElem?_eq_none (by omega)]
end
end Go.Proofs.YtppccacfdpkkgaaGreatDoor
