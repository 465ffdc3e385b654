/-
  ROLLS IN MEMORY: rolls as lists, as papers; put in a row of a paper.
-/
import Derived.Test.YtppccacfdpkkgaaGreatDoorK1
import Derived.Test.YtppccacfdpkkgaaGreatDoorKRow
import Derived.Laws.MakeOwn
namespace Go.Proofs.YtppccacfdpkkgaaGreatDoor
open Go.RowKit
def rwC (q : Rw) : List Value := [.int .u64 q.1, .int .u64 q.2]
theorem rwC_len (q : Rw) : (rwC q).length = 2 := rfl
def rw0 : Rw := (0, 0)
/-- A roll's rows in memory; f: where a row's numbers lie. -/
structure RoRd (w : World) (v : Value) (f : Nat → Value) (R : Ro) : Prop where
  r : ARd w v 1 (R.rows.mapIdx fun i _ => [f i])
  l : ∀ i (h : i < R.rows.length), ARd w (f i) 1 (R.rows[i].map iC)
structure RoOk (R : Ro) : Prop where
  len : R.rows.length ≤ 100000
  row : R.rows.length ≤ 20000 → ∀ l ∈ R.rows, l.length ≤ 1000
theorem RoRd.later {w w' : World} {v : Value} {f : Nat → Value} {R : Ro} (h : RoRd w v f R) (hb : Below w.heap.size w w') : RoRd w' v f R := ⟨h.r.later hb, fun i hi => (h.l i hi).later hb⟩
theorem RoRd.form {w : World} {v : Value} {f : Nat → Value} {R : Ro} (h : RoRd w v f R) : ∃ a c, v = .slice a R.rows.length c := by
  obtain ⟨a, c, e⟩ := h.r.form
  exact ⟨a, c, by simpa using e⟩
theorem RoRd.at {w : World} {v : Value} {f : Nat → Value} {R : Ro} (h : RoRd w v f R) (i : Nat) (hi : i < R.rows.length) : ∃ b o c a2 c2, v = .slice (some ⟨b, o, none⟩) R.rows.length c ∧ b < w.heap.size ∧ w.cell? ⟨b, o + i, none⟩ = some (.slice a2 R.rows[i].length c2) ∧ ARd w (.slice a2 R.rows[i].length c2) 1 (R.rows[i].map iC) := by
  obtain ⟨b, o, c, e, hlt, hc⟩ := h.r.at i (by simpa using hi)
  rw [List.getElem_mapIdx] at hc
  rw [List.length_mapIdx] at e
  have h3 := h.l i hi
  obtain ⟨a2, c2, e2⟩ := h3.intForm
  rw [e2] at h3 hc
  exact ⟨b, o, c, a2, c2, e, hlt, by have := hc 0 _ rfl; rwa [Nat.mul_one] at this, h3⟩
/-- The rows of a paper in block G. -/
abbrev RwB (W : World) (G cap : Nat) (qs : List Rw) : Prop := EnB W 89 2 rwC G cap qs
theorem rwB_cells {W : World} {G cap : Nat} {qs : List Rw} (h : RwB W G cap qs) {i : Nat} (hi : i < qs.length) : W.cell? ⟨G, i * 2, none⟩ = some (.int .u64 qs[i].1) ∧ W.cell? ⟨G, i * 2 + 1, none⟩ = some (.int .u64 qs[i].2) :=
  ⟨(h.cell rwC_len hi (j := 0) rfl).1, (h.cell rwC_len hi (j := 1) rfl).1⟩
theorem put_row {W : World} {G cap : Nat} {qs : List Rw} (h : RwB W G cap qs) {i : Nat} (hi : i < qs.length) (hq : RwOk qs[i]) (t : Int) (h0 : 0 ≤ t) (ht : t < 128) (hb : Bool) :
    Calls Tryz.prog 37 #[.pointer (some ⟨G, i * 2, none⟩), .int .i64 t, .bool hb] W fun e w' => e = .returned (.tuple #[]) ∧ RwB w' G cap (qs.set i (putR qs[i] t.toNat hb)) ∧ W.grownBy w' (some G) ∧ w'.heap.size = W.heap.size := by
  obtain ⟨t, rfl⟩ := Int.eq_ofNat_of_zero_le h0
  rw [Int.toNat_natCast]
  obtain ⟨⟨cur, hk, hz, hx⟩, hn⟩ := h
  have hc : ∀ j u, (rwC qs[i])[j]? = some u → cur[i * 2 + j]? = some u := by
    intro j u hj
    have := (EnB.cell rwC_len ⟨⟨cur, hk, hz, hx⟩, hn⟩ hi hj).1
    rwa [hk.cell] at this
  refine (put_any qs[i] hq t (by omega) hb G (i * 2) _ cur W hk (hc 0 _ rfl) (hc 1 _ rfl)).mono ?_
  rintro e w' ⟨rfl, hk2, hg, hs⟩
  refine ⟨rfl, ⟨⟨_, hk2, by simpa using hz, ?_⟩, by simpa using hn⟩, hg, hs⟩
  rw [List.length_set]
  refine flat_set (k := 2) rwC_len qs i _ _ hi ?_ ?_
  · rw [List.length_take, Array.length_toList]; simp; omega
  · intro q hq2
    rw [List.getElem?_take, if_pos hq2, Array.getElem?_toList, Array.getElem?_setIfInBounds, Array.getElem?_setIfInBounds, ← hx, List.getElem?_take, if_pos hq2, Array.getElem?_toList]
    have hcs : i * 2 + 1 < cur.size := by omega
    by_cases e1 : q = i * 2
    · subst e1
      rw [if_neg (by omega), if_pos rfl, if_pos (by omega), if_pos (by omega), Nat.sub_self]
      rfl
    · by_cases e2 : q = i * 2 + 1
      · subst e2
        rw [if_pos rfl, if_pos (by simpa using hcs), if_pos (by omega), show i * 2 + 1 - i * 2 = 1 by omega]
        rfl
      · rw [if_neg (fun e => e2 e.symm), if_neg (fun e => e1 e.symm), if_neg (by omega)]
        simp
theorem made_flat {α : Type} {enc : α → List Value} (x : α) {k : Nat} (hk : ∀ y, (enc y).length = k) (hk0 : 0 < k) (n : Nat) : (madeCells (enc x).toArray (n * k)).toList = ((List.replicate n x).map enc).flatten := by
  apply List.ext_getElem?
  intro q
  by_cases h : q < n * k
  · have hd := Nat.div_add_mod q k
    have hm := Nat.mod_lt q hk0
    have hql : q / k < n := (Nat.div_lt_iff_lt_mul hk0).2 h
    have e1 := flat_get ((List.replicate n x).map enc) (by intro r hr; obtain ⟨p, _, rfl⟩ := List.mem_map.1 hr; exact hk p) (q / k) (by simpa using hql) (q % k) hm
    rw [Nat.mul_comm (q / k) k, hd] at e1
    rw [e1]
    simp only [List.getElem_map, List.getElem_replicate, madeCells, Array.getElem?_toList, Array.getElem?_map]
    rw [Array.getElem?_range, if_pos h]
    simp only [Option.map_some, List.size_toArray, hk x]
    rw [List.getElem?_eq_getElem (by rw [hk]; exact hm), getElem!_pos _ _ (by simpa [hk x] using hm)]
    simp
  · rw [List.getElem?_eq_none (by rw [Array.length_toList, size_madeCells]; omega), List.getElem?_eq_none (by rw [enc_len hk, List.length_replicate]; omega)]
theorem made_enB {α : Type} (W : World) (t : TypeId) {enc : α → List Value} (x : α) {k : Nat} (hk : ∀ y, (enc y).length = k) (hk0 : 0 < k) (n : Nat) : EnB (W.alloc (.cells (madeCells (enc x).toArray (n * k)) t)) t k enc W.heap.size n (List.replicate n x) :=
  ⟨⟨_, Blk.new W t _, size_madeCells _ _, by rw [List.length_replicate, List.take_of_length_le (by rw [Array.length_toList, size_madeCells]; exact Nat.le_refl _)]; exact made_flat x hk hk0 n⟩, by simp⟩
theorem run_make_rowN {P : Program} (t e : TypeId) (i : TypeInfo) (z : Value) (ht : P.underlying t = some (.slice e)) (hi : P.info? e = some i) (hz : i.zero = some z)
    (kl kc : IntKind) (n c : Nat) (hnc : n ≤ c) (hbytes : i.bytes * c ≤ 281474976710656) (h63 : c ≤ 9223372036854775807) (w : World) :
    (Instr.makeSlice t (.int kl (n : Int)) (.int kc (c : Int))).run P w = .ok (.slice (some ⟨w.heap.size, 0, none⟩) n c) (w.alloc (.cells (madeCells z.cells (c * i.size)) e)) := by
  have hb : (i.bytes : Int) * (c : Int) ≤ 281474976710656 := by
    have h : ((i.bytes * c : Nat) : Int) ≤ 281474976710656 := by omega
    rwa [Int.natCast_mul] at h
  have hr := run_make (P := P) w t e i z ht hi hz kl kc n c (by omega) (by omega) hb (by omega)
  simp only [Int.toNat_natCast] at hr
  exact hr
theorem row_info : (Tryz.prog.info? 89).map (fun i => (i.zero, i.size, i.bytes)) = some (some (.agg #[.int .u64 0, .int .u64 0]), 2, 16) := by kernel_rfl
/-- make([]row, n). -/
theorem make_rows (n : Nat) (hn : n ≤ 1000000) : ∀ w : World, (Instr.makeSlice 84 (.int .i64 (n : Int)) (.int .i64 (n : Int))).run Tryz.prog w = .ok (.slice (some ⟨w.heap.size, 0, none⟩) n n) (w.alloc (.cells (madeCells (rwC rw0).toArray (n * 2)) 89)) := by
  intro w
  obtain ⟨i0, hi, hz0, hz1, hz2⟩ := info_parts row_info
  have := run_make_rowN (P := Tryz.prog) 84 89 i0 _ Tryz.underlying84 hi hz0 .i64 .i64 n n (Nat.le_refl _) (by rw [hz2]; omega) (by omega) w
  rw [hz1] at this
  exact this
end Go.Proofs.YtppccacfdpkkgaaGreatDoor
