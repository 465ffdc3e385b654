/-
  CONTRACTS: the reference's Splice.
-/
import Derived.Test.YtppccacfdpkkgaaGreatDoorK43
import Derived.Test.YtppccacfdpkkgaaGreatDoorK26
import Derived.Deep.CutRange
import Derived.Lib.AppendZeros
import Derived.BigRegion
import Derived.Shelf.RegionOpenPlain
namespace Go.Proofs.YtppccacfdpkkgaaGreatDoor
open Go.RowKit Go.Shelf
/-- Slices of numbers, one for each row. -/
structure Al (W : World) (vs : List Value) (ls : List (List Int)) : Prop where
  len : vs.length = ls.length
  row : ∀ i (h : i < vs.length) (h' : i < ls.length), ARd W vs[i] 1 (ls[i].map iC)
theorem Al.later {W W' : World} {vs : List Value} {ls : List (List Int)} (h : Al W vs ls) (hb : Below W.heap.size W W') : Al W' vs ls := ⟨h.len, fun i h1 h2 => (h.row i h1 h2).later hb⟩
theorem Al.append {W : World} {a b : List Value} {x y : List (List Int)} (h : Al W a x) (h' : Al W b y) : Al W (a ++ b) (x ++ y) := by
  refine ⟨by rw [List.length_append, List.length_append, h.len, h'.len], fun i h1 h2 => ?_⟩
  by_cases c : i < a.length
  · rw [List.getElem_append_left c, List.getElem_append_left (by rw [← h.len]; exact c)]
    exact h.row i c _
  · have e1 : a.length ≤ i := by omega
    rw [List.getElem_append_right e1, List.getElem_append_right (by rw [← h.len]; exact e1)]
    simp only [h.len]
    rw [List.length_append] at h1
    exact h'.row (i - x.length) (by rw [← h.len]; omega) (by rw [← h'.len, ← h.len]; omega)
theorem Al.take {W : World} {a : List Value} {x : List (List Int)} (h : Al W a x) (k : Nat) : Al W (a.take k) (x.take k) := by
  refine ⟨by rw [List.length_take, List.length_take, h.len], fun i h1 h2 => ?_⟩
  rw [List.getElem_take, List.getElem_take]
  exact h.row i _ _
theorem Al.drop {W : World} {a : List Value} {x : List (List Int)} (h : Al W a x) (k : Nat) : Al W (a.drop k) (x.drop k) := by
  refine ⟨by rw [List.length_drop, List.length_drop, h.len], fun i h1 h2 => ?_⟩
  rw [List.getElem_drop, List.getElem_drop]
  exact h.row (k + i) _ _
def flR (R : Ro) (f : Nat → Value) : List Value := (List.range R.rows.length).map f
theorem flR_len (R : Ro) (f : Nat → Value) : (flR R f).length = R.rows.length := by simp [flR]
theorem Al.of {W : World} {v : Value} {f : Nat → Value} {R : Ro} (h : RoRd W v f R) : Al W (flR R f) R.rows := by
  refine ⟨flR_len R f, fun i h1 h2 => ?_⟩
  simp only [flR, List.getElem_map, List.getElem_range]
  exact h.l i h2
theorem Al.one {W : World} {vs : List Value} {ls : List (List Int)} (h : Al W vs ls) : ∀ u ∈ vs, u.oneCell' = true := fun u hu => by
  obtain ⟨i, hi, rfl⟩ := List.getElem_of_mem hu
  obtain ⟨a, c, e⟩ := (h.row i hi (by rw [← h.len]; exact hi)).form
  rw [e]
  rfl
theorem flR_rows {R : Ro} {f : Nat → Value} : (R.rows.mapIdx fun i _ => [f i]) = (flR R f).map vC := by
  apply List.ext_getElem
  · simp [flR]
  · intro i h1 h2
    simp [flR, vC]
theorem al_rd {W : World} {base : Nat} {V : Value} {vs : List Value} {R' : Ro} (h : Al W vs R'.rows) (hV : W.ownsRow base 74 1 V vs.length vs) : RoRd W V (fun i => vs.getD i (.slice none 0 0)) R' := by
  have hrows : (R'.rows.mapIdx fun i _ => [vs.getD i (.slice none 0 0)]) = vs.map vC := by
    apply List.ext_getElem
    · simp [h.len]
    · intro i h1 h2
      rw [List.length_map] at h2
      simp [vC, List.getElem?_eq_getElem h2]
  refine ⟨?_, fun i hi => ?_⟩
  · rw [hrows]
    refine ARd.of_row (base := base) (t := 74) (fun r hr => ?_) ?_
    · obtain ⟨p, _, rfl⟩ := List.mem_map.1 hr; rfl
    · rw [List.length_map, show (vs.map vC).flatten = vs from flat_one vs]
      exact hV
  · have hi2 : i < vs.length := by rw [h.len]; exact hi
    rw [getD_at hi2]
    exact h.row i hi2 hi
theorem ard_take {W : World} {a : Option Addr} {n c : Nat} {vs : List Value} (h : ARd W (.slice a n c) 1 (vs.map vC)) {k : Nat} (hk : k ≤ vs.length) (c' : Nat) : ARd W (.slice a k c') 1 ((vs.take k).map vC) := by
  obtain ⟨a2, c2, e, hc⟩ := h
  cases e
  refine ⟨a, c', by rw [List.length_map, List.length_take, Nat.min_eq_left hk], fun i hi => ?_⟩
  rw [List.length_map, List.length_take] at hi
  obtain ⟨b, o, e, hb, hr⟩ := hc i (by rw [List.length_map]; omega)
  refine ⟨b, o, e, hb, fun j u hj => hr j u ?_⟩
  rw [List.getElem_map] at hj ⊢
  rwa [List.getElem_take] at hj
theorem ard_drop {W : World} {a : Option Addr} {n c : Nat} {vs : List Value} (h : ARd W (.slice a n c) 1 (vs.map vC)) (k : Nat) (c' : Nat) : ARd W (.slice (a.map (·.add k)) (vs.length - k) c') 1 ((vs.drop k).map vC) := by
  obtain ⟨a2, c2, e, hc⟩ := h
  cases e
  refine ⟨a.map (·.add k), c', by rw [List.length_map, List.length_drop], fun i hi => ?_⟩
  rw [List.length_map, List.length_drop] at hi
  obtain ⟨b, o, e, hb, hr⟩ := hc (k + i) (by rw [List.length_map]; omega)
  refine ⟨b, o + k, by rw [e]; simp [Addr.add], hb, fun j u hj => ?_⟩
  rw [List.getElem_map, List.getElem_drop] at hj
  have := hr j u (by rw [List.getElem_map]; exact hj)
  rw [show o + k + i * 1 + j = o + (k + i) * 1 + j by omega]
  exact this
/-- A slice that is read is appended to a row. -/
theorem append_ard (W : World) (base : Nat) (V : Value) (xs : List Value) (hown : W.ownsRow base 74 1 V xs.length xs) (v : Value) (vs : List Value) (h1 : ∀ u ∈ vs, u.oneCell' = true) (hv : ARd W v 1 (vs.map vC)) (hl : xs.length + vs.length ≤ 40000) (hb : base ≤ W.heap.size) :
    ∃ V' w', (Builtin.append_ #[34, 34] 34 #[V, v]).run Tryz.prog W = .ok V' w' ∧ w'.ownsRow base 74 1 V' (xs ++ vs).length (xs ++ vs) ∧ W.grownBy w' V.ownBlock := by
  obtain ⟨j0, hj0, jz0, jz1, jz2⟩ := info_parts ints_info
  obtain ⟨a, c, rfl, hc⟩ := hv
  have hc2 : ∀ i (hi : i < vs.length), ∃ b o, a = some ⟨b, o, none⟩ ∧ b < W.heap.size ∧ W.cell? ⟨b, o + i, none⟩ = some vs[i] := fun i hi => by
    obtain ⟨b, o, e, hlt, hr⟩ := hc i (by rw [List.length_map]; exact hi)
    have := hr 0 vs[i] (by rw [List.getElem_map]; rfl)
    rw [Nat.mul_one, Nat.add_zero] at this
    exact ⟨b, o, e, hlt, this⟩
  clear hc
  rw [List.length_map, List.length_append]
  have key : ∀ ad, a = some ad → (∀ j u, vs[j]? = some u → W.cell? (ad.add j) = some u) → ∃ V' w', (Builtin.append_ #[34, 34] 34 #[V, .slice a vs.length c]).run Tryz.prog W = .ok V' w' ∧ w'.ownsRow base 74 1 V' (xs.length + vs.length) (xs ++ vs) ∧ W.grownBy w' V.ownBlock := by
    rintro ad rfl hcell
    obtain ⟨V', w', h2, h3, h4, _⟩ := run_append_own (P := Tryz.prog) W base 34 34 74 j0 _ 1 24 Tryz.underlying34 hj0 jz0 jz1 jz2 rfl (by omega) V xs.length xs hown ad vs.length c vs (by omega) hcell h1 (by unfold maxLen; omega) (by omega) hb
    exact ⟨V', w', h2, h3, h4⟩
  rcases Nat.eq_zero_or_pos vs.length with h0 | h0
  · have e : vs = [] := List.length_eq_zero_iff.1 h0
    cases a with
    | some ad => exact key ad rfl (fun j u hj => by rw [e] at hj; cases hj)
    | none =>
      subst e
      refine ⟨V, W, ?_, by simpa using hown, World.grownBy.refl _ _⟩
      rcases hown.2 with ⟨rfl, _⟩ | ⟨g, cap, cur, rfl, _, _, hcap, _⟩
      · simp [Builtin.append_, run_underlying Tryz.underlying34, sizeOf, typeInfo, hj0, Builtin.lenOf, Builtin.firstCells]
      · simp [Builtin.append_, run_underlying Tryz.underlying34, sizeOf, typeInfo, hj0, Builtin.lenOf, Builtin.firstCells, hcap, storeCells]
  · obtain ⟨b, o, rfl, _, _⟩ := hc2 0 h0
    refine key _ rfl fun j u hj => ?_
    obtain ⟨hj2, rfl⟩ := List.getElem?_eq_some_iff.1 hj
    obtain ⟨b2, o2, e2, _, hr⟩ := hc2 j hj2
    cases e2
    rw [Addr.add_lit]
    exact hr
/-- A box whose field holds the rows so far. -/
structure SpX (W0 : World) (X : Nat) (tr : Int) (V : Value) (vs : List Value) (W : World) : Prop where
  x : Blk W X 36 #[.int .i64 tr, V]
  row : W.ownsRow W0.heap.size 74 1 V vs.length vs
  b : Below W0.heap.size W0 W
  xb : W0.heap.size ≤ X
theorem SpX.low {W0 W W' : World} {X : Nat} {tr : Int} {V : Value} {vs : List Value} (h : SpX W0 X tr V vs W) (hb : Below W.heap.size W W') : SpX W0 X tr V vs W' := ⟨h.x.below hb, row_later h.row hb, below_step h.b hb, h.xb⟩
/-- Rows are appended to its field. -/
theorem SpX.push {W0 W w' : World} {X : Nat} {tr : Int} {V V' : Value} {vs us : List Value} (h : SpX W0 X tr V vs W) (hrow : w'.ownsRow W0.heap.size 74 1 V' (vs ++ us).length (vs ++ us)) (hg : W.grownBy w' V.ownBlock) :
    w'.cell? ⟨X, 1, none⟩ = some V ∧ w'.frozen? ⟨X, 1, none⟩ = false ∧ RowKit.Hid (SpX W0 X tr V' (vs ++ us) (w'.setCell ⟨X, 1, none⟩ V')) := by
  have hp : Blk w' X 36 #[.int .i64 tr, V] := h.x.grown hg (blk_ne_row h.x h.row (by decide))
  have hb' : Below W0.heap.size W0 w' := h.b.grown hg h.b.size (fun j e => row_ge h.row e)
  refine ⟨hp.cell 1, hp.frozen 1, Lib.hid ⟨hp.set 1 V', ?_, ?_, h.xb⟩⟩
  · exact hrow.kept (set_grown w' X 1 V') (.inr (blk_ne_row hp hrow (by decide)))
  · exact hb'.grown (set_grown w' X 1 V') hb'.size (fun j e => by cases e; exact h.xb)
theorem step_appendK {P : Program} {ops : Array Oper} {o : Oper} {a : Act} {w : World} {K : Act → World → Prop} {Q : Exit → Act → World → Prop} {E : Prop}
    (hg : o.guard = none) (d x : Operand) (dT sT : TypeId) (hop : o.op = Op.call { callee := Callee.builtin Builtin.append, args := #[d, x], argTypes := #[dT, sT] })
    (v u : Value) (hd : a.eval d = v) (hx : a.eval x = u) {v' : Value} {w' : World} (hr : (Builtin.append_ #[dT, sT] o.type #[v, u]).run P w = .ok v' w') (hK : K (a.put o.dst v') w') :
    if Region.wanted o (yielded ops a.tmps) = true then Oper.wp P o a w K Q else E := by
  have hw : Region.wanted o (yielded ops a.tmps) = true := by simp [Region.wanted, hg]
  rw [if_pos hw]
  unfold Oper.wp
  simp [execOp, hop, resolve, invoke, builtin, hd, hx, hr, Result.andThen]
  exact hK
end Go.Proofs.YtppccacfdpkkgaaGreatDoor
