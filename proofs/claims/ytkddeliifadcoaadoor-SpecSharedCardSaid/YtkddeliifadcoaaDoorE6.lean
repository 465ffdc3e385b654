/-
  CONTRACTS: before; the sort of pipes. CONTRACTS: Compact of pipes. CONTRACTS: Compact of pipes: the walk.
-/
import Derived.Test.YtkddeliifadcoaaDoorRow
import Derived.Test.YtkddeliifadcoaaDoorSortR
import Derived.Test.YtkddeliifadcoaaDoorShelfS
import Derived.Laws.IdiomCopy
import Derived.Maps.AppendAt
import Derived.Deep.QuietTactic
import Derived.BigQuiet
namespace Go.Proofs.YtkddeliifadcoaaDoor
open Go.RowKit
/-- A pipe whose numbers are small. -/
def Sm (p : Pp) : Prop := -100000 ≤ p.1 ∧ p.1 ≤ 100000 ∧ -100000 ≤ p.2 ∧ p.2 ≤ 100000
abbrev SPp := {p : Pp // Sm p}
theorem sm0 : Sm (0, 0) := by unfold Sm; simp only; omega
instance : Inhabited SPp := ⟨⟨(0, 0), sm0⟩⟩
instance (a b : Pp) : Decidable (ppLt a b) := by unfold ppLt; infer_instance
def bef (a b : Pp) : Int := if a.1 = b.1 then a.2 - b.2 else a.1 - b.1
set_option maxHeartbeats 1000000 in
theorem before_any (a b : Pp) (ha : Sm a) (hb : Sm b) (W : World) : Calls Tryd.prog 37 #[.agg #[.int .i64 a.1, .int .i64 a.2], .agg #[.int .i64 b.1, .int .i64 b.2]] W fun e w' => e = .returned (.int .i64 (bef a b)) ∧ ∃ q os', w' = Sort.grow (W.drewN q) os' := by
  obtain ⟨a1, a2⟩ := a
  obtain ⟨b1, b2⟩ := b
  obtain ⟨h1, h2, h3, h4⟩ := ha
  obtain ⟨k1, k2, k3, k4⟩ := hb
  simp only at *
  by_cases h : a1 = b1
  · have HB := Lib.hid (show bef (a1, a2) (b1, b2) = a2 - b2 from if_pos h)
    subst h
    go_enter Tryd.func37, Tryd.ntmps37
    go_wp2
    go_ret
    exact ⟨by rw [HB.out]; rfl, 0, _, by rw [Sort.alloc_eq_grow, Sort.alloc_eq_grow, Sort.grow_grow]; rfl⟩
  · have HB := Lib.hid (show bef (a1, a2) (b1, b2) = a1 - b1 from if_neg h)
    have b1' : (a1 == b1) = false := beq_eq_false_iff_ne.2 h
    go_enter Tryd.func37, Tryd.ntmps37
    go_wp2
    go_ret
    exact ⟨by rw [HB.out]; rfl, 0, _, by rw [Sort.alloc_eq_grow, Sort.alloc_eq_grow, Sort.grow_grow]; rfl⟩
def encP (x : SPp) : List Value := ppC x.1
def cfP (x y : SPp) : Int := bef x.1 y.1
theorem ltP (x y : SPp) : ltOf cfP x y = decide (ppLt x.1 y.1) := by
  rw [Bool.eq_iff_iff, decide_eq_true_iff]
  unfold ltOf cfP bef ppLt
  rw [decide_eq_true_iff]
  by_cases h : x.1.1 = y.1.1
  · rw [if_pos h]; omega
  · rw [if_neg h]; omega
theorem swoP : Sort.SWO (ltOf cfP) where
  irrefl x := by rw [ltP]; simpa using ppLt_irrefl x.1
  trans x y z h1 h2 := by rw [ltP] at *; simp only [decide_eq_true_eq] at *; exact ppLt_trans h1 h2
  ntrans x y z h1 h2 := by
    rw [ltP] at *
    simp only [decide_eq_false_iff_not] at *
    intro h
    rcases ppLt_total x.1 y.1 with k | k | k
    · exact h1 k
    · rw [k] at h; exact h2 h
    · exact h2 (ppLt_trans k h)
theorem totP (x y : SPp) (h1 : ltOf cfP x y = false) (h2 : ltOf cfP y x = false) : x = y := by
  rw [ltP] at *
  simp only [decide_eq_false_iff_not] at *
  rcases ppLt_total x.1 y.1 with k | k | k
  · exact absurd k h1
  · exact Subtype.ext k
  · exact absurd k h2
theorem sub_list {l : List Pp} (h : ∀ p ∈ l, Sm p) : ∃ d : Array SPp, d.toList.map (·.1) = l := by
  refine ⟨(l.attach.map fun x => (⟨x.1, h x.1 x.2⟩ : SPp)).toArray, ?_⟩
  simp only [List.map_map, Function.comp_def]
  exact List.attach_map_subtype_val l
theorem enc_list (d : Array SPp) : (d.toList.map encP).flatten = ppCs (d.toList.map (·.1)) := by
  unfold ppCs
  rw [List.map_map]
  rfl
set_option maxHeartbeats 1000000 in
/-- The sort of pipes. -/
theorem sortP_any (l : List Pp) (hl : ∀ p ∈ l, Sm p) (hn : l.length ≤ 100000) (base : Nat) (v : Value) (w : World) (h : w.ownsRow base 46 2 v l.length (ppCs l)) :
    Calls Tryd.prog 36 #[v, .func (.func 37) #[] #[]] w fun e w' => e = .returned (.tuple #[]) ∧ ∃ m : List Pp, m.Perm l ∧ m.Pairwise ppLe ∧ w'.ownsRow base 46 2 v m.length (ppCs m) ∧ w.grownBy w' v.ownBlock := by
  rcases h.2 with ⟨hv, h0⟩ | ⟨g, cap, cur, hv, hbg, hg, hrest⟩
  · have hl0 : l = [] := List.length_eq_zero_iff.1 h0
    subst hl0
    have hcon := AnyF.slices_SortFunc_none Tryd.sortPp none 0 (.func (.func 37) #[] #[]) w
    rw [← hv] at hcon
    change Calls Tryd.prog 36 _ _ _ at hcon
    refine hcon.mono ?_
    rintro e w' ⟨rfl, rfl⟩
    exact ⟨rfl, [], List.Perm.refl _, List.Pairwise.nil, h, World.grownBy.refl _ _⟩
  · obtain ⟨d, hd⟩ := sub_list hl
    have hsz : d.size = l.length := by rw [← hd, List.length_map, Array.length_toList]
    have eg : ∀ args w, (callFunc 37 args).run Tryd.prog w = .ok (.enter 37 args) w := enters_of Tryd.func37 (by kernel_rfl) rfl
    have h' := h
    rw [hv, ← hd, ← enc_list] at h'
    rw [List.length_map, Array.length_toList] at h'
    have hH := holdsK_row (enc := encP) (k := 2) (fun _ => rfl) h'
    have hcon := AnyQ.slices_SortFunc_total Tryd.sortPp 2 Tryd.isAgg46 Tryd.sizeOf46 encP (fun _ => rfl) (fun x v hv => by simp [encP, ppC] at hv; rcases hv with rfl | rfl <;> rfl) cfP swoP 37 #[] g 0 cap d w eg (fun _ _ _ _ x y => before_any x.1 y.1 x.2 y.2 _) hH.1 hH.2 (by omega) totP
    rw [hsz, ← hv] at hcon
    change Calls Tryd.prog 36 _ _ _ at hcon
    refine hcon.mono ?_
    rintro e w' ⟨rfl, n, os, rfl⟩
    have hpm := List.mergeSort_perm d.toList fun x y => !(ltOf cfP) y x
    have hsz2 : ((d.toList.mergeSort fun x y => !(ltOf cfP) y x).toArray).size = d.size := by simp
    refine ⟨rfl, (d.toList.mergeSort fun x y => !(ltOf cfP) y x).map (·.1), ?_, ?_, ?_, ?_⟩
    · rw [← hd]; exact hpm.map _
    · rw [List.pairwise_map]
      refine List.Pairwise.imp ?_ (List.pairwise_mergeSort (le := fun x y => !(ltOf cfP) y x) ?_ ?_ d.toList)
      · intro x y hxy
        rw [ltP] at hxy
        simpa [ppLe] using hxy
      · intro x y z h1 h2
        simp only [Bool.not_eq_true'] at *
        exact swoP.ntrans z y x h2 h1
      · intro x y
        simp only [Bool.or_eq_true, Bool.not_eq_true']
        rcases hxy : ltOf cfP y x with _ | _
        · exact .inl rfl
        · right
          cases hyx : ltOf cfP x y with
          | false => rfl
          | true => exact absurd (swoP.trans y x y hxy hyx) (by rw [swoP.irrefl]; simp)
    · have := sorted_row (enc := encP) (n := n) (os := os) (fun _ => rfl) hsz2 h'
      rw [enc_list] at this
      rw [hv]
      rw [← hsz]
      simpa [List.length_map] using this
    · rw [hv]; exact sorted_grown
theorem squeeze_snoc : ∀ (l : List Pp) (x y : Pp), squeeze (l ++ [x, y]) = if x = y then squeeze (l ++ [x]) else squeeze (l ++ [x]) ++ [y]
  | [], x, y => by by_cases h : x = y <;> simp [squeeze, h]
  | [a], x, y => by
    by_cases h : x = y <;> by_cases k : a = x <;> simp_all [squeeze]
  | a :: b :: l, x, y => by
    have ih := squeeze_snoc (b :: l) x y
    rw [List.cons_append, List.cons_append] at ih
    rw [List.cons_append, List.cons_append, List.cons_append, List.cons_append, squeeze, ih, squeeze]
    by_cases h : x = y <;> by_cases k : a = b <;> simp [h, k]
theorem take_two {l : List Pp} {j : Nat} (h0 : 0 < j) (h : j < l.length) : l.take (j + 1) = l.take (j - 1) ++ [l[j - 1], l[j]] := by
  obtain ⟨i, rfl⟩ : ∃ i, j = i + 1 := ⟨j - 1, by omega⟩
  rw [List.take_succ_eq_append_getElem h, List.take_succ_eq_append_getElem (show i < l.length by omega), List.append_assoc]
  rfl
theorem take_one {l : List Pp} {j : Nat} (h0 : 0 < j) (h : j < l.length) : l.take j = l.take (j - 1) ++ [l[j - 1]] := by
  obtain ⟨i, rfl⟩ : ∃ i, j = i + 1 := ⟨j - 1, by omega⟩
  rw [List.take_succ_eq_append_getElem (show i < l.length by omega)]
  simp
theorem squeeze_same {l : List Pp} {j : Nat} (h0 : 0 < j) (h : j < l.length) (he : l[j] = l[j - 1]) : squeeze (l.take (j + 1)) = squeeze (l.take j) := by
  rw [take_two h0 h, squeeze_snoc, if_pos he.symm, ← take_one h0 h]
theorem squeeze_other {l : List Pp} {j : Nat} (h0 : 0 < j) (h : j < l.length) (he : ¬ l[j] = l[j - 1]) : squeeze (l.take (j + 1)) = squeeze (l.take j) ++ [l[j]] := by
  rw [take_two h0 h, squeeze_snoc, if_neg (fun e => he e.symm), ← take_one h0 h]
/-- Between two rounds of the inner loop: behind j, k pipes are kept. -/
structure CpInv (l : List Pp) (j k : Nat) (m : List Pp) : Prop where
  eq : m = squeeze (l.take j) ++ l.drop k
  len : (squeeze (l.take j)).length = k
  lt : k < j
  le : j ≤ l.length
theorem CpInv.length {l : List Pp} {j k : Nat} {m : List Pp} (h : CpInv l j k m) : m.length = l.length := by
  have := h.lt; have := h.le
  rw [h.eq, List.length_append, h.len, List.length_drop]
  omega
theorem CpInv.at {l : List Pp} {j k : Nat} {m : List Pp} (h : CpInv l j k m) {i : Nat} (hi : i < l.length) (hk : k ≤ i) : m[i]'(by rw [h.length]; exact hi) = l[i] := by
  have e : m[i]? = l[i]? := by
    rw [h.eq, List.getElem?_append_right (by rw [h.len]; exact hk), h.len, List.getElem?_drop]
    congr 1
    omega
  rw [List.getElem?_eq_getElem (by rw [h.length]; exact hi), List.getElem?_eq_getElem hi] at e
  exact Option.some.inj e
theorem CpInv.start {l : List Pp} {k : Nat} (h0 : 0 < k) (h : k < l.length) (hs : squeeze (l.take k) = l.take k) (he : l[k] = l[k - 1]) : CpInv l (k + 1) k l where
  eq := by rw [squeeze_same h0 h he, hs, List.take_append_drop]
  len := by rw [squeeze_same h0 h he, hs, List.length_take]; omega
  lt := by omega
  le := h
theorem CpInv.skip {l : List Pp} {j k : Nat} {m : List Pp} (h : CpInv l j k m) (hj : j < l.length) (he : l[j] = l[j - 1]) : CpInv l (j + 1) k m where
  eq := by rw [squeeze_same (by have := h.lt; omega) hj he]; exact h.eq
  len := by rw [squeeze_same (by have := h.lt; omega) hj he]; exact h.len
  lt := by have := h.lt; omega
  le := hj
theorem CpInv.keep {l : List Pp} {j k : Nat} {m : List Pp} (h : CpInv l j k m) (hj : j < l.length) (he : ¬ l[j] = l[j - 1]) : CpInv l (j + 1) (k + 1) (m.set k l[j]) where
  eq := by
    have hk : k < l.length := by have := h.lt; omega
    rw [squeeze_other (by have := h.lt; omega) hj he, h.eq, List.set_append_right _ _ (by rw [h.len]; exact Nat.le_refl k), h.len, Nat.sub_self, List.append_assoc, List.drop_eq_getElem_cons hk]
    rfl
  len := by rw [squeeze_other (by have := h.lt; omega) hj he, List.length_append, h.len]; rfl
  lt := by have := h.lt; omega
  le := hj
/-- A list of pipes in a block. -/
structure PpB (W : World) (g cap : Nat) (m : List Pp) : Prop where
  cur : ∃ cur, Blk W g 46 cur ∧ cur.size = cap * 2 ∧ cur.toList.take (m.length * 2) = ppCs m
  le : m.length ≤ cap
theorem ppCs_len (l : List Pp) : (ppCs l).length = l.length * 2 := by
  have := flat_len (k := 2) (l.map ppC) (by intro r hr; obtain ⟨p, _, rfl⟩ := List.mem_map.1 hr; rfl)
  rwa [List.length_map] at this
theorem ppCs_get {l : List Pp} {i : Nat} (h : i < l.length) : (ppCs l)[i * 2]? = some (.int .i64 l[i].1) ∧ (ppCs l)[i * 2 + 1]? = some (.int .i64 l[i].2) := by
  have hk : ∀ r ∈ l.map ppC, r.length = 2 := by intro r hr; obtain ⟨p, _, rfl⟩ := List.mem_map.1 hr; rfl
  have h0 := flat_get (l.map ppC) hk i (by simpa using h) 0 (by omega)
  have h1 := flat_get (l.map ppC) hk i (by simpa using h) 1 (by omega)
  rw [List.getElem_map] at h0 h1
  exact ⟨h0, h1⟩
theorem ppCs_set {l : List Pp} {i : Nat} (h : i < l.length) (p : Pp) : ((ppCs l).set (i * 2) (.int .i64 p.1)).set (i * 2 + 1) (.int .i64 p.2) = ppCs (l.set i p) := by
  induction l generalizing i with
  | nil => simp at h
  | cons a l ih =>
    cases i with
    | zero => simp [ppCs, ppC]
    | succ i =>
      have := ih (i := i) (by simpa using h)
      rw [show (i + 1) * 2 = i * 2 + 2 by omega]
      simpa [ppCs, ppC] using this
theorem PpB.of_row {W : World} {base g n cap : Nat} {l : List Pp} (h : W.ownsRow base 46 2 (.slice (some ⟨g, 0, none⟩) n cap) l.length (ppCs l)) : PpB W g cap l ∧ base ≤ g ∧ cap ≤ maxLen ∧ n = l.length := by
  obtain ⟨hl, ⟨e, _⟩ | ⟨g', cap', cur, e, hb, hg, hn, hc, hz, hx⟩⟩ := h
  · cases e
  · cases e
    exact ⟨⟨⟨cur, hg, hz, hx⟩, hn⟩, hb, hc, rfl⟩
theorem PpB.row {W : World} {base g cap : Nat} {l : List Pp} (h : PpB W g cap l) (hb : base ≤ g) (hc : cap ≤ maxLen) : W.ownsRow base 46 2 (.slice (some ⟨g, 0, none⟩) l.length cap) l.length (ppCs l) := by
  obtain ⟨⟨cur, hg, hz, hx⟩, hn⟩ := h
  exact ⟨ppCs_len l, .inr ⟨g, cap, cur, rfl, hb, hg, hn, hc, hz, hx⟩⟩
theorem PpB.cell {W : World} {g cap : Nat} {l : List Pp} (h : PpB W g cap l) {i : Nat} (hi : i < l.length) : W.cell? ⟨g, i * 2, none⟩ = some (.int .i64 l[i].1) ∧ W.cell? ⟨g, i * 2 + 1, none⟩ = some (.int .i64 l[i].2) ∧ W.frozen? ⟨g, i * 2, none⟩ = false ∧ W.frozen? ⟨g, i * 2 + 1, none⟩ = false := by
  obtain ⟨⟨cur, hg, hz, hx⟩, hn⟩ := h
  obtain ⟨e0, e1⟩ := ppCs_get hi
  rw [← hx, List.getElem?_take, if_pos (by omega), Array.getElem?_toList] at e0 e1
  exact ⟨(hg.cell _).trans e0, (hg.cell _).trans e1, hg.frozen _, hg.frozen _⟩
theorem PpB.drewN {W : World} {g cap : Nat} {l : List Pp} (h : PpB W g cap l) (n : Nat) : PpB (W.drewN n) g cap l := ⟨h.cur, h.le⟩
theorem PpB.set {W : World} {g cap : Nat} {l : List Pp} (h : PpB W g cap l) {i : Nat} (hi : i < l.length) (p : Pp) : PpB ((W.setCell ⟨g, i * 2, none⟩ (.int .i64 p.1)).setCell ⟨g, i * 2 + 1, none⟩ (.int .i64 p.2)) g cap (l.set i p) := by
  obtain ⟨⟨cur, hg, hz, hx⟩, hn⟩ := h
  refine ⟨⟨_, (hg.set _ _).set _ _, by simpa using hz, ?_⟩, by simpa using hn⟩
  rw [List.length_set, ← ppCs_set hi, ← hx]
  simp only [Array.toList_setIfInBounds, List.take_set]
theorem grown_two (W : World) (g i : Nat) (a b : Value) : W.grownBy ((W.setCell ⟨g, i, none⟩ a).setCell ⟨g, i + 1, none⟩ b) (some g) := by
  have h : ∀ (W : World) (i : Nat) (v : Value), W.grownBy (W.setCell ⟨g, i, none⟩ v) (some g) := fun W i v =>
    ⟨rfl, rfl, rfl, by simp [World.setCell], fun k _ hne => (Below.heap_setCell W ⟨g, i, none⟩ v k (fun e => hne (by rw [e])))⟩
  exact (h W i a).trans (h _ (i + 1) b)
theorem grown_cells (g : Nat) : ∀ (vs : List Value) (o : Nat) (W : World), W.grownBy (W.setCells g o vs) (some g)
  | [], _, W => World.grownBy.refl W _
  | v :: r, o, W => by
    have h : W.grownBy (W.setCell ⟨g, o, none⟩ v) (some g) :=
      ⟨rfl, rfl, rfl, by simp [World.setCell], fun k _ hne => (Below.heap_setCell W ⟨g, o, none⟩ v k (fun e => hne (by rw [e])))⟩
    exact h.trans (grown_cells g r (o + 1) _)
theorem blk_cells {t : TypeId} {g : Nat} : ∀ (vs : List Value) (o : Nat) (W : World) (cur : Array Value), Blk W g t cur → ∃ c2, Blk (W.setCells g o vs) g t c2 ∧ c2.size = cur.size ∧ ∀ q, q ≤ o → c2.toList.take q = cur.toList.take q
  | [], _, _, cur, h => ⟨cur, h, rfl, fun _ _ => rfl⟩
  | v :: r, o, W, cur, h => by
    obtain ⟨c2, h1, h2, h3⟩ := blk_cells r (o + 1) _ _ (h.set o v)
    refine ⟨c2, h1, by simpa using h2, fun q hq => ?_⟩
    rw [h3 q (by omega), Array.toList_setIfInBounds, List.take_set_of_le hq]
theorem PpB.cut {W : World} {g cap k : Nat} {l : List Pp} (h : PpB W g cap l) (hk : k ≤ l.length) (vs : List Value) : PpB (W.setCells g (k * 2) vs) g cap (l.take k) := by
  obtain ⟨⟨cur, hg, hz, hx⟩, hn⟩ := h
  obtain ⟨c2, h1, h2, h3⟩ := blk_cells vs (k * 2) W cur hg
  refine ⟨⟨c2, h1, by rw [h2, hz], ?_⟩, by rw [List.length_take]; omega⟩
  rw [List.length_take, Nat.min_eq_left hk, h3 _ (Nat.le_refl _)]
  have e : (ppCs l).take (k * 2) = ppCs (l.take k) := by
    have : l = l.take k ++ l.drop k := (List.take_append_drop k l).symm
    have e2 : ppCs l = ppCs (l.take k) ++ ppCs (l.drop k) := by
      conv => lhs; rw [this]
      unfold ppCs
      rw [List.map_append, List.flatten_append]
    rw [e2, List.take_append_of_le_length (by rw [ppCs_len, List.length_take]; omega), List.take_of_length_le (by rw [ppCs_len, List.length_take]; omega)]
  rw [← e, ← hx, List.take_take, Nat.min_eq_left (by omega)]
/-- 'clear' of elements of two cells. -/
theorem run_clear_pp (w : World) (ty : TypeId) (b o n c : Nat) (hn : 0 < n) (hc : ∀ j, j < n * 2 → (w.cell? ⟨b, o + j, none⟩).isSome = true) (hf : ∀ j, j < n * 2 → w.frozen? ⟨b, o + j, none⟩ = false) :
    (Builtin.clear_ #[37] ty #[.slice (some ⟨b, o, none⟩) n c]).run Tryd.prog w = .ok (.tuple #[]) (w.setCells b o (List.replicate (n * 2) (.int .i64 0))) := by
  have hzc : (Builtin.zeroCells (Value.agg #[.int .i64 0, .int .i64 0]).cells n).toList = List.replicate (n * 2) (.int .i64 0) := by
    simp [Builtin.zeroCells, Value.cells]
    apply List.ext_getElem
    · simp
    · intro i h1 h2
      simp
      have : i % 2 < 2 := Nat.mod_lt _ (by omega)
      rcases (show i % 2 = 0 ∨ i % 2 = 1 by omega) with e | e <;> simp [e]
  have hst := run_storeCells_cells (P := Tryd.prog) b o (List.replicate (n * 2) (.int .i64 0)) 0 w (by simpa using hc) (by simpa using hf) (by intro v hv'; rw [List.eq_of_mem_replicate hv']; rfl)
  simp only [Nat.add_zero] at hst
  obtain ⟨m, rfl⟩ : ∃ m, n = m + 1 := ⟨n - 1, by omega⟩
  simp [Builtin.clear_, run_underlying Tryd.underlying37, Tryd.zeroValue46, hzc, hst]
theorem run_eqPp (a b c d : Int) (w : World) : (binOp .eql 46 (.agg #[.int .i64 a, .int .i64 b]) (.agg #[.int .i64 c, .int .i64 d])).run Tryd.prog w = .ok (.bool (a == c && b == d)) w := by
  rw [run_eql_struct]
  rw [run_equalIn_agg w 9999 46 _ _ (by kernel_rfl) (by kernel_rfl)]
  simp only [Program.fieldsOf, Tryd.underlying46]
  simp [go_sem, Tryd.underlying3, part]
  by_cases h1 : a = c <;> by_cases h2 : b = d <;> simp [h1, h2]
theorem run_nePp (a b c d : Int) (w : World) : (binOp .neq 46 (.agg #[.int .i64 a, .int .i64 b]) (.agg #[.int .i64 c, .int .i64 d])).run Tryd.prog w = .ok (.bool (!(a == c && b == d))) w := by
  rw [run_neq_struct]
  rw [run_equalIn_agg w 9999 46 _ _ (by kernel_rfl) (by kernel_rfl)]
  simp only [Program.fieldsOf, Tryd.underlying46]
  simp [go_sem, Tryd.underlying3, part]
  by_cases h1 : a = c <;> by_cases h2 : b = d <;> simp [h1, h2]
theorem pp_eq (p q : Pp) : (p.1 == q.1 && p.2 == q.2) = decide (p = q) := by
  rw [Bool.eq_iff_iff]
  simp [Prod.ext_iff]
theorem eqPp {p q : Pp} {b : Bool} (h : decide (p = q) = b) (w : World) : (binOp .eql 46 (.agg #[.int .i64 p.1, .int .i64 p.2]) (.agg #[.int .i64 q.1, .int .i64 q.2])).run Tryd.prog w = .ok (.bool b) w := by rw [run_eqPp, pp_eq, h]
theorem nePp {p q : Pp} {b : Bool} (h : decide (p = q) = b) (w : World) : (binOp .neq 46 (.agg #[.int .i64 p.1, .int .i64 p.2]) (.agg #[.int .i64 q.1, .int .i64 q.2])).run Tryd.prog w = .ok (.bool (!b)) w := by rw [run_nePp, pp_eq, h]
theorem squeeze_short {l : List Pp} (h : l.length < 2) : squeeze l = l := by
  match l, h with
  | [], _ => rfl
  | [a], _ => rfl
/-- How Compact ends. -/
def CoEnds (l : List Pp) (base : Nat) (v : Value) (w : World) (e : Ending) (w' : World) : Prop := ∃ u, e = .returned u ∧ w'.ownsRow base 46 2 u (squeeze l).length (ppCs (squeeze l)) ∧ w.grownBy w' v.ownBlock
theorem coEnds_some {l : List Pp} {base : Nat} {v u : Value} {w w' : World} (ho : w'.ownsRow base 46 2 u (squeeze l).length (ppCs (squeeze l))) (hg : w.grownBy w' v.ownBlock) : CoEnds l base v w (.returned u) w' := ⟨u, rfl, ho, hg⟩
set_option maxRecDepth 100000 in
set_option maxHeartbeats 3200000 in
theorem compact_any (l : List Pp) (hn : l.length ≤ 100000) (base : Nat) (v : Value) (w : World) (h : w.ownsRow base 46 2 v l.length (ppCs l)) :
    Calls Tryd.prog 38 #[v] w (CoEnds l base v w) := by
  by_cases h2 : l.length < 2
  · have HS := Lib.hid (squeeze_short h2)
    have HO := Lib.hid h
    obtain ⟨a, c, hv⟩ : ∃ a c, v = .slice a l.length c := by
      rcases h.2 with ⟨e, e0⟩ | ⟨g, cap, cur, e, _⟩
      · exact ⟨none, 0, by rw [e, e0]⟩
      · exact ⟨_, _, e⟩
    subst hv
    clear h
    go_enter Tryd.func38, Tryd.ntmps38
    go_wp2
    go_ret
    exact coEnds_some (by rw [HS.out]; exact HO.out) (World.grownBy.refl _ _)
  · obtain ⟨g, cap, hv⟩ : ∃ g cap, v = .slice (some ⟨g, 0, none⟩) l.length cap := by
      rcases h.2 with ⟨_, e0⟩ | ⟨g, cap, cur, e, _⟩
      · omega
      · exact ⟨g, cap, e⟩
    subst hv
    obtain ⟨hb, hbg, hcap, _⟩ := PpB.of_row h
    have hle := hb.le
    have HB0 := Lib.hid hb
    have HS0 := Lib.hid (show squeeze (l.take 1) = l.take 1 from squeeze_short (by rw [List.length_take]; omega))
    have hrefl : RowKit.Hid (w.grownBy w (some g)) := Lib.hid (World.grownBy.refl w _)
    clear h hb
    go_enter Tryd.func38, Tryd.ntmps38
    go_wp2
    go_loopw [3] (fun x wr => ∃ k : Nat, 1 ≤ k ∧ k ≤ l.length ∧ x = .int .i64 k ∧ RowKit.Hid (squeeze (l.take k) = l.take k) ∧ RowKit.Hid (PpB wr g cap l) ∧ RowKit.Hid (w.grownBy wr (some g))) (fun x _ => l.length - (intOf x).toNat)
    case atStart => exact ⟨1, by omega, by omega, rfl, HS0, HB0, hrefl⟩
    clear HS0 HB0 hrefl
    obtain ⟨k, hk1, hk, rfl, hS, hB, hG⟩ := hrel
    by_cases hlt : k < l.length
    · obtain ⟨c0, c1, _, _⟩ := hB.out.cell hlt
      obtain ⟨d0, d1, _, _⟩ := hB.out.cell (show k - 1 < l.length by omega)
      have hki : (k : Int) < (l.length : Int) := by omega
      have ek : ((k : Int) - 1).toNat = k - 1 := by omega
      by_cases hdup : l[k] = l[k - 1]
      · have he := eqPp (decide_eq_true hdup)
        have HD := Lib.hid hdup
        clear hdup
        go_wp2_with fail
        go_quiet (fail)
        have hne : ¬ cap = k := by omega
        have HI0 := Lib.hid (CpInv.start (by omega) hlt hS.out HD.out)
        have HB1 := Lib.hid (hB.out.drewN nq)
        have HG1 : RowKit.Hid (w.grownBy (wr.drewN nq) (some g)) := Lib.hid ⟨hG.out.os, hG.out.tape, hG.out.output, hG.out.size, hG.out.block⟩
        clear c0 c1 d0 d1 hB hG hS he
        go_wp2
        go_loopw [3, 5] (fun x y wi => ∃ (kk k2 : Nat) (m : List Pp), x = .int .i64 kk ∧ y = .int .i64 k2 ∧ 1 ≤ k2 ∧ k + k2 ≤ l.length ∧ RowKit.Hid (CpInv l (k + k2) kk m) ∧ RowKit.Hid (PpB wi g cap m) ∧ RowKit.Hid (w.grownBy wi (some g))) (fun _ y _ => l.length - (intOf y).toNat)
        case atStart => exact ⟨k, 1, l, rfl, rfl, Nat.le_refl _, by omega, HI0, HB1, HG1⟩
        clear HI0 HB1 HG1
        obtain ⟨kk, k2, m, rfl, rfl, h1, hle2, hI, hB, hG⟩ := hrel
        have hkk := hI.out.lt
        have hml := hI.out.length
        by_cases hlt2 : k + k2 < l.length
        · obtain ⟨c0, c1, _, _⟩ := hB.out.cell (show k + k2 < m.length by omega)
          obtain ⟨d0, d1, _, _⟩ := hB.out.cell (show k + k2 - 1 < m.length by omega)
          obtain ⟨o0, o1, f0, f1⟩ := hB.out.cell (show kk < m.length by omega)
          rw [hI.out.at hlt2 (by omega), show (k + k2) * 2 = k * 2 + k2 * 2 by omega] at c0 c1
          rw [hI.out.at (show k + k2 - 1 < l.length by omega) (by omega), show (k + k2 - 1) * 2 = k * 2 + (k2 - 1) * 2 by omega] at d0 d1
          have hki2 : (k2 : Int) < (l.length : Int) - (k : Int) := by omega
          have hki3 : k2 < l.length - k := by omega
          have ek2 : ((k2 : Int) - 1).toNat = k2 - 1 := by omega
          by_cases huv : l[k + k2] = l[k + k2 - 1]
          · have he := nePp (decide_eq_true huv)
            have HU := Lib.hid huv
            clear huv
            go_wp2_with fail
            go_quiet (fail)
            go_wp2
            go_roundw
            case rel => exact ⟨kk, k2 + 1, m, rfl, by go_num, by omega, by omega, Lib.hid (hI.out.skip hlt2 HU.out), Lib.hid (hB.out.drewN _), Lib.hid ⟨hG.out.os, hG.out.tape, hG.out.output, hG.out.size, hG.out.block⟩⟩
            case measure => simp [intOf]; omega
          · have he := nePp (decide_eq_false huv)
            have HU := Lib.hid huv
            have hkl : kk < l.length := by omega
            have hkl2 : (kk : Int) < (l.length : Int) := by omega
            clear huv
            go_wp2_with fail
            go_quiet (fail)
            have HB2 := Lib.hid ((hB.out.drewN nq).set (show kk < m.length by omega) l[k + k2])
            have HG2 : RowKit.Hid (w.grownBy (((wr.drewN nq).setCell ⟨g, kk * 2, none⟩ (.int .i64 l[k + k2].1)).setCell ⟨g, kk * 2 + 1, none⟩ (.int .i64 l[k + k2].2)) (some g)) := Lib.hid (World.grownBy.trans (b := wr.drewN nq) ⟨hG.out.os, hG.out.tape, hG.out.output, hG.out.size, hG.out.block⟩ (grown_two _ _ _ _ _))
            go_wp2
            go_roundw
            case rel => exact ⟨kk + 1, k2 + 1, _, by go_num, by go_num, by omega, by omega, Lib.hid (hI.out.keep hlt2 HU.out), HB2, HG2⟩
            case measure => simp [intOf]; omega
        · have hend : k + k2 = l.length := by omega
          have hki2 : ¬ (k2 : Int) < (l.length : Int) - (k : Int) := by omega
          have hki3 : ¬ k2 < l.length - k := by omega
          have hne2 : ¬ cap = kk := by omega
          have hcl : ∀ ty, (Builtin.clear_ #[37] ty #[.slice (some ⟨g, kk * 2, none⟩) (l.length - kk) (cap - kk)]).run Tryd.prog wr = .ok (.tuple #[]) (wr.setCells g (kk * 2) (List.replicate ((l.length - kk) * 2) (.int .i64 0))) := fun ty => run_clear_pp wr ty g (kk * 2) (l.length - kk) (cap - kk) (by omega) (fun j hj => by
              have hj2 : j / 2 < l.length - kk := by omega
              obtain ⟨a0, a1, _, _⟩ := hB.out.cell (show kk + j / 2 < m.length by omega)
              rcases (show j % 2 = 0 ∨ j % 2 = 1 by omega) with e | e
              · rw [show kk * 2 + j = (kk + j / 2) * 2 by omega, a0]; rfl
              · rw [show kk * 2 + j = (kk + j / 2) * 2 + 1 by omega, a1]; rfl) (fun j hj => by
              obtain ⟨_, _, a0, a1⟩ := hB.out.cell (show kk + j / 2 < m.length by omega)
              rcases (show j % 2 = 0 ∨ j % 2 = 1 by omega) with e | e
              · rw [show kk * 2 + j = (kk + j / 2) * 2 by omega, a0]
              · rw [show kk * 2 + j = (kk + j / 2) * 2 + 1 by omega, a1])
          have HB2 := Lib.hid ((hB.out.cut (k := kk) (by omega) (List.replicate ((l.length - kk) * 2) (.int .i64 0))).row hbg hcap)
          have HG2 := Lib.hid (hG.out.trans (grown_cells g (List.replicate ((l.length - kk) * 2) (.int .i64 0)) (kk * 2) wr))
          have HQ : RowKit.Hid (m.take kk = squeeze l ∧ (squeeze l).length = kk) := by
            have e := hI.out.eq
            have e2 := hI.out.len
            rw [hend, List.take_length] at e e2
            exact Lib.hid ⟨by rw [e, List.take_append_of_le_length (by omega), List.take_of_length_le (by omega)], e2⟩
          rw [HQ.out.1, HQ.out.2] at HB2
          clear hend
          go_wp2
          go_ret
          exact coEnds_some (by rw [HQ.out.2]; exact HB2.out) HG2.out
      · have he := eqPp (decide_eq_false hdup)
        have HD := Lib.hid hdup
        clear hdup
        go_wp2_with fail
        go_quiet (fail)
        go_wp2
        go_roundw
        case rel => exact ⟨k + 1, by omega, by omega, by go_num, Lib.hid (by rw [squeeze_other (by omega) hlt HD.out, hS.out, ← List.take_succ_eq_append_getElem hlt]), Lib.hid (hB.out.drewN _), Lib.hid ⟨hG.out.os, hG.out.tape, hG.out.output, hG.out.size, hG.out.block⟩⟩
        case measure => simp [intOf]; omega
    · have hke : k = l.length := by omega
      have hki : ¬ ((k : Int) < (l.length : Int)) := by omega
      have HQ := hS.out
      rw [hke, List.take_length] at HQ
      have HQ2 := Lib.hid HQ
      clear HQ hke
      go_wp2
      go_ret
      exact coEnds_some (by rw [HQ2.out]; exact hB.out.row hbg hcap) hG.out
end Go.Proofs.YtkddeliifadcoaaDoor
