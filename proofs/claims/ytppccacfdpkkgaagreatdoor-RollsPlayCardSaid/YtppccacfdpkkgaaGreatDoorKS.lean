/-
  ROWS OF k CELLS AN ELEMENT UNDER THE SORT: what the kit's sort says of a row, in the words of 'ownsRow'. No program in sight. CONTRACTS: the order of events; slices.SortFunc of events.
-/
import Derived.Shelf.GgSortFunc.InsertionK
import Derived.Shelf.SlSortCmp.Insertion
import Derived.Laws.AppendOwn
import Derived.Test.YtppccacfdpkkgaaGreatDoorKD
import Derived.Test.YtppccacfdpkkgaaGreatDoorShelfS
import Derived.StillTailTactics
namespace Go.Proofs.YtppccacfdpkkgaaGreatDoor
open Go.RowKit
section
variable {α : Type} [Inhabited α]
theorem flatK_at {enc : α → List Value} {k : Nat} (hk : ∀ x, (enc x).length = k) : ∀ (l : List α) (t : Nat), t < l.length * k → ((l.map enc).flatten)[t]? = some (enc l[t / k]!)[t % k]!
  | [], t, h => by simp at h
  | a :: l, t, h => by
    have ha := hk a
    rw [List.map_cons, List.flatten_cons]
    by_cases hlt : t < k
    · rw [List.getElem?_append_left (by omega), Nat.div_eq_of_lt hlt, Nat.mod_eq_of_lt hlt, List.getElem?_eq_getElem (by omega)]
      simp [List.getElem!_eq_getElem?_getD, List.getElem?_eq_getElem (show t < (enc a).length by omega)]
    · have k0 : 0 < k := by
        rcases Nat.eq_zero_or_pos k with h0 | h0
        · subst h0; simp at h
        · exact h0
      rw [List.getElem?_append_right (by omega), ha, flatK_at hk l (t - k) (by rw [List.length_cons, Nat.add_mul] at h; omega)]
      have e1 : t / k = (t - k) / k + 1 := by
        rw [← Nat.add_div_right _ k0]; congr 1; omega
      have e2 : t % k = (t - k) % k := by
        rw [Nat.mod_eq_sub_mod (by omega)]
      rw [e1, e2]
      simp
theorem flatK_list {enc : α → List Value} {k : Nat} (hk : ∀ x, (enc x).length = k) (d : Array α) : (Sort.flatK enc k d).toList = (d.toList.map enc).flatten := by
  apply List.ext_getElem?
  intro t
  have hl : ((d.toList.map enc).flatten).length = d.size * k := by
    have : ∀ l : List α, ((l.map enc).flatten).length = l.length * k := by
      intro l
      induction l with
      | nil => simp
      | cons a l ih => rw [List.map_cons, List.flatten_cons, List.length_append, hk, ih, List.length_cons, Nat.add_mul]; omega
    rw [this, Array.length_toList]
  by_cases h : t < d.size * k
  · rw [flatK_at hk d.toList t (by rw [Array.length_toList]; exact h), Array.getElem?_toList, Array.getElem?_eq_getElem (by rw [Sort.size_flatK]; exact h)]
    have := Sort.get_flatK enc k d t h
    rw [getElem!_pos _ t (by rw [Sort.size_flatK]; exact h)] at this
    rw [this, show d.toList[t / k]! = d[t / k]! by simp [List.getElem!_eq_getElem?_getD, Array.getElem!_eq_getD, Array.getD_eq_getD_getElem?]]
  · rw [List.getElem?_eq_none (by rw [Array.length_toList, Sort.size_flatK]; omega), List.getElem?_eq_none (by rw [hl]; omega)]
theorem holdsK_row {W : World} {base g : Nat} {t : TypeId} {k n cap : Nat} {enc : α → List Value} (hk : ∀ x, (enc x).length = k) {d : Array α} (h : W.ownsRow base t k (.slice (some ⟨g, 0, none⟩) n cap) d.size (d.toList.map enc).flatten) : Sort.HoldsK enc k W g 0 d ∧ g < W.heap.size := by
  obtain ⟨hl, ⟨e, _⟩ | ⟨g', cap', cur, e, _, hg, hn, _, hz, hx⟩⟩ := h
  · cases e
  · cases e
    refine ⟨fun j hj => ?_, (Array.getElem?_eq_some_iff.1 hg).1⟩
    rw [Sort.size_flatK] at hj
    have hjc : j < cur.size := by
      have : d.size * k ≤ cap * k := Nat.mul_le_mul_right k hn
      omega
    have hj2 : (Sort.flatK enc k d)[j]? = cur[j]? := by
      rw [← Array.getElem?_toList, flatK_list hk, ← hx, List.getElem?_take, if_pos hj, Array.getElem?_toList]
    constructor
    · simp only [World.cell?, hg, Nat.zero_add]
      show cur[j]? = _
      rw [← hj2, Array.getElem?_eq_getElem (by rw [Sort.size_flatK]; exact hj), getElem!_pos _ j (by rw [Sort.size_flatK]; exact hj)]
      rfl
    · simp only [World.frozen?, hg]
      rfl
theorem sorted_heap {enc : α → List Value} {k : Nat} {W : World} {g n : Nat} {d : Array α} {os : Array Obj} {cur : Array Value} {e : TypeId} {fr : Nat × Nat} (h : W.heap[g]? = some (.cells cur e fr)) :
    (sortWorldK enc k W g 0 n d os).heap[g]? = some (.cells (Sort.putCells id 0 (Sort.flatK enc k d) cur) e fr) := by
  have hlt := (Array.getElem?_eq_some_iff.1 h).1
  show (((Sort.mapBlock (Sort.ahead W n) g _).heap) ++ os)[g]? = _
  rw [Array.getElem?_append_left (by simpa [Sort.mapBlock] using hlt)]
  show ((Sort.ahead W n).heap.modify g _)[g]? = _
  rw [Array.getElem?_modify, if_pos rfl]
  show Option.map _ (W.heap[g]?) = _
  simp only [h, Option.map_some]
  rfl
theorem sorted_grown {enc : α → List Value} {k : Nat} {W : World} {g n : Nat} {d : Array α} {os : Array Obj} : W.grownBy (sortWorldK enc k W g 0 n d os) (some g) where
  os := rfl
  tape := rfl
  output := rfl
  size := by
    show W.heap.size ≤ (((Sort.ahead W n).heap.modify g _) ++ os).size
    rw [Array.size_append, Array.size_modify]
    exact Nat.le_add_right _ _
  block i hi hne := by
    show (((Sort.ahead W n).heap.modify g _) ++ os)[i]? = W.heap[i]?
    rw [Array.getElem?_append_left (by rw [Array.size_modify]; exact hi), Array.getElem?_modify, if_neg (fun e => hne (by rw [e]))]
    rfl
theorem sorted_row {W : World} {base g : Nat} {t : TypeId} {k m cap n : Nat} {enc : α → List Value} (hk : ∀ x, (enc x).length = k) {d d' : Array α} {os : Array Obj} (hs : d'.size = d.size) (h : W.ownsRow base t k (.slice (some ⟨g, 0, none⟩) m cap) d.size (d.toList.map enc).flatten) :
    (sortWorldK enc k W g 0 n d' os).ownsRow base t k (.slice (some ⟨g, 0, none⟩) m cap) d'.size (d'.toList.map enc).flatten := by
  obtain ⟨hl, ⟨e, _⟩ | ⟨g', cap', cur, e, hbg, hg, hn, hmx, hz, hx⟩⟩ := h
  · cases e
  · cases e
    have hle : d'.size * k ≤ cur.size := by rw [hz, hs]; exact Nat.mul_le_mul_right k hn
    refine ⟨?_, .inr ⟨g, cap, _, by rw [hs], hbg, sorted_heap hg, by rw [hs]; exact hn, hmx, by simp [Sort.putCells, hz], ?_⟩⟩
    · rw [← flatK_list hk, Array.length_toList, Sort.size_flatK]
    · rw [← flatK_list hk]
      apply List.ext_getElem?
      intro t
      rw [List.getElem?_take, Array.getElem?_toList, Array.getElem?_toList]
      by_cases ht : t < d'.size * k
      · rw [if_pos ht]
        simp only [Sort.putCells, Array.getElem?_mapIdx]
        rw [Array.getElem?_eq_getElem (by omega), Option.map_some, if_pos ⟨Nat.zero_le _, by rw [Sort.size_flatK]; omega⟩, Nat.sub_zero, getElem!_pos _ t (by rw [Sort.size_flatK]; exact ht), Array.getElem?_eq_getElem (by rw [Sort.size_flatK]; exact ht)]
        rfl
      · rw [if_neg ht, Array.getElem?_eq_none (by rw [Sort.size_flatK]; omega)]
end
theorem ARd.of_blkI {W : World} {B : Nat} {t : TypeId} {cs : Array Value} (h : Blk W B t cs) {l : List Int} (hcs : cs.toList = iCs l) (n c : Nat) (hn : n = l.length) : ARd W (.slice (some ⟨B, 0, none⟩) n c) 1 (l.map iC) := by
  subst hn
  refine ⟨_, _, by rw [List.length_map], fun i hi => ⟨B, 0, rfl, h.lt, fun j u hj => ?_⟩⟩
  rw [List.getElem_map] at hj
  have hi' : i < l.length := by simpa using hi
  have hj0 : j = 0 := by
    have := (List.getElem?_eq_some_iff.1 hj).1
    simpa [iC] using this
  subst hj0
  have e : cs[i]? = some (.int .i64 l[i]) := by
    rw [← Array.getElem?_toList, hcs, iCs, List.getElem?_map, List.getElem?_eq_getElem hi']; rfl
  rw [Nat.zero_add, h.cell, Nat.mul_one, Nat.add_zero, e]
  exact hj
/-- An event whose numbers are small. -/
def SmE (e : Ev) : Prop := -1000000 ≤ e.2.1 ∧ e.2.1 ≤ 1000000 ∧ -1000000 ≤ e.2.2.1 ∧ e.2.2.1 ≤ 1000000 ∧ -1000000 ≤ e.2.2.2.1 ∧ e.2.2.2.1 ≤ 1000000
abbrev SEv := {e : Ev // SmE e}
instance : Inhabited SEv := ⟨⟨(0, 0, 0, 0, 0), by unfold SmE; simp only; omega⟩⟩
def cfE (a b : Ev) : Int := orI [cmpI a.1 b.1, a.2.1 - b.2.1, a.2.2.1 - b.2.2.1, a.2.2.2.1 - b.2.2.2.1]
theorem growN3 (W : World) (a b c : Obj) : ∃ os, (((W.alloc a).alloc b).drew).alloc c = Sort.grow (W.drewN 1) os :=
  ⟨#[a] ++ (#[b] ++ #[c]), by show (((W.drewN 1).alloc a).alloc b).alloc c = _; rw [Sort.alloc_eq_grow, Sort.alloc_eq_grow, Sort.alloc_eq_grow, Sort.grow_grow, Sort.grow_grow]⟩
set_option maxRecDepth 100000 in
set_option maxHeartbeats 3200000 in
theorem before_ev (a b : Ev) (ha : SmE a) (hb : SmE b) (W : World) : Calls Tryz.prog 47 #[.agg #[.int .i64 a.1, .int .i64 a.2.1, .int .i64 a.2.2.1, .int .i64 a.2.2.2.1, .int .i64 a.2.2.2.2], .agg #[.int .i64 b.1, .int .i64 b.2.1, .int .i64 b.2.2.1, .int .i64 b.2.2.2.1, .int .i64 b.2.2.2.2]] W fun e w' => e = .returned (.int .i64 (cfE a b)) ∧ ∃ q os', w' = Sort.grow (W.drewN q) os' := by
  obtain ⟨a1, a2, a3, a4, a5⟩ := a
  obtain ⟨b1, b2, b3, b4, b5⟩ := b
  obtain ⟨h1, h2, h3, h4, h5, h6⟩ := ha
  obtain ⟨k1, k2, k3, k4, k5, k6⟩ := hb
  simp only at *
  have HB := Lib.hid (show cfE (a1, a2, a3, a4, a5) (b1, b2, b3, b4, b5) = orI [cmpI a1 b1, a2 - b2, a3 - b3, a4 - b4] from rfl)
  have m1 := ((Blk.new W 68 #[.int .i64 a1, .int .i64 a2, .int .i64 a3, .int .i64 a4, .int .i64 a5]).alloc (.cells #[.int .i64 b1, .int .i64 b2, .int .i64 b3, .int .i64 b4, .int .i64 b5] 68))
  have m2 := Blk.new (W.alloc (.cells #[.int .i64 a1, .int .i64 a2, .int .i64 a3, .int .i64 a4, .int .i64 a5] 68)) 68 #[.int .i64 b1, .int .i64 b2, .int .i64 b3, .int .i64 b4, .int .i64 b5]
  rw [World.size_alloc] at m2
  have M1 := Lib.hid m1
  have M2 := Lib.hid m2
  clear m1 m2
  go_enter Tryz.func47, Tryz.ntmps47
  go_wp2_with fail
  obtain ⟨W2, hW2⟩ : ∃ W2, (W.alloc (.cells #[.int .i64 a1, .int .i64 a2, .int .i64 a3, .int .i64 a4, .int .i64 a5] 68)).alloc (.cells #[.int .i64 b1, .int .i64 b2, .int .i64 b3, .int .i64 b4, .int .i64 b5] 68) = W2 := ⟨_, rfl⟩
  rw [hW2] at M1 M2 ⊢
  have x0 : W2.cell? ⟨W.heap.size, 0, none⟩ = some (.int .i64 a1) := M1.out.cell 0
  have x1 : W2.cell? ⟨W.heap.size, 1, none⟩ = some (.int .i64 a2) := M1.out.cell 1
  have x2 : W2.cell? ⟨W.heap.size, 2, none⟩ = some (.int .i64 a3) := M1.out.cell 2
  have x3 : W2.cell? ⟨W.heap.size, 3, none⟩ = some (.int .i64 a4) := M1.out.cell 3
  have z0 : W2.cell? ⟨W.heap.size + 1, 0, none⟩ = some (.int .i64 b1) := M2.out.cell 0
  have z1 : W2.cell? ⟨W.heap.size + 1, 1, none⟩ = some (.int .i64 b2) := M2.out.cell 1
  have z2 : W2.cell? ⟨W.heap.size + 1, 2, none⟩ = some (.int .i64 b3) := M2.out.cell 2
  have z3 : W2.cell? ⟨W.heap.size + 1, 3, none⟩ = some (.int .i64 b4) := M2.out.cell 3
  have HW2 := Lib.hid hW2
  clear hW2 M1 M2
  go_still_tail 20, (by kernel_rfl)
  still_call (compare_any a1 b1 _)
  repeat still_step
  refine wpStill_nil ?_
  change wpList _ _ _ _ _ W2.drew
  obtain ⟨W3, hW3⟩ : ∃ W3, W2.drew = W3 := ⟨_, rfl⟩
  rw [hW3]
  have HW3 := Lib.hid hW3
  clear hW3 x0 x1 x2 x3 z0 z1 z2 z3
  go_wp2_with (go_at_call 48; refine (or_any [cmpI a1 b1, a2 - b2, a3 - b3, a4 - b4] _ _ (by simp) (ARd.of_blkI (Blk.new _ 3 _) rfl _ _ rfl)).mono ?_; rintro e w' ⟨rfl, rfl⟩)
  go_ret
  obtain ⟨os, hos⟩ := growN3 W (.cells #[.int .i64 a1, .int .i64 a2, .int .i64 a3, .int .i64 a4, .int .i64 a5] 68) (.cells #[.int .i64 b1, .int .i64 b2, .int .i64 b3, .int .i64 b4, .int .i64 b5] 68) (.cells #[.int .i64 (cmpI a1 b1), .int .i64 (a2 - b2), .int .i64 (a3 - b3), .int .i64 (a4 - b4)] 3)
  rw [HW2.out, HW3.out] at hos
  exact ⟨by rw [HB.out]; rfl, 1, os, hos⟩
def encE (x : SEv) : List Value := evC5 x.1
def cfS (x y : SEv) : Int := cfE x.1 y.1
theorem ltE (x y : SEv) : ltOf cfS x y = decide (evLt x.1 y.1) := by
  rw [Bool.eq_iff_iff, decide_eq_true_iff]
  unfold ltOf cfS cfE
  rw [decide_eq_true_iff]
  unfold evLt cmpI
  simp only [orI]
  repeat' split
  all_goals omega
theorem swoE : Sort.SWO (ltOf cfS) where
  irrefl x := by rw [ltE]; simpa using evLt_irrefl x.1
  trans x y z h1 h2 := by rw [ltE] at *; simp only [decide_eq_true_eq] at *; exact evLt_trans h1 h2
  ntrans x y z h1 h2 := by
    rw [ltE] at *
    simp only [decide_eq_false_iff_not] at *
    exact evLt_ntrans h1 h2
theorem subE_list {l : List Ev} (h : ∀ p ∈ l, SmE p) : ∃ d : Array SEv, d.toList.map (·.1) = l := by
  refine ⟨(l.attach.map fun x => (⟨x.1, h x.1 x.2⟩ : SEv)).toArray, ?_⟩
  simp only [List.map_map, Function.comp_def]
  exact List.attach_map_subtype_val l
theorem encE_list (d : Array SEv) : (d.toList.map encE).flatten = ((d.toList.map (·.1)).map evC5).flatten := by
  rw [List.map_map]
  rfl
set_option maxHeartbeats 1000000 in
/-- The sort of events. -/
theorem sortE_any (l : List Ev) (hl : ∀ p ∈ l, SmE p) (hn : l.length ≤ 100000) (base : Nat) (v : Value) (w : World) (h : w.ownsRow base 68 5 v l.length (l.map evC5).flatten) :
    Calls Tryz.prog 46 #[v, .func (.func 47) #[] #[]] w fun e w' => e = .returned (.tuple #[]) ∧ ∃ m : List Ev, m.Perm l ∧ m.Pairwise evLe ∧ w'.ownsRow base 68 5 v m.length (m.map evC5).flatten ∧ w.grownBy w' v.ownBlock := by
  rcases h.2 with ⟨hv, h0⟩ | ⟨g, cap, cur, hv, hbg, hg, hrest⟩
  · have hl0 : l = [] := List.length_eq_zero_iff.1 h0
    subst hl0
    have hcon := AnyF.slices_SortFunc_none Tryz.sortEv none 0 (.func (.func 47) #[] #[]) w
    rw [← hv] at hcon
    change Calls Tryz.prog 46 _ _ _ at hcon
    refine hcon.mono ?_
    rintro e w' ⟨rfl, rfl⟩
    exact ⟨rfl, [], List.Perm.refl _, List.Pairwise.nil, h, World.grownBy.refl _ _⟩
  · obtain ⟨d, hd⟩ := subE_list hl
    have hsz : d.size = l.length := by rw [← hd, List.length_map, Array.length_toList]
    have eg : ∀ args w, (callFunc 47 args).run Tryz.prog w = .ok (.enter 47 args) w := enters_of Tryz.func47 (by kernel_rfl) rfl
    have h' := h
    rw [hv, ← hd, ← encE_list] at h'
    rw [List.length_map, Array.length_toList] at h'
    have hH := holdsK_row (enc := encE) (k := 5) (fun _ => rfl) h'
    have hcon := AnyQ.slices_SortFunc Tryz.sortEv 5 Tryz.isAgg68 Tryz.sizeOf68 encE (fun _ => rfl) (fun x v hv => by simp [encE, evC5] at hv; rcases hv with rfl | rfl | rfl | rfl | rfl <;> rfl) cfS swoE 47 #[] g 0 cap d w eg (fun _ _ _ _ x y => before_ev x.1 y.1 x.2 y.2 _) hH.1 hH.2 (by omega)
    rw [hsz, ← hv] at hcon
    change Calls Tryz.prog 46 _ _ _ at hcon
    refine hcon.mono ?_
    rintro e w' ⟨rfl, d', n, os, hp, hs, rfl⟩
    obtain ⟨hsz2, _, hperm⟩ := hp
    rw [← hsz] at hperm hs
    have e1 : d'.extract 0 d.size = d' := by rw [← hsz2]; exact Array.extract_size
    rw [e1, Array.extract_size] at hperm
    refine ⟨rfl, d'.toList.map (·.1), ?_, ?_, ?_, ?_⟩
    · rw [← hd]; exact hperm.map _
    · rw [List.pairwise_map, List.pairwise_iff_getElem]
      intro i j hi hj hij
      have hj' : j < d'.size := by simpa using hj
      have hi' : i < d'.size := by simpa using hi
      have := hs i j (Nat.zero_le _) hij (by omega)
      rw [ltE, getElem!_pos d' i hi', getElem!_pos d' j hj'] at this
      simpa [evLe] using this
    · have := sorted_row (enc := encE) (n := n) (os := os) (fun _ => rfl) hsz2 h'
      rw [encE_list] at this
      rw [hv, ← hsz]
      simpa [List.length_map] using this
    · rw [hv]; exact sorted_grown
end Go.Proofs.YtppccacfdpkkgaaGreatDoor
