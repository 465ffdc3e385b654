/-
  A MAP OF ROWS OF NUMBERS BY PIPES, growing. The sort of shares.
-/
import Derived.Test.YtkddeliifadcoaaDoorG1
import Derived.Test.YtkddeliifadcoaaDoorMpK
import Derived.Test.YtkddeliifadcoaaDoorE6
namespace Go.Proofs.YtkddeliifadcoaaDoor
open Go.RowKit
/-- What the map's rows are. -/
structure ShRows (W : World) (base : Nat) (D : List (Pp × Value)) (G : Pp → List Int) : Prop where
  row : ∀ p, (mget p D = none ∧ G p = []) ∨ ∃ v, mget p D = some v ∧ G p ≠ [] ∧ W.ownsRow base 3 1 v (G p).length (iCs (G p))
  apart : ∀ p q v u, mget p D = some v → mget q D = some u → p ≠ q → v.ownBlock ≠ u.ownBlock
structure ShMap (W : World) (base bm : Nat) (G : Pp → List Int) : Prop where
  ex : ∃ D, Mp ekP W bm D ∧ ShRows W base D G
theorem ShRows.below {W W' : World} {base : Nat} {D : List (Pp × Value)} {G : Pp → List Int} (h : ShRows W base D G) (hb : Below W.heap.size W W') : ShRows W' base D G where
  row p := (h.row p).imp id (fun ⟨v, h1, h2, h3⟩ => ⟨v, h1, h2, row_later h3 hb⟩)
  apart := h.apart
theorem ShMap.below {W W' : World} {base bm : Nat} {G : Pp → List Int} (h : ShMap W base bm G) (hb : Below W.heap.size W W') : ShMap W' base bm G := by
  obtain ⟨D, h1, h2⟩ := h
  exact ⟨D, h1.below hb, h2.below hb⟩
theorem ShMap.congr {W : World} {base bm : Nat} {G G' : Pp → List Int} (h : ShMap W base bm G) (hg : ∀ p, G p = G' p) : ShMap W base bm G' := by
  obtain rfl : G = G' := funext hg
  exact h
theorem ShMap.new (W : World) (base : Nat) : ShMap (W.alloc (.map #[] 0)) base W.heap.size (fun _ => []) := ⟨[], Mp.made W, ⟨fun _ => .inl ⟨rfl, rfl⟩, fun p q v u h => by cases h⟩⟩
theorem some_of_row {W : World} {b1 : Nat} {t1 : TypeId} {n1 : Nat} {v : Value} {xs : List Value} (h : W.ownsRow b1 t1 1 v n1 xs) (hn : n1 ≠ 0) : ∃ g, v.ownBlock = some g := by
  rcases h.2 with ⟨rfl, h0⟩ | ⟨g, cap, cur, rfl, _⟩
  · exact absurd h0 hn
  · exact ⟨g, rfl⟩
theorem mp_ne_row {W : World} {bm base : Nat} {t : TypeId} {k n : Nat} {v : Value} {xs : List Value} {D : List (Pp × Value)} (hm : Mp ekP W bm D) (h : W.ownsRow base t k v n xs) : some bm ≠ v.ownBlock := by
  obtain ⟨es, clock, hb, _⟩ := hm
  rcases h.2 with ⟨rfl, _⟩ | ⟨g, cap, cur, rfl, _, hg, _⟩
  · simp [Value.ownBlock]
  · intro e
    have : bm = g := by simpa [Value.ownBlock] using e
    rw [this, hg] at hb
    cases hb
theorem ShMap.step {W W2 W3 : World} {o : Obj} {base bm : Nat} {D : List (Pp × Value)} {G : Pp → List Int} {a : Pp} {v0 : Value} {gg cap n : Nat} {i : Int} (hm : Mp ekP W bm D) (hr : ShRows W base D G) (hv0 : (mget a D).getD (.slice none 0 0) = v0)
    (hg : (W.alloc o).grownBy W2 v0.ownBlock) (hrow : W2.ownsRow base 3 1 (.slice (some ⟨gg, 0, none⟩) n cap) n (iCs (G a) ++ [.int .i64 i])) (hn : n = (G a).length + 1) (hat : v0.ownBlock = some gg ∨ gg = W.heap.size + 1)
    (hm3 : Mp ekP W3 bm (mput a (.slice (some ⟨gg, 0, none⟩) n cap) D)) (hg3 : W2.grownBy W3 (some bm)) : ShMap W3 base bm (fun q => if q = a then G a ++ [i] else G q) := by
  have hal : Below W.heap.size W (W.alloc o) := (Below.refl _ _).alloc (Nat.le_refl _) _
  have hv0r : W.ownsRow base 3 1 v0 (G a).length (iCs (G a)) := by
    rcases hr.row a with ⟨h1, h2⟩ | ⟨v, h1, h2, h3⟩
    · rw [h1] at hv0
      rw [← hv0, h2]
      exact World.ownsRow_nil _ _ _ _
    · rw [h1] at hv0
      rw [← hv0]
      exact h3
  have hm2 : Mp ekP W2 bm D := (hm.below hal).kept hg (mp_ne_row (hm.below hal) (row_later hv0r hal))
  have other : ∀ q u, q ≠ a → mget q D = some u → G q ≠ [] → W.ownsRow base 3 1 u (G q).length (iCs (G q)) → W3.ownsRow base 3 1 u (G q).length (iCs (G q)) := by
    intro q u hq hu hne h
    obtain ⟨gu, hgu⟩ := some_of_row h (fun e => hne (List.length_eq_zero_iff.1 e))
    have h1 := row_later h hal
    have hne2 : u.ownBlock ≠ v0.ownBlock := by
      rcases hr.row a with ⟨e1, e2⟩ | ⟨v, e1, e2, e3⟩
      · rw [e1] at hv0
        rw [← hv0, hgu]
        simp [Value.ownBlock]
      · rw [e1] at hv0
        rw [← hv0]
        exact hr.apart q a u v hu e1 hq
    have h2 := h1.kept hg (.inr hne2)
    exact h2.kept hg3 (.inr (Ne.symm (mp_ne_row hm2 h2)))
  have hnew : W3.ownsRow base 3 1 (.slice (some ⟨gg, 0, none⟩) n cap) n (iCs (G a) ++ [.int .i64 i]) := hrow.kept hg3 (.inr (Ne.symm (mp_ne_row hm2 hrow)))
  have newApart : ∀ q u, q ≠ a → mget q D = some u → u.ownBlock ≠ some gg := by
    intro q u hq hu
    rcases hat with h | h
    · rcases hr.row a with ⟨e1, e2⟩ | ⟨v, e1, e2, e3⟩
      · rw [e1] at hv0
        rw [← hv0] at h
        cases h
      · rw [e1] at hv0
        rw [← h, ← hv0]
        exact hr.apart q a u v hu e1 hq
    · rcases hr.row q with ⟨e1, e2⟩ | ⟨v, e1, e2, e3⟩
      · rw [e1] at hu; cases hu
      · rw [e1] at hu
        cases hu
        intro e
        have := ownBlock_lt e3 e
        omega
  refine ⟨_, hm3, ?_, ?_⟩
  · intro q
    rw [mget_put]
    by_cases hq : q = a
    · subst hq
      right
      refine ⟨_, if_pos rfl, by rw [if_pos rfl]; simp, ?_⟩
      rw [if_pos rfl, List.length_append, List.length_singleton, ← hn, show iCs (G q ++ [i]) = iCs (G q) ++ [.int .i64 i] by simp [iCs]]
      exact hnew
    · rw [if_neg hq, if_neg hq]
      rcases hr.row q with ⟨e1, e2⟩ | ⟨v, e1, e2, e3⟩
      · exact .inl ⟨e1, e2⟩
      · exact .inr ⟨v, e1, e2, other q v hq e1 e2 e3⟩
  · intro p q v u hp hq hpq
    rw [mget_put] at hp hq
    by_cases e1 : p = a
    · rw [if_pos e1] at hp
      cases hp
      rw [if_neg (fun e => hpq (e1.trans e.symm))] at hq
      exact Ne.symm (newApart q u (fun e => hpq (e1.trans e.symm)) hq)
    · rw [if_neg e1] at hp
      by_cases e2 : q = a
      · rw [if_pos e2] at hq
        cases hq
        exact newApart p v e1 hp
      · rw [if_neg e2] at hq
        exact hr.apart p q v u hp hq hpq
theorem grow_boxes {W w' : World} {o1 o2 : Obj} {q : Nat} {os : Array Obj} (h : w' = Sort.grow (((W.alloc o1).alloc o2).drewN q) os) : ∃ q os', w' = Sort.grow (W.drewN q) os' :=
  ⟨q, #[o1] ++ #[o2] ++ os, by
    rw [h, Sort.alloc_eq_grow, Sort.alloc_eq_grow, Sort.grow_grow]
    show Sort.grow (Sort.grow (W.drewN q) _) _ = _
    rw [Sort.grow_grow]⟩
set_option maxHeartbeats 1000000 in
theorem shcmp_any (a b : Pp) (a1 a2 : Option Addr) (n1 n2 c1 c2 : Nat) (ha : Sm a) (hb : Sm b) (W : World) : Calls Tryd.prog 43 #[.agg #[.int .i64 a.1, .int .i64 a.2, .slice a1 n1 c1], .agg #[.int .i64 b.1, .int .i64 b.2, .slice a2 n2 c2]] W fun e w' => e = .returned (.int .i64 (bef a b)) ∧ ∃ q os', w' = Sort.grow (W.drewN q) os' := by
  have HB := Lib.hid (fun W => before_any a b ha hb W)
  generalize bef a b = r at HB ⊢
  go_enter Tryd.func43, Tryd.ntmps43
  go_wp2_with (go_at_call 37; refine (HB.out _).mono ?_; rintro e w' ⟨rfl, q, os', hw⟩; have HW := Lib.hid hw; clear hw)
  go_ret
  exact ⟨rfl, grow_boxes HW.out⟩
/-- The slice of a pipe's numbers, by its parts. -/
structure SlV where
  a : Option Addr
  n : Nat
  c : Nat
def slv (x : SlV) : Value := .slice x.a x.n x.c
def encS (g : Pp → SlV) (x : SPp) : List Value := shC (fun p => slv (g p)) x.1
theorem encS_list (g : Pp → SlV) (d : Array SPp) : (d.toList.map (encS g)).flatten = shCs (fun p => slv (g p)) (d.toList.map (·.1)) := by
  unfold shCs
  rw [List.map_map]
  rfl
set_option maxHeartbeats 1000000 in
/-- The sort of shares. -/
theorem sortS_any (g : Pp → SlV) (l : List Pp) (hl : ∀ p ∈ l, Sm p) (hn : l.length ≤ 100000) (base : Nat) (v : Value) (w : World) (h : w.ownsRow base 49 3 v l.length (shCs (fun p => slv (g p)) l)) :
    Calls Tryd.prog 42 #[v, .func (.func 43) #[] #[]] w fun e w' => e = .returned (.tuple #[]) ∧ ∃ m : List Pp, m.Perm l ∧ m.Pairwise ppLe ∧ w'.ownsRow base 49 3 v m.length (shCs (fun p => slv (g p)) m) ∧ w.grownBy w' v.ownBlock := by
  rcases h.2 with ⟨hv, h0⟩ | ⟨gb, cap, cur, hv, hbg, hg, hrest⟩
  · have hl0 : l = [] := List.length_eq_zero_iff.1 h0
    subst hl0
    have hcon := AnyF.slices_SortFunc_none Tryd.sortSh none 0 (.func (.func 43) #[] #[]) w
    rw [← hv] at hcon
    change Calls Tryd.prog 42 _ _ _ at hcon
    refine hcon.mono ?_
    rintro e w' ⟨rfl, rfl⟩
    exact ⟨rfl, [], List.Perm.refl _, List.Pairwise.nil, h, World.grownBy.refl _ _⟩
  · obtain ⟨d, hd⟩ := sub_list hl
    have hsz : d.size = l.length := by rw [← hd, List.length_map, Array.length_toList]
    have eg : ∀ args w, (callFunc 43 args).run Tryd.prog w = .ok (.enter 43 args) w := enters_of Tryd.func43 (by kernel_rfl) rfl
    have h' := h
    rw [hv, ← hd, ← encS_list] at h'
    rw [List.length_map, Array.length_toList] at h'
    have hH := holdsK_row (enc := encS g) (k := 3) (fun _ => rfl) h'
    have hcon := AnyQ.slices_SortFunc_total Tryd.sortSh 3 Tryd.isAgg49 Tryd.sizeOf49 (encS g) (fun _ => rfl) (fun x v hv => by simp [encS, shC, slv] at hv; rcases hv with rfl | rfl | rfl <;> rfl) cfP swoP 43 #[] gb 0 cap d w eg (fun _ _ _ _ x y => shcmp_any x.1 y.1 _ _ _ _ _ _ x.2 y.2 _) hH.1 hH.2 (by omega) totP
    rw [hsz, ← hv] at hcon
    change Calls Tryd.prog 42 _ _ _ at hcon
    refine hcon.mono ?_
    rintro e w' ⟨rfl, n, os, rfl⟩
    have hpm := List.mergeSort_perm d.toList fun x y => !(ltOf cfP) y x
    have hsz2 : ((d.toList.mergeSort fun x y => !(ltOf cfP) y x).toArray).size = d.size := by simp
    refine ⟨rfl, (d.toList.mergeSort fun x y => !(ltOf cfP) y x).map (·.1), ?_, ?_, ?_, ?_⟩
    · rw [← hd]; exact hpm.map _
    · rw [List.pairwise_map]
      refine List.Pairwise.imp ?_ (List.pairwise_mergeSort (le := fun x y => !(ltOf cfP) y x) ?_ ?_ d.toList)
      · intro x y hxy
        rw [ltP] at hxy
        simpa [ppLe] using hxy
      · intro x y z h1 h2
        simp only [Bool.not_eq_true'] at *
        exact swoP.ntrans z y x h2 h1
      · intro x y
        simp only [Bool.or_eq_true, Bool.not_eq_true']
        rcases hxy : ltOf cfP y x with _ | _
        · exact .inl rfl
        · right
          cases hyx : ltOf cfP x y with
          | false => rfl
          | true => exact absurd (swoP.trans y x y hxy hyx) (by rw [swoP.irrefl]; simp)
    · have := sorted_row (enc := encS g) (n := n) (os := os) (fun _ => rfl) hsz2 h'
      rw [encS_list] at this
      rw [hv]
      rw [← hsz]
      simpa [List.length_map] using this
    · rw [hv]; exact sorted_grown
end Go.Proofs.YtkddeliifadcoaaDoor
