/-
  CONTRACTS: before; the sort of pipes.
-/
import Derived.Test.YtkddeliifadcoaaDoorRow
import Derived.Test.YtkddeliifadcoaaDoorSortR
import Derived.Test.YtkddeliifadcoaaDoorShelfS
namespace Go.Proofs.YtkddeliifadcoaaDoor
open Go.RowKit
/-- A pipe whose numbers are small. -/
def Sm (p : Pp) : Prop := -100000 ≤ p.1 ∧ p.1 ≤ 100000 ∧ -100000 ≤ p.2 ∧ p.2 ≤ 100000
abbrev SPp := {p : Pp // Sm p}
theorem sm0 : Sm (0, 0) := by unfold Sm; simp only; omega
instance : Inhabited SPp := ⟨⟨(0, 0), sm0⟩⟩
instance (a b : Pp) : Decidable (ppLt a b) := by unfold ppLt; infer_instance
def bef (a b : Pp) : Int := if a.1 = b.1 then a.2 - b.2 else a.1 - b.1
set_option maxHeartbeats 1000000 in
theorem before_any (a b : Pp) (ha : Sm a) (hb : Sm b) (W : World) : Calls Tryd.prog 37 #[.agg #[.int .i64 a.1, .int .i64 a.2], .agg #[.int .i64 b.1, .int .i64 b.2]] W fun e w' => e = .returned (.int .i64 (bef a b)) ∧ ∃ q os', w' = Sort.grow (W.drewN q) os' := by
  obtain ⟨a1, a2⟩ := a
  obtain ⟨b1, b2⟩ := b
  obtain ⟨h1, h2, h3, h4⟩ := ha
  obtain ⟨k1, k2, k3, k4⟩ := hb
  simp only at *
  by_cases h : a1 = b1
  · have HB := Lib.hid (show bef (a1, a2) (b1, b2) = a2 - b2 from if_pos h)
    subst h
    go_enter Tryd.func37, Tryd.ntmps37
    go_wp2
    go_ret
    exact ⟨by rw [HB.out]; rfl, 0, _, by rw [Sort.alloc_eq_grow, Sort.alloc_eq_grow, Sort.grow_grow]; rfl⟩
  · have HB := Lib.hid (show bef (a1, a2) (b1, b2) = a1 - b1 from if_neg h)
    have b1' : (a1 == b1) = false := beq_eq_false_iff_ne.2 h
    go_enter Tryd.func37, Tryd.ntmps37
    go_wp2
    go_ret
    exact ⟨by rw [HB.out]; rfl, 0, _, by rw [Sort.alloc_eq_grow, Sort.alloc_eq_grow, Sort.grow_grow]; rfl⟩
def encP (x : SPp) : List Value := ppC x.1
def cfP (x y : SPp) : Int := bef x.1 y.1
theorem ltP (x y : SPp) : ltOf cfP x y = decide (ppLt x.1 y.1) := by
  rw [Bool.eq_iff_iff, decide_eq_true_iff]
  unfold ltOf cfP bef ppLt
  rw [decide_eq_true_iff]
  by_cases h : x.1.1 = y.1.1
  · rw [if_pos h]; omega
  · rw [if_neg h]; omega
theorem swoP : Sort.SWO (ltOf cfP) where
  irrefl x := by rw [ltP]; simpa using ppLt_irrefl x.1
  trans x y z h1 h2 := by rw [ltP] at *; simp only [decide_eq_true_eq] at *; exact ppLt_trans h1 h2
  ntrans x y z h1 h2 := by
    rw [ltP] at *
    simp only [decide_eq_false_iff_not] at *
    intro h
    rcases ppLt_total x.1 y.1 with k | k | k
    · exact h1 k
    · rw [k] at h; exact h2 h
    · exact h2 (ppLt_trans k h)
theorem totP (x y : SPp) (h1 : ltOf cfP x y = false) (h2 : ltOf cfP y x = false) : x = y := by
  rw [ltP] at *
  simp only [decide_eq_false_iff_not] at *
  rcases ppLt_total x.1 y.1 with k | k | k
  · exact absurd k h1
  · exact Subtype.ext k
  · exact absurd k h2
theorem sub_list {l : List Pp} (h : ∀ p ∈ l, Sm p) : ∃ d : Array SPp, d.toList.map (·.1) = l := by
  refine ⟨(l.attach.map fun x => (⟨x.1, h x.1 x.2⟩ : SPp)).toArray, ?_⟩
  simp only [List.map_map, Function.comp_def]
  exact List.attach_map_subtype_val l
theorem enc_list (d : Array SPp) : (d.toList.map encP).flatten = ppCs (d.toList.map (·.1)) := by
  unfold ppCs
  rw [List.map_map]
  rfl
set_option maxHeartbeats 1000000 in
/-- The sort of pipes. -/
theorem sortP_any (l : List Pp) (hl : ∀ p ∈ l, Sm p) (hn : l.length ≤ 100000) (base : Nat) (v : Value) (w : World) (h : w.ownsRow base 46 2 v l.length (ppCs l)) :
    Calls Tryd.prog 36 #[v, .func (.func 37) #[] #[]] w fun e w' => e = .returned (.tuple #[]) ∧ ∃ m : List Pp, m.Perm l ∧ m.Pairwise ppLe ∧ w'.ownsRow base 46 2 v m.length (ppCs m) ∧ w.grownBy w' v.ownBlock := by
  rcases h.2 with ⟨hv, h0⟩ | ⟨g, cap, cur, hv, hbg, hg, hrest⟩
  · have hl0 : l = [] := List.length_eq_zero_iff.1 h0
    subst hl0
    have hcon := AnyF.slices_SortFunc_none Tryd.sortPp none 0 (.func (.func 37) #[] #[]) w
    rw [← hv] at hcon
    change Calls Tryd.prog 36 _ _ _ at hcon
    refine hcon.mono ?_
    rintro e w' ⟨rfl, rfl⟩
    exact ⟨rfl, [], List.Perm.refl _, List.Pairwise.nil, h, World.grownBy.refl _ _⟩
  · obtain ⟨d, hd⟩ := sub_list hl
    have hsz : d.size = l.length := by rw [← hd, List.length_map, Array.length_toList]
    have eg : ∀ args w, (callFunc 37 args).run Tryd.prog w = .ok (.enter 37 args) w := enters_of Tryd.func37 (by kernel_rfl) rfl
    have h' := h
    rw [hv, ← hd, ← enc_list] at h'
    rw [List.length_map, Array.length_toList] at h'
    have hH := holdsK_row (enc := encP) (k := 2) (fun _ => rfl) h'
    have hcon := AnyQ.slices_SortFunc_total Tryd.sortPp 2 Tryd.isAgg46 Tryd.sizeOf46 encP (fun _ => rfl) (fun x v hv => by simp [encP, ppC] at hv; rcases hv with rfl | rfl <;> rfl) cfP swoP 37 #[] g 0 cap d w eg (fun _ _ _ _ x y => before_any x.1 y.1 x.2 y.2 _) hH.1 hH.2 (by omega) totP
    rw [hsz, ← hv] at hcon
    change Calls Tryd.prog 36 _ _ _ at hcon
    refine hcon.mono ?_
    rintro e w' ⟨rfl, n, os, rfl⟩
    have hpm := List.mergeSort_perm d.toList fun x y => !(ltOf cfP) y x
    have hsz2 : ((d.toList.mergeSort fun x y => !(ltOf cfP) y x).toArray).size = d.size := by simp
    refine ⟨rfl, (d.toList.mergeSort fun x y => !(ltOf cfP) y x).map (·.1), ?_, ?_, ?_, ?_⟩
    · rw [← hd]; exact hpm.map _
    · rw [List.pairwise_map]
      refine List.Pairwise.imp ?_ (List.pairwise_mergeSort (le := fun x y => !(ltOf cfP) y x) ?_ ?_ d.toList)
      · intro x y hxy
        rw [ltP] at hxy
        simpa [ppLe] using hxy
      · intro x y z h1 h2
        simp only [Bool.not_eq_true'] at *
        exact swoP.ntrans z y x h2 h1
      · intro x y
        simp only [Bool.or_eq_true, Bool.not_eq_true']
        rcases hxy : ltOf cfP y x with _ | _
        · exact .inl rfl
        · right
          cases hyx : ltOf cfP x y with
          | false => rfl
          | true => exact absurd (swoP.trans y x y hxy hyx) (by rw [swoP.irrefl]; simp)
    · have := sorted_row (enc := encP) (n := n) (os := os) (fun _ => rfl) hsz2 h'
      rw [enc_list] at this
      rw [hv]
      rw [← hsz]
      simpa [List.length_map] using this
    · rw [hv]; exact sorted_grown
end Go.Proofs.YtkddeliifadcoaaDoor
