/-
  CONTRACTS: slices.Clone of a paper's rows.
-/
import Derived.Test.YtppccacfdpkkgaaGreatDoorK4
import Derived.Lib.SliceRun
namespace Go.Proofs.YtppccacfdpkkgaaGreatDoor
open Go.RowKit
/-- How Clone ends. -/
def ClR (qs : List Rw) (w : World) (e : Ending) (w' : World) : Prop := ∃ u, e = .returned u ∧ w'.ownsRow w.heap.size 89 2 u qs.length (qs.map rwC).flatten ∧ Below w.heap.size w w'
theorem eq_nil (a : Option Addr) (n c : Nat) : ∀ w, (binOp .eql 84 (.slice a n c) (.slice none 0 0)).run Tryz.prog w = .ok (.bool a.isNone) w := fun w => Lib.run_eql_slice_nil w _ _ a n c 0 0 Tryz.underlying84
theorem rwC_one (qs : List Rw) : ∀ u ∈ (qs.map rwC).flatten, u.oneCell' = true := by
  intro u hu
  rw [List.mem_flatten] at hu
  obtain ⟨r, hr, hu⟩ := hu
  obtain ⟨q, _, rfl⟩ := List.mem_map.1 hr
  simp only [rwC, List.mem_cons, List.mem_nil_iff, or_false] at hu
  rcases hu with rfl | rfl <;> rfl
set_option maxRecDepth 100000 in
set_option maxHeartbeats 1600000 in
theorem clone_any (qs : List Rw) (hn : qs.length ≤ 20000) (base : Nat) (v : Value) (w : World) (h : w.ownsRow base 89 2 v qs.length (qs.map rwC).flatten) :
    Calls Tryz.prog 59 #[v] w (ClR qs w) := by
  have h' := h
  rcases h.2 with ⟨rfl, h0⟩ | ⟨G, cap, cur, rfl, _⟩
  · have hq : qs = [] := List.length_eq_zero_iff.1 h0
    subst hq
    have he := eq_nil none 0 0
    clear h h'
    go_enter Tryz.func59, Tryz.ntmps59
    go_wp2
    go_ret
    exact ⟨_, rfl, World.ownsRow_nil _ _ _ _, Below.refl _ _⟩
  · obtain ⟨hb, _, hc, _⟩ := EnB.of_row h'
    by_cases hz : qs.length = 0
    · have hq : qs = [] := List.length_eq_zero_iff.1 hz
      subst hq
      have he := eq_nil (some ⟨G, 0, none⟩) 0 cap
      have hm : (w.alloc (.cells #[] 89)).ownsRow w.heap.size 89 2 (.slice (some ⟨w.heap.size, 0, none⟩) 0 0) 0 [] := ⟨rfl, .inr ⟨w.heap.size, 0, #[], rfl, Nat.le_refl _, Blk.new w _ _, Nat.le_refl _, Nat.zero_le _, rfl, rfl⟩⟩
      have HM := Lib.hid hm
      clear h h' hb hm
      go_enter Tryz.func59, Tryz.ntmps59
      go_wp2
      go_ret
      exact ⟨_, rfl, HM.out, (Below.refl _ _).alloc (Nat.le_refl _) _⟩
    · have hz1 : 0 < qs.length := by omega
      have HB := Lib.hid hb
      have hnews : ∀ j u, ((qs.map rwC).flatten)[j]? = some u → (w.alloc (.cells #[] 89)).cell? ((⟨G, 0, none⟩ : Addr).add j) = some u := by
        obtain ⟨⟨cur2, hk, hz2, hx⟩, _⟩ := hb
        intro j u hj
        refine World.news_of_block (cs := cur2) (hk.alloc (.cells #[] 89)) j u ?_
        rw [← hx, List.getElem?_take] at hj
        split at hj
        · exact hj
        · cases hj
      have HN := Lib.hid hnews
      have he := eq_nil (some ⟨G, 0, none⟩) qs.length cap
      have hm : (w.alloc (.cells #[] 89)).ownsRow w.heap.size 89 2 (.slice (some ⟨w.heap.size, 0, none⟩) 0 0) 0 [] := ⟨rfl, .inr ⟨w.heap.size, 0, #[], rfl, Nat.le_refl _, Blk.new w _ _, Nat.le_refl _, Nat.zero_le _, rfl, rfl⟩⟩
      have HM := Lib.hid hm
      clear h h' hb hnews hm
      obtain ⟨j0, hj0, jz0, jz1, jz2⟩ := info_parts row_info
      go_enter Tryz.func59, Tryz.ntmps59
      go_wp2_with (at_builtin; refine wpList_append_lies _ rfl _ _ 84 rfl w.heap.size 89 j0 _ 2 16 Tryz.underlying84 hj0 jz0 jz1 jz2 rfl (by omega) _ _ _ rfl HM.out ⟨G, 0, none⟩ qs.length cap (qs.map rwC).flatten rfl (enc_len rwC_len qs) HN.out (rwC_one qs) hz1 (by unfold maxLen; omega) (by omega) (by simp) (w.heap.size + 1) (by simp) ?_; intro gg cap3 w3 hown3 hgrow hat3 hlt3)
      have HO := Lib.hid (show w3.ownsRow w.heap.size 89 2 (.slice (some ⟨gg, 0, none⟩) qs.length cap3) qs.length (qs.map rwC).flatten by have := hown3; rw [List.nil_append, Nat.zero_add] at this; exact this)
      have HB3 := Lib.hid (((Below.refl w.heap.size w).alloc (Nat.le_refl _) (.cells #[] 89)).grown (row := some w.heap.size) ⟨hgrow.os, hgrow.tape, hgrow.output, hgrow.size, hgrow.block⟩ (by simp) (fun j e => by cases e; exact Nat.le_refl _))
      clear hown3 hgrow hat3 hlt3
      go_wp2
      go_ret
      exact ⟨_, rfl, HO.out, HB3.out⟩
end Go.Proofs.YtppccacfdpkkgaaGreatDoor
