/-
  CONTRACTS: the reference's All.
-/
import Derived.Test.YtkddeliifadcoaaDoorRow
namespace Go.Proofs.YtkddeliifadcoaaDoor
open Go.RowKit
set_option maxRecDepth 100000 in
set_option maxHeartbeats 3200000 in
theorem rall_any (v1 v2 v3 v4 : Value) (S : Sp) (w : World) (f : Nat → Value) (hsp : SpRd w v1 v2 v3 v4 f S) (hn : S.rs.length ≤ 40) (hr : ∀ r ∈ S.rs, rkE r = 0) :
    Calls Tryd.prog 40 #[.agg #[v1, v2, v3, v4]] w fun e w' => ∃ v, e = .returned v ∧ w'.ownsRow w.heap.size 46 2 v (allFrom 0 S.rs).length (ppCs (allFrom 0 S.rs)) ∧ Below w.heap.size w w' := by
  have HSP := Lib.hid hsp
  have HR := Lib.hid hr
  obtain ⟨a2, c2, ev2⟩ := hsp.forms.2.1
  subst ev2
  obtain ⟨i0, hi, hz0, hz1, hz2⟩ := info_parts pp_info
  obtain ⟨W0, hW0⟩ : ∃ W0, W0 = w.alloc (.cells #[v1, .slice a2 S.rs.length c2, v3, v4] 27) := ⟨_, rfl⟩
  have hb0 : Below w.heap.size w W0 := by rw [hW0]; exact (Below.refl _ w).alloc (Nat.le_refl _) _
  have k0 : Blk W0 w.heap.size 27 #[v1, .slice a2 S.rs.length c2, v3, v4] := by rw [hW0]; exact Blk.new w _ _
  have HB0 := Lib.hid hb0
  have HK0 := Lib.hid k0
  have hlt0 := k0.lt
  have hsz0 := hb0.size
  have hst : RowKit.Hid (W0.ownsRow W0.heap.size 46 2 (.slice none 0 0) (allFrom 0 (S.rs.take 0)).length (ppCs (allFrom 0 (S.rs.take 0)))) := Lib.hid (World.ownsRow_nil _ _ _ _)
  have hrefl : RowKit.Hid (Below W0.heap.size W0 W0) := Lib.hid (Below.refl _ _)
  clear hsp hr hb0 k0
  go_enter Tryd.func40, Tryd.ntmps40
  go_wp2
  rw [← hW0]
  clear hW0
  go_loopw [3, 4] (fun v x wr => ∃ k : Nat, k ≤ S.rs.length ∧ x = .int .i64 k ∧ RowKit.Hid (wr.ownsRow W0.heap.size 46 2 v (allFrom 0 (S.rs.take k)).length (ppCs (allFrom 0 (S.rs.take k)))) ∧ RowKit.Hid (Below W0.heap.size W0 wr)) (fun _ x _ => S.rs.length - (intOf x).toNat)
  case atStart => exact ⟨0, by omega, rfl, hst, hrefl⟩
  obtain ⟨k, hk, rfl, hrow, hW⟩ := hrel
  have s1 := ((HK0.out.below hW.out).cell 1)
  by_cases hlt : k < S.rs.length
  · have hk2 : (k : Int) < (S.rs.length : Int) := by omega
    have hrk := rk_ok (HR.out S.rs[k] (List.getElem_mem hlt))
    obtain ⟨c1, c2', c3, c4⟩ := hrk
    have HL := Lib.hid (allFrom_len (l := S.rs.take k) (fun r h => HR.out r (List.mem_of_mem_take h)) 0)
    have hst2 : RowKit.Hid (wr.ownsRow W0.heap.size 46 2 u3 (allFrom 0 (S.rs.take k) ++ ofRank k S.rs[k].low 0).length (ppCs (allFrom 0 (S.rs.take k) ++ ofRank k S.rs[k].low 0))) := by
      rw [ofRank, List.append_nil]; exact hrow
    have HTK := Lib.hid (allFrom_take hlt)
    obtain ⟨m, hm⟩ : ∃ m : Nat, S.rs[k].cnt = m := ⟨S.rs[k].cnt.toNat, by omega⟩
    have hmt : S.rs[k].cnt.toNat = m := by omega
    have HMT := Lib.hid hmt
    have HM := Lib.hid hm
    have hm97 : m ≤ 97 := by omega
    clear hrow hm hmt
    go_wp2
    go_loopw [3, 5] (fun v x wi => ∃ j : Nat, j ≤ m ∧ x = .int .i64 j ∧ RowKit.Hid (wi.ownsRow W0.heap.size 46 2 v (allFrom 0 (S.rs.take k) ++ ofRank k S.rs[k].low j).length (ppCs (allFrom 0 (S.rs.take k) ++ ofRank k S.rs[k].low j))) ∧ RowKit.Hid (Below W0.heap.size W0 wi)) (fun _ x _ => m - (intOf x).toNat)
    case atStart => exact ⟨0, by omega, rfl, hst2, hW⟩
    clear hst2 hW s1
    obtain ⟨j, hj, rfl, hrow, hW⟩ := hrel
    have s1 := ((HK0.out.below hW.out).cell 1)
    obtain ⟨b, o, c, ev, hbl, r0, r1, r2, r3, r4, r5⟩ := (HSP.out.later (HB0.out.trans (hW.out.mono HB0.out.size))).rAt k hlt
    cases ev
    rw [HM.out] at r5
    by_cases hjm : j < m
    · have hj2 : (j : Int) < (m : Int) := by omega
      have hlen : (allFrom 0 (S.rs.take k) ++ ofRank k S.rs[k].low j).length ≤ 97 * 40 := by
        have h1 := HL.out
        rw [List.length_append, ofRank_len]
        rw [List.length_take] at h1
        omega
      have hsz := hW.out.size
      have e1 : IntKind.i64.wrap (S.rs[k].low + (j : Int)) = S.rs[k].low + (j : Int) := IntWalk.i64_in _ (by omega)
      go_wp2_with (at_builtin; refine wpList_append_lies _ rfl _ _ 37 rfl W0.heap.size 46 i0 _ 2 16 Tryd.underlying37 hi hz0 hz1 hz2 rfl (by omega) _ _ _ rfl (hrow.out.alloc _) ⟨wr.heap.size, 0, none⟩ 1 1 [.int .i64 k, .int .i64 (S.rs[k].low + j)] rfl rfl (World.news_of_block (cs := #[.int .i64 k, .int .i64 (S.rs[k].low + j)]) (t := 46) (fr := (0, 0)) (heap_alloc_new wr _)) (by simp [Value.oneCell']) (by omega) (by unfold maxLen; omega) (by omega) (by simp; omega) (wr.heap.size + 1) (by simp) ?_; intro gg cap w3 hown3 hgrow hat3 hlt3)
      have HP := Lib.hid (pps_step (l := allFrom 0 (S.rs.take k) ++ ofRank k S.rs[k].low j) (p := ((k : Int), S.rs[k].low + j)) hown3 rfl)
      rw [List.append_assoc, show ofRank (k : Int) S.rs[k].low j ++ [((k : Int), S.rs[k].low + (j : Int))] = ofRank k S.rs[k].low (j + 1) from rfl] at HP
      have HB := Lib.hid (push_low hW.out hrow.out hgrow)
      rw [List.length_append] at HP
      refine ⟨⟨j + 1, by omega, by go_num, ?_, HB⟩, by simp [intOf]; omega⟩
      simpa only [List.length_append] using HP
    · have hje : j = m := by omega
      have hj2 : ¬ ((j : Int) < (m : Int)) := by omega
      have HE : RowKit.Hid (wr.ownsRow W0.heap.size 46 2 u3 (allFrom 0 (S.rs.take (k + 1))).length (ppCs (allFrom 0 (S.rs.take (k + 1))))) := by
        have := hrow.out
        rw [hje, ← HMT.out, ← HTK.out] at this
        exact Lib.hid this
      clear hrow hje
      go_wp2
      go_roundw
      case rel => exact ⟨k + 1, by omega, by go_num, HE, hW⟩
      case measure => simp [intOf]; omega
  · have hke : k = S.rs.length := by omega
    have hk2 : ¬ ((k : Int) < (S.rs.length : Int)) := by omega
    have HE := hrow.out
    rw [hke, List.take_length] at HE
    have HB := Lib.hid (HB0.out.trans (hW.out.mono HB0.out.size))
    have HO := Lib.hid (row_base HE HB0.out.size)
    clear HE hrow hke
    go_wp2
    go_ret
    exact ⟨_, rfl, HO.out, HB.out⟩
end Go.Proofs.YtkddeliifadcoaaDoor
