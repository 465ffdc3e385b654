/-
  CONTRACTS: within, footage, named.
-/
import Derived.Test.YtkddeliifadcoaaDoorW1
import Derived.Test.YtkddeliifadcoaaDoorW10
import Derived.Test.YtkddeliifadcoaaDoorArr
import Derived.Test.YtkddeliifadcoaaDoorSpL
import Derived.Test.YtkddeliifadcoaaDoorSeen
namespace Go.Proofs.YtkddeliifadcoaaDoor
open Go.RowKit
set_option maxHeartbeats 400000 in
theorem within_yes (n a b : Int) (w : World) (h1 : a ≤ n) (h2 : n ≤ b) : Calls Tryd.prog 35 #[.int .i64 n, .int .i64 a, .int .i64 b] w fun e w' => e = .returned (.bool true) ∧ w = w' := by
  go_enter Tryd.func35, Tryd.ntmps35
  go_wp2
  go_ret
  exact ⟨rfl, rfl⟩
set_option maxHeartbeats 400000 in
theorem within_no (n a b : Int) (w : World) (h : ¬ (a ≤ n ∧ n ≤ b)) : Calls Tryd.prog 35 #[.int .i64 n, .int .i64 a, .int .i64 b] w fun e w' => e = .returned (.bool false) ∧ w = w' := by
  have h' : n < a ∨ a ≤ n ∧ b < n := by omega
  clear h
  rcases h' with h | ⟨h1, h2⟩
  · have h3 : ¬ a ≤ n := by omega
    go_enter Tryd.func35, Tryd.ntmps35
    go_wp2
    go_ret
    exact ⟨rfl, rfl⟩
  · have h3 : ¬ n ≤ b := by omega
    go_enter Tryd.func35, Tryd.ntmps35
    go_wp2
    go_ret
    exact ⟨rfl, rfl⟩
theorem feetOk_iff (n d : Int) : FeetOk n d ↔ ValidF n d := Iff.rfl
set_option maxHeartbeats 800000 in
theorem footage_yes (n d : Int) (w : World) (t : Tabs w) (h : FeetOk n d) : Calls Tryd.prog 46 #[.agg #[.int .i64 n, .int .i64 d]] w fun e w' => e = .returned (.bool true) ∧ Below w.heap.size w w' := by
  have hb0 : Below w.heap.size w (w.alloc (.cells #[.int .i64 n, .int .i64 d] 56)) := (Below.refl _ _).alloc (Nat.le_refl _) _
  have t0 := t.below hb0
  have hp1 : ((n.toNat : Nat) : Int) = n := by have := h.2.2.1; omega
  have hp2 : ((d.toNat : Nat) : Int) = d := by have := h.1; omega
  obtain ⟨f, hf⟩ := mkL (feetL n.toNat d.toNat)
  have C := fun W T => feet_yes n.toNat d.toNat f hf W T (by rw [hp1, hp2]; exact h)
  rw [hp1, hp2] at C
  have CF := Lib.hid C
  clear C hp1 hp2 h hf
  go_enter Tryd.func46, Tryd.ntmps46
  go_wp2_with fail
  refine (CF.out _ t0).mono ?_
  rintro e w1 ⟨rfl, hb⟩
  go_wp2
  go_ret
  exact ⟨rfl, below_step hb0 hb⟩
set_option maxHeartbeats 800000 in
theorem footage_no (n d : Int) (w : World) (h : ¬ FeetOk n d) : Calls Tryd.prog 46 #[.agg #[.int .i64 n, .int .i64 d]] w fun e w' => e = .returned (.bool false) ∧ Below w.heap.size w w' := by
  have hb0 : Below w.heap.size w (w.alloc (.cells #[.int .i64 n, .int .i64 d] 56)) := (Below.refl _ _).alloc (Nat.le_refl _) _
  have CF := Lib.hid (fun W => feet_no n d W h)
  clear h
  go_enter Tryd.func46, Tryd.ntmps46
  go_wp2_with fail
  refine (CF.out _).mono ?_
  rintro e w1 ⟨rfl, hb⟩
  go_wp2
  go_ret
  exact ⟨rfl, below_step hb0 hb⟩
/-- The checker in memory: the specification's slices, the map of the names seen. -/
structure Chk (w : World) (Bc Bm n : Nat) (v1 v2 v3 v4 : Value) (ks : List (List UInt8 × List UInt8)) : Prop where
  blk : Blk w Bc 68 #[v1, v2, v3, v4, .map (some Bm)]
  seen : Seen Tryd.prog 9 4 w Bm n ks
  ne : Bc ≠ Bm
theorem Chk.below {w w' : World} {Bc Bm n : Nat} {v1 v2 v3 v4 : Value} {ks : List (List UInt8 × List UInt8)} (h : Chk w Bc Bm n v1 v2 v3 v4 ks) (hb : Below w.heap.size w w') : Chk w' Bc Bm n v1 v2 v3 v4 ks :=
  ⟨h.blk.below hb, h.seen.below hb, h.ne⟩
theorem Chk.cells {w : World} {Bc Bm n : Nat} {v1 v2 v3 v4 : Value} {ks : List (List UInt8 × List UInt8)} (h : Chk w Bc Bm n v1 v2 v3 v4 ks) : w.cell? ⟨Bc, 0, none⟩ = some v1 ∧ w.cell? ⟨Bc, 1, none⟩ = some v2 ∧ w.cell? ⟨Bc, 2, none⟩ = some v3 ∧ w.cell? ⟨Bc, 3, none⟩ = some v4 ∧ w.cell? ⟨Bc, 4, none⟩ = some (.map (some Bm)) :=
  ⟨h.blk.cell 0, h.blk.cell 1, h.blk.cell 2, h.blk.cell 3, h.blk.cell 4⟩
theorem zero_bool (w : World) : (zeroValue 4).run Tryd.prog w = .ok (.bool false) w := by kernel_rfl
theorem name_is (s : ByteArray) (b : Bool) (h : nameB (L s) = b) (w : World) (hs : s.size ≤ maxLen) :
    Calls Tryd.prog 47 #[.string s] w fun e w' => e = .returned (.bool b) ∧ w = w' :=
  (name_any s w hs).mono fun _ _ ⟨he, hw⟩ => ⟨by rw [he, h], hw⟩
set_option maxHeartbeats 400000 in
theorem named_form (kb nm : ByteArray) (p : Value) (w : World) (hz : nm.size ≤ 1000) (h : nameB (L nm) = false) :
    Calls Tryd.prog 45 #[p, .string kb, .string nm] w fun e w' => e = .returned (.int .i64 6) ∧ w = w' := by
  have CN := Lib.hid (fun W => name_is nm false h W (by unfold maxLen; omega))
  clear h
  go_enter Tryd.func45, Tryd.ntmps45
  go_wp2_with (go_at_call 47; refine (CN.out _).mono ?_; rintro e w' ⟨rfl, rfl⟩)
  go_ret
  exact ⟨rfl, rfl⟩
set_option maxHeartbeats 800000 in
theorem named_twice (kb nm : ByteArray) (Bc Bm n : Nat) (v1 v2 v3 v4 : Value) (ks : List (List UInt8 × List UInt8)) (w : World) (hc : Chk w Bc Bm n v1 v2 v3 v4 ks) (hk : kb.size ≤ 1000) (hz : nm.size ≤ 1000) (h : nameB (L nm) = true) (hm : (L kb, L nm) ∈ ks) :
    Calls Tryd.prog 45 #[.pointer (some ⟨Bc, 0, none⟩), .string kb, .string nm] w fun e w' => e = .returned (.int .i64 8) ∧ w = w' := by
  have CN := Lib.hid (fun W => name_is nm true h W (by unfold maxLen; omega))
  obtain ⟨c0, c1, c2, c3, c4⟩ := hc.cells
  have hs := hc.seen
  have h32 := name_no32 h
  have HK := Lib.hid (show L (kb ++ ⟨#[32]⟩ ++ nm) = Key (L kb) (L nm) by rw [L_append, L_append, Key]; simp [L])
  have HM := Lib.hid (decide_eq_true hm)
  have p1 : ¬ 9223372036854775807 < kb.size + 1 := by omega
  have p2 : ¬ 9223372036854775807 < kb.size + 1 + nm.size := by omega
  have hz2 : (kb ++ ⟨#[32]⟩ ++ nm).size ≤ maxLen := by simp only [ByteArray.size_append, maxLen]; have : (⟨#[32]⟩ : ByteArray).size = 1 := rfl; omega
  clear hm h
  go_enter Tryd.func45, Tryd.ntmps45
  go_wp2_with (first | (go_at_call 47; refine (CN.out _).mono ?_; rintro e w' ⟨rfl, rfl⟩) | (at_lookup; refine wpList_lookup_seen _ rfl _ _ 66 rfl 9 4 Tryd.underlying9 Tryd.underlying4 Tryd.underlying66 (zero_bool _) Bm n ks rfl hs _ rfl (L kb) (L nm) HK.out hz2 h32 ?_; rw [HM.out]))
  go_ret
  exact ⟨rfl, rfl⟩
set_option maxHeartbeats 800000 in
theorem named_new (kb nm : ByteArray) (Bc Bm n : Nat) (v1 v2 v3 v4 : Value) (ks : List (List UInt8 × List UInt8)) (w : World) (hc : Chk w Bc Bm n v1 v2 v3 v4 ks) (hn : n ≤ 100000) (hk : kb.size ≤ 1000) (hz : nm.size ≤ 1000) (h : nameB (L nm) = true) (hm : (L kb, L nm) ∉ ks) :
    Calls Tryd.prog 45 #[.pointer (some ⟨Bc, 0, none⟩), .string kb, .string nm] w fun e w' => e = .returned (.int .i64 0) ∧ Chk w' Bc Bm (n + 1) v1 v2 v3 v4 ((L kb, L nm) :: ks) ∧ w.grownBy w' (some Bm) := by
  have CN := Lib.hid (fun W => name_is nm true h W (by unfold maxLen; omega))
  obtain ⟨c0, c1, c2, c3, c4⟩ := hc.cells
  have hs := hc.seen
  have h32 := name_no32 h
  have HK := Lib.hid (show L (kb ++ ⟨#[32]⟩ ++ nm) = Key (L kb) (L nm) by rw [L_append, L_append, Key]; simp [L])
  have HM := Lib.hid (decide_eq_false hm)
  have p1 : ¬ 9223372036854775807 < kb.size + 1 := by omega
  have p2 : ¬ 9223372036854775807 < kb.size + 1 + nm.size := by omega
  have hz2 : (kb ++ ⟨#[32]⟩ ++ nm).size ≤ maxLen := by simp only [ByteArray.size_append, maxLen]; have : (⟨#[32]⟩ : ByteArray).size = 1 := rfl; omega
  clear hm h
  go_enter Tryd.func45, Tryd.ntmps45
  go_wp2_with (first | (go_at_call 47; refine (CN.out _).mono ?_; rintro e w' ⟨rfl, rfl⟩) | (at_lookup; refine wpList_lookup_seen _ rfl _ _ 66 rfl 9 4 Tryd.underlying9 Tryd.underlying4 Tryd.underlying66 (zero_bool _) Bm n ks rfl hs _ rfl (L kb) (L nm) HK.out hz2 h32 ?_; rw [HM.out]) | (at_mapUpdate; refine wpList_update_seen _ rfl _ _ _ 66 rfl 9 4 Tryd.underlying9 Tryd.underlying4 Tryd.underlying66 Bm n ks rfl hs (by unfold maxLen; omega) _ rfl rfl (L kb) (L nm) HK.out hz2 h32 ?_; intro w1 hs1 hg1))
  go_ret
  refine ⟨rfl, ⟨?_, hs1, hc.ne⟩, hg1⟩
  exact (hg1.block Bc hc.blk.lt (fun e => hc.ne (Option.some.inj e))).trans hc.blk
end Go.Proofs.YtkddeliifadcoaaDoor
