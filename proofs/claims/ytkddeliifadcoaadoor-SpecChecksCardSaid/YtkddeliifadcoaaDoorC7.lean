/-
  CONTRACTS: the closure of Check that checks a part.
-/
import Derived.Test.YtkddeliifadcoaaDoorC4
namespace Go.Proofs.YtkddeliifadcoaaDoor
open Go.RowKit
theorem held_step10 {W0 W w' : World} {a0 : Addr} {u0 : Value} {a1 : Addr} {u1 : Value} {a2 : Addr} {u2 : Value} {a3 : Addr} {u3 : Value} {a4 : Addr} {u4 : Value} {a5 : Addr} {u5 : Value} {a6 : Addr} {u6 : Value} {a7 : Addr} {u7 : Value} {a8 : Addr} {u8 : Value} {a9 : Addr} {u9 : Value} (h : Below W0.heap.size W0 W ∧ W.cell? a0 = some u0 ∧ W.cell? a1 = some u1 ∧ W.cell? a2 = some u2 ∧ W.cell? a3 = some u3 ∧ W.cell? a4 = some u4 ∧ W.cell? a5 = some u5 ∧ W.cell? a6 = some u6 ∧ W.cell? a7 = some u7 ∧ W.cell? a8 = some u8 ∧ W.cell? a9 = some u9) (hb : Below W.heap.size W w') : Below W0.heap.size W0 w' ∧ w'.cell? a0 = some u0 ∧ w'.cell? a1 = some u1 ∧ w'.cell? a2 = some u2 ∧ w'.cell? a3 = some u3 ∧ w'.cell? a4 = some u4 ∧ w'.cell? a5 = some u5 ∧ w'.cell? a6 = some u6 ∧ w'.cell? a7 = some u7 ∧ w'.cell? a8 = some u8 ∧ w'.cell? a9 = some u9 := by
  obtain ⟨h0, g0, g1, g2, g3, g4, g5, g6, g7, g8, g9⟩ := h
  exact ⟨below_step h0 hb, (hb.cell (cell_size g0)).trans g0, (hb.cell (cell_size g1)).trans g1, (hb.cell (cell_size g2)).trans g2, (hb.cell (cell_size g3)).trans g3, (hb.cell (cell_size g4)).trans g4, (hb.cell (cell_size g5)).trans g5, (hb.cell (cell_size g6)).trans g6, (hb.cell (cell_size g7)).trans g7, (hb.cell (cell_size g8)).trans g8, (hb.cell (cell_size g9)).trans g9⟩
set_option maxRecDepth 100000 in
set_option maxHeartbeats 3200000 in
theorem chk1_any (S : Sp) (x : St) (pv : Value) (p : Pt) (Bc Bm n p4 p1 p10 : Nat) (v1 v2 v3 v4 : Value) (f : Nat → Value) (ks : List (List UInt8 × List UInt8)) (w : World) (hc : Chk w Bc Bm n v1 v2 v3 v4 ks) (hsp : SpRd w v1 v2 v3 v4 f S) (hs : S.rs.length ≤ 1000)
    (h4 : Blk w p4 65 #[.pointer (some ⟨Bc, 0, none⟩)]) (h1 : Blk w p1 27 #[v1, v2, v3, v4]) (h10 : Blk w p10 61 #[.string x.name, .int .i64 x.div, .int .i64 x.num, .int .i64 x.den, pv])
    (hd0 : 0 ≤ x.div) (hd : x.div < S.ds.length) (hdv : ∀ d ∈ S.ds, dvE d = 0) (hrv : ∀ r ∈ S.rs, rkE r = 0) :
    Calls Tryd.prog 25 #[.agg #[.int .i64 p.rank, .int .i64 p.shift, .int .i64 p.lo, .int .i64 p.hi], .pointer (some ⟨p4, 0, none⟩), .pointer (some ⟨p1, 0, none⟩), .pointer (some ⟨p10, 0, none⟩)] w fun e w' => e = .returned (.int .i64 (ptE S x p)) ∧ Below w.heap.size w w' := by
  have hb0 : Below w.heap.size w (w.alloc (.cells #[.int .i64 p.rank, .int .i64 p.shift, .int .i64 p.lo, .int .i64 p.hi] 75)) := (Below.refl _ _).alloc (Nat.le_refl _) _
  have k0 : Blk (w.alloc (.cells #[.int .i64 p.rank, .int .i64 p.shift, .int .i64 p.lo, .int .i64 p.hi] 75)) w.heap.size 75 #[.int .i64 p.rank, .int .i64 p.shift, .int .i64 p.lo, .int .i64 p.hi] := Blk.new _ _ _
  have hc0 := hc.below hb0
  have hsp0 := hsp.later hb0
  have k4 := (h4.below hb0).cell 0
  have k1 := (h1.below hb0).cell 0
  have k10 := (h10.below hb0).cell 1
  have q0 := k0.cell 0
  have q1 := k0.cell 1
  have q2 := k0.cell 2
  have q3 := k0.cell 3
  obtain ⟨i, hi⟩ := Int.eq_ofNat_of_zero_le hd0
  have hil : i < S.ds.length := by omega
  obtain ⟨b, o, c2, rfl, hlt, r0, r1, r2⟩ := hsp0.dAt i hil
  have hti : x.div.toNat = i := by omega
  have CP := fun W (hW : Below (w.alloc (.cells #[.int .i64 p.rank, .int .i64 p.shift, .int .i64 p.lo, .int .i64 p.hi] 75)).heap.size (w.alloc (.cells #[.int .i64 p.rank, .int .i64 p.shift, .int .i64 p.lo, .int .i64 p.hi] 75)) W) =>
    part_any S x S.ds[i] p Bc Bm n _ v2 v3 v4 f ks W (hc0.below hW) (hsp0.later hW) hs (by omega) (by simp only [hti]) (hdv _ (List.getElem_mem hil)) hrv
  have HC := Lib.hid CP
  have hi1 : (0 : Int) ≤ (i : Int) := by omega
  have hi2 : (i : Int) < (S.ds.length : Int) := by omega
  have hdr : Below (w.alloc (.cells #[.int .i64 p.rank, .int .i64 p.shift, .int .i64 p.lo, .int .i64 p.hi] 75)).heap.size (w.alloc (.cells #[.int .i64 p.rank, .int .i64 p.shift, .int .i64 p.lo, .int .i64 p.hi] 75)) (w.alloc (.cells #[.int .i64 p.rank, .int .i64 p.shift, .int .i64 p.lo, .int .i64 p.hi] 75)).drew := (Below.refl _ _).drew
  rw [hi] at k10
  generalize S.ds[i] = d at *
  clear CP hti hi hd hd0 hdv hrv hsp hsp0 hc0 hc h4 h1 h10 k0
  go_enter Tryd.func25, Tryd.ntmps25
  go_wp2_with fail
  go_region_held3 (fun w' => Below (w.alloc (.cells #[.int .i64 p.rank, .int .i64 p.shift, .int .i64 p.lo, .int .i64 p.hi] 75)).heap.size (w.alloc (.cells #[.int .i64 p.rank, .int .i64 p.shift, .int .i64 p.lo, .int .i64 p.hi] 75)) w' ∧ w'.cell? ⟨p4, 0, none⟩ = some (.pointer (some ⟨Bc, 0, none⟩)) ∧ w'.cell? ⟨p1, 0, none⟩ = some (.slice (some ⟨b, o, none⟩) S.ds.length c2) ∧ w'.cell? ⟨p10, 1, none⟩ = some (.int .i64 i) ∧ w'.cell? ⟨b, o + i * 3, none⟩ = some (.string d.name) ∧ w'.cell? ⟨b, o + i * 3 + 1, none⟩ = some (.int .i64 d.lo) ∧ w'.cell? ⟨b, o + i * 3 + 2, none⟩ = some (.int .i64 d.hi) ∧ w'.cell? ⟨w.heap.size, 0, none⟩ = some (.int .i64 p.rank) ∧ w'.cell? ⟨w.heap.size, 1, none⟩ = some (.int .i64 p.shift) ∧ w'.cell? ⟨w.heap.size, 2, none⟩ = some (.int .i64 p.lo) ∧ w'.cell? ⟨w.heap.size, 3, none⟩ = some (.int .i64 p.hi)) (first | exact ⟨hdr, k4, k1, k10, r0, r1, r2, q0, q1, q2, q3⟩ | assumption) (first | (go_at_call 26; refine (HC.out _ (by first | exact And.left (by assumption) | exact hdr)).mono ?_; rintro e w2 ⟨rfl, hb2⟩; have hn := held_step10 (by assumption) hb2; clear hb2))
  go_wp2
  go_ret
  exact ⟨rfl, below_step hb0 hn.1⟩
end Go.Proofs.YtkddeliifadcoaaDoor
